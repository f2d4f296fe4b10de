import Derived.Test.YtfinkeaikbmpgaaDoorKAm44
import Derived.Test.YtfinkeaikbmpgaaDoorKD2
import Derived.Test.YtfinkeaikbmpgaaDoorKT26
import Derived.Test.YtfinkeaikbmpgaaDoorKM7
import Derived.Lib.AtoiAllCases
import Derived.Lib.ItoaNum
import Derived.Test.YtfinkeaikbmpgaaDoorKT67
import Derived.Test.YtfinkeaikbmpgaaDoorKAm48
import Derived.Lib.Replace
import Derived.Lib.IndexBytes
import Derived.Shelf.Strconv.AtoiAll
import Derived.Shelf.Strconv.Itoa3
import Derived.Shelf.Strings.Replace
set_option linter.unusedSimpArgs false
set_option linter.unusedVariables false
set_option linter.unnecessarySimpa false
set_option linter.defProp false
/- topiaryref.forest, walked. -/
namespace Go.Am
open Go Go.RowKit
def QE {S:St} {env:Env} {H:Hp} {l:Lb} {sz:Nat} {els:List (List AV)} (hl:H l= .live ⟨sz,els⟩):nQ S env H env (bD H l (.live ⟨sz,els.map fun cs=>cs.map norm⟩)):=by
 have e:O6 (S0 (fun q=>q==l)) H=bD H l (.live ⟨sz,els.map fun cs=>cs.map norm⟩):=by
  funext q;by_cases h:q=l
  ·subst h;have:(S0 (fun q'=>q'==q) q)=norm:=(by funext x;simp[S0]);simp only[ae,Vp,O6,hl,this]
  have:(S0 (fun q'=>q'==l) q)=id:=by funext x;simp[S0,h]
  rw[aq _ _ h];unfold O6;cases hq:H q with
  |live r=>simp[this]
  |_=>rfl
 rw[←e];exact Qq _
def Sn (xs:List IV):((aB xs).map fun cs=>cs.map norm)=aB xs:=by
 simp only[aB,W2];refine VO fun y _=> ?_;simp only[Function.comp,W2];refine VO fun z _=> ?_;cases z<;>rfl
def Rb {S:St} {env:Env} {o:List Tree} {t d:Nat} {x y:Tree} {H H1:Hp} {els:List (List AV)} {at':AV} (hB:NT fl o H) (hE:∀l:Lb,l.entry=true→H l= .unused) (hx:o[t]?=some x) (hT:x.text=false)
  (ha:at'=if t=0 then .nil0 else .list (cD x.attrs)) (h0:H1 (fl 0)= .live ⟨4,(o.mapIdx (PN fl)).set t [.bool false,.str x.s,at',.sl (.loc d) 4 0 (x.kids.length+1)]⟩)
  (h1:H1 (.loc d)= .live ⟨4,els⟩) (h2:(els.map fun cs=>cs.map norm)=aB (dq (x.kids++[y]))) (h3:∀q,q≠fl 0→q≠fl (1+t)→q≠ .loc d→H1 q=H q) :
  ∃H2,nQ S env H1 env H2∧NT (OH t (.loc d)) (o.set t (x.MZ [y])) H2∧∀l:Lb,l.entry=true→H2 l= .unused:=by
 refine⟨_,QE h1,?_,fun l he=> ?_⟩
 ·refine hB.set hx ?_ ?_ (fun p=>by simp[fl]) ?_ ?_ ?_
  ·cases x;rfl
  ·cases x;rfl
  ·rw[aq _ _ (by simp[fl]),h0];congr 3;have hk:(x.MZ [y]).kids.length=x.kids.length+1:=(by cases x;simp[Tree.MZ,Tree.kids]);have hs:(x.MZ [y]).s=x.s∧(x.MZ [y]).attrs=x.attrs:=(by cases x;exact⟨rfl,rfl⟩);simp only[PN,hk,hs,ha,OH,Vp]
  ·rw[ae,Vd rfl,h2];cases x;rfl
  intro p hp B1;rw[aq _ _ (by simp[fl])];exact h3 _ (by rw[Ne,NL];exact hp) (by rw[Ne,NL];exact B1) (by simp[fl])
 have n1:l≠ .loc d:=by rintro rfl;simp[Lb.entry] at he
 rw[aq _ _ n1,h3 l (by rintro rfl;simp[fl,Lb.entry] at he) (by rintro rfl;simp[fl,Lb.entry] at he) n1];exact hE l he
def Tj {S:St} {Q:gI} {k:List It} {env:Env} {H:Hp} (is:List bh) (es:List (List Nat)) (fs:List Fp) :
 go S Q (.code (.gh .J7 (.fK is es fs))::k) env H=((es.zipIdx.all fun p=>p.1.all fun e=>decide (e<p.2))=true∧C5 S is es (go S Q k) is.length [] env H):=by rw[go]
def SN {S:St} {k:Env→Hp→Prop} {env:Env} {H:Hp} {d e:Nat} (hd:d<S.N) (he:e<S.N) (U4:e≠d) (hu:H (.loc d)= .unused)
  (hk:∀b H',(∀q,q≠ .loc d→H' q=H q)→k (put (put env d (.ptr (.loc d) 1 0 0)) e (.bool b)) H') :
  C5 S [⟨some d,none,.new [.bool false]⟩,⟨none,none,.store 1 (.t d) (.c (.bool true))⟩,⟨none,none,.store 1 (.t d) (.c (.bool false))⟩,⟨some e,none,.load none (.t d)⟩] [[],[0],[0],[0,0,1,2]] k 4 [] env H:=by
 have fin:∀(done:List Nat) (b:Bool) (H':Hp),1∈done→2∈done→0∈done→3∉done→(∀q,q≠ .loc d→H' q=H q)→H' (.loc d)= .live ⟨1,[[.bool b]]⟩ →
   C5 S [⟨some d,none,.new [.bool false]⟩,⟨none,none,.store 1 (.t d) (.c (.bool true))⟩,⟨none,none,.store 1 (.t d) (.c (.bool false))⟩,⟨some e,none,.load none (.t d)⟩] [[],[0],[0],[0,0,1,2]] k 1 done (put env d (.ptr (.loc d) 1 0 0)) H':=by
  intro done b H' h1 h2 h0 h3 hq hb;refine fun j i hj R0 Sx=> ?_
  match j with
  |0=>exact absurd h0 R0
  |1=>exact absurd h1 R0
  |2=>exact absurd h2 R0
  |3=>
   simp only[Wq,VQ,di] at hj;subst hj;refine .inl ⟨rfl,fun n hn=>by cases hn;exact he,.inr ⟨.bool b,?_,?_⟩⟩
   ·simp[ee,ev,put,hb]
   exact hk b H' hq
  |j+4=>simp at hj
 have st:∀(b0 b:Bool) (H':Hp),H' (.loc d)= .live ⟨1,[[.bool b0]]⟩→gZ 1 (ev (put env d (.ptr (.loc d) 1 0 0)) (.t d)) (ev (put env d (.ptr (.loc d) 1 0 0)) (.c (.bool b))) H'=some (bD H' (.loc d) (.live ⟨1,[[.bool b]]⟩)):=by
  intro b0 b H' h;simp[gZ,ev,put,h,AV.sI,AV.one,AV.cells]
 refine fun j i hj R0 Sx=> ?_
 match j with
 |0=>
  simp only[VQ,di] at hj;subst hj;refine .inl ⟨rfl,fun n hn=>by cases hn;exact hd,d,rfl,hu,by simp,by simp[maxLen],?_⟩;refine fun j i hj R0 Sx=> ?_
  match j with
  |0=>simp at R0
  |1=>
   simp only[Wq,VQ,di] at hj;subst hj;refine .inl ⟨rfl,(fun n hn=>nomatch hn),rfl,_,st false true _ (by simp[ae]),?_⟩;refine fun j i hj R0 Sx=> ?_
   match j with
   |0=>simp at R0
   |1=>simp at R0
   |2=>
    simp only[Wq,VQ,di] at hj;subst hj;refine .inl ⟨rfl,(fun n hn=>nomatch hn),rfl,_,st true false _ (by simp[ae]),?_⟩;exact fin _ false _ (by simp) (by simp) (by simp) (by simp) (fun q hq=>by simp[aq _ _ hq]) (by simp[ae])
   |3=>have:=Sx 2 (by simp);simp at this
   |j+4=>simp at hj
  |2=>
   simp only[Wq,VQ,di] at hj;subst hj;refine .inl ⟨rfl,(fun n hn=>nomatch hn),rfl,_,st false false _ (by simp[ae]),?_⟩;refine fun j i hj R0 Sx=> ?_
   match j with
   |0=>simp at R0
   |2=>simp at R0
   |1=>
    simp only[Wq,VQ,di] at hj;subst hj;refine .inl ⟨rfl,(fun n hn=>nomatch hn),rfl,_,st false true _ (by simp[ae]),?_⟩;exact fin _ true _ (by simp) (by simp) (by simp) (by simp) (fun q hq=>by simp[aq _ _ hq]) (by simp[ae])
   |3=>have:=Sx 1 (by simp);simp at this
   |j+4=>simp at hj
  |3=>have:=Sx 1 (by simp);simp at this
  |j+4=>simp at hj
 |1=>have:=Sx 0 (by simp);simp at this
 |2=>have:=Sx 0 (by simp);simp at this
 |3=>have:=Sx 0 (by simp);simp at this
 |j+4=>simp at hj
def So {S:St} {env:Env} {o1:List Tree} {u x:Tree} {k d:Nat} {H1:Hp} {els E2:List (List AV)} {at':AV} (hk:k=o1.length) (hE:∀l:Lb,l.entry=true→H1 l= .unused) (hT:u.text=false)
  (ha:at'=if k=0 then .nil0 else .list (cD u.attrs)) (TA:E2.take (k+1)=(o1++[u]).mapIdx (PN fl)) (h0:H1 (fl 0)= .live ⟨4,E2.set k [.bool false,.str u.s,at',.sl (.loc d) 4 0 (u.kids.length+1)]⟩)
  (h1:H1 (.loc d)= .live ⟨4,els⟩) (h2:(els.map fun cs=>cs.map norm)=aB (dq (u.kids++[x]))) (h3:∀j z,o1[j]?=some z→H1 (fl (1+j))= .live ⟨4,aB (dq z.kids)⟩) :
  ∃H2,nQ S env H1 env H2∧NT (OH k (.loc d)) (o1++[u.MZ [x]]) H2∧∀l:Lb,l.entry=true→H2 l= .unused:=by
 have hs:(o1++[u]).set k (u.MZ [x])=o1++[u.MZ [x]]:=by rw[hk,WZ _ _ (Va _),WJ];rfl
 have hu:(o1++[u])[k]?=some u:=by rw[hk,Vz (Va _),WJ];rfl
 have hB:NT fl (o1++[u]) (bD (bD H1 (fl (1+k)) (.live ⟨4,aB (dq u.kids)⟩)) (fl 0) (.live ⟨4,(o1++[u]).mapIdx (PN fl)⟩)):=by
  refine NT.mk' (fun p q _ _ e=>O2 e) (by simp[ae]) fun j z hz=> ?_;rw[aq _ _ (by rw[Ne,NL];omega)];by_cases e:j=k
  ·subst e;rw[hu] at hz;cases hz;simp[ae]
  rw[aq _ _ (by rw[Ne,NL];omega)];have bI:=(U9.1 hz).1;simp at bI;rw[VF (by omega)] at hz;exact h3 j z hz
 have fO:∀l:Lb,l.entry=true→l≠fl 0∧l≠fl (1+k):=fun l he=>⟨by rintro rfl;simp[fl,Lb.entry] at he,by rintro rfl;simp[fl,Lb.entry] at he⟩;obtain⟨H2,w2,a2,e2⟩:=Rb (S:=S) (env:=env) (d:=d) (y:=x) (els:=els) (H1:=bD H1 (fl 0) (.live ⟨4,(E2.set k [.bool false,.str u.s,at',.sl (.loc d) 4 0 (u.kids.length+1)]).take (k+1)⟩)) hB
  (fun l he=>by rw[aq _ _ (fO l he).1,aq _ _ (fO l he).2];exact hE l he) hu hT ha (by rw[←TA,List.take_set];simp[ae]) (by rw[aq _ _ (by simp[fl])];exact h1) h2
  (fun q a b c=>by rw[aq _ _ a,aq _ _ a,aq _ _ b])
 exact⟨H2,(Qr (k+1) h0).trans w2,by rw[←hs];exact a2,e2⟩
def OW {ks:List Tree} {b cs:List AV} {y:Tree} (h:cs.map norm=[.bool y.text,.str y.s,.list (cD y.attrs),.list (dq y.kids)]):(((aB (dq ks)++[b]).set ks.length cs).map fun cs=>cs.map norm)=aB (dq (ks++[y])):=by
 rw[WZ _ _ (by rw[lQ,bF];exact Va _),lQ,bF,WJ,XZ,Sn,qh,lR];congr 1;simp[h,dq,aB,Tree.o_,IV.cells,Tree.cs,IV.dQ]
def RU {ks:List Tree} {cs:List AV} {y:Tree} (h:cs.map norm=[.bool y.text,.str y.s,.list (cD y.attrs),.list (dq y.kids)]):((aB (dq ks)++[cs]).map fun cs=>cs.map norm)=aB (dq (ks++[y])):=by
 have:=OW (ks:=ks) (b:=cs) h
 rwa[WZ _ _ (by rw[lQ,bF];exact Va _),lQ,bF,WJ] at this
def NT.loc {o:List Tree} {H:Hp} (h:NT fl o H) (n:Nat) (s:Slot):NT fl o (bD H (.loc n) s):=⟨fun p r hp=>by rw[aq _ _ (by simp[fl])];exact h.row p r hp,h.inj⟩
def PQ (t d p:Nat):(OH t (.loc d) p).fresh=true:=by unfold OH;split<;>rfl
section
variable {P:Program} {G:Nat→Option (List IV)}
def NU (M_ MS b7 M1 Na Nb:Nat):AC:=
(aM [zi 2,jM 3 false] (aM [MR 17 0,aQ 18 (.call M_ [(.t 17)]),MR 16 18,ox 19 16 0,ox 20 16 1,MR 4 19,MR 5 20] (.seq (aM [MR 21 5,sB 22 21] (.cond (.t 22) (aM [zi 2,jM 3 false] .ret) .skip)) (aM [aQ 23 (.sg [(.bool false),(.str []),.nil0,.nil0] []),aQ 24 (.gG 4 [(.bool false),(.str []),.nil0,.nil0] [(0,(.t 23))]),MR 6 24] (.seq (.gh .vk (aM [MR 25 4,oy 26 25,gH 27 0] (.block 0 (.loop (aM [et 28 .lss 27 26] (.seq (.cond (.t 28) .skip (.exit 0)) (.seq (.block 1 (aM [jL 29 25 27 1,fm 30 29,MR 8 30] (aM [MR 31 6,oy 32 31,eY 33 .sub 32 1,MR 9 33] (.seq (aM [MR 34 8,aQ 35 (.lj (.t 34) (jS 0)),aQ 36 (.bin .neq (.t 35) (.c (.int .u8 60)))] (.cond (.t 36) (aM [MR 38 8,aQ 39 (.call MS [(.t 38),(me false)]),MR 37 39,ox 40 37 0,ox 41 37 1,MR 10 40,MR 11 41] (.seq (aM [MR 42 11,sB 43 42] (.cond (.t 43) (aM [zi 2,jM 3 false] .ret) .skip)) (.seq (.fK [MR 44 6,MR 45 9,jL 46 44 45 4,ep 47 46 3,fm 48 47,MR 49 10,aQ 50 (.sg [(.bool false),(.str []),.nil0,.nil0] [(0,(1,(me true))),(1,(1,(.t 49)))]),oy 51 48,aQ 52 (.lits 1 4 [(.bool false),(.str []),.nil0,.nil0] [(0,(.c (.agg [(.bool false),(.str []),.nil0,.nil0])))]),aQ 53 (.app (.t 48) (.t 52) 4 72),jL 54 53 51 4,gg (.store 4 (.t 54) (.t 50)),jL 55 44 45 4,ep 56 55 3,gg (.store 1 (.t 56) (.t 53))] [[],[],[0,1],[2],[3],[],[5],[4],[],[4,8,0,1,2,3,4,5,6,7,8],[9,7,0,1,2,3,4,5,6,7,8,9],[10,6,9,0,1,2,3,4,5,6,7,8,9],[0,1,0,1,2,3,4,5,6,7,8,9],[12,0,1,2,3,4,5,6,7,8,9],[13,9,9,0,1,2,3,4,5,6,7,8,9]] [.no,.no,.no,.no,(.rw [(.nest (.loc 900) 0 3)] []),.no,.no,.no,.no,(.rw [] [(.nest (.loc 900) 0 3),(.loc 53)]),.no,(.rw [] [(.loc 53)]),.no,.no,(.rw [] [(.nest (.loc 900) 0 3)])]) (.exit 1)))) .skip)) (.seq (aM [MR 57 8,aQ 58 (.call b7 [(.t 57),(.c (.str [60,47]))])] (.cond (.t 58) (aM [MR 59 8,aQ 60 (.kB (.t 59) (some (jS 2)) none),aQ 61 (.call M1 [(.t 60),(.c (.str [62]))]),aQ 62 (.call Na [(.t 61),(.c (.str [32,10]))]),MR 12 62] (.seq (aM [MR 63 9,eY 64 .eql 63 0,MR 65 64,gV 66 65 12,gV 67 65 6,gV 68 65 9,iR 69 65 (.tR (.t 67) (.t 68) 4),oH 70 65 69 1,oG 71 65 70,iR 72 65 (.bin .neq (.t 66) (.t 71)),sj 73 65 72] (.cond (.t 73) (aM [zi 2,jM 3 false] .ret) .skip)) (.seq (.seq (.gh .J7 (.fK [aQ 74 (.new [(.bool false)]),gg (.store 1 (.t 74) (me true)),gg (.store 1 (.t 74) (me false)),fm 75 74] [[],[0],[0],[0,0,1,2]] [.rw [] [.loc 74],.rw [] [.loc 74],.rw [] [.loc 74],.rw [.loc 74] []])) (.gh .vk (.cond (.t 75) (.seq (.fK [MR 76 6,MR 77 9,eY 78 .sub 77 1,MR 79 6,MR 80 9,eY 81 .sub 80 1,jL 82 79 81 4,ep 83 82 3,fm 84 83,MR 85 6,MR 86 9,jL 87 85 86 4,gz 88 4 87,oy 89 84,aQ 90 (.lits 1 4 [(.bool false),(.str []),.nil0,.nil0] [(0,(.c (.agg [(.bool false),(.str []),.nil0,.nil0])))]),aQ 91 (.app (.t 84) (.t 90) 4 72),jL 92 76 78 4,ep 93 92 3,gg (.store 1 (.t 93) (.t 91))] [[],[],[1],[],[],[4],[3,5],[6],[7],[],[],[9,10],[11],[8],[],[8,14,0,1,2,3,4,5,6,7,8,9,10,11,12,13,14],[0,2,0,1,2,3,4,5,6,7,8,9,10,11,12,13,14,15],[16,0,1,2,3,4,5,6,7,8,9,10,11,12,13,14,15],[17,15,15,0,1,2,3,4,5,6,7,8,9,10,11,12,13,14,15]] [.no,.no,.no,.no,.no,.no,.no,.no,(.rw [(.nest (.loc 900) 0 3)] []),.no,.no,.no,(.rw [(.nest (.loc 900) 0 3)] []),.no,.no,(.rw [] [(.nest (.loc 900) 0 3),(.loc 91)]),.no,.no,(.rw [] [(.nest (.loc 900) 0 3)])]) (.cq [jL 94 91 89 4,gg (.store 4 (.t 94) (.t 88))])) (.fK [MR 95 6,MR 96 9,eY 97 .sub 96 1,MR 98 6,MR 99 9,eY 100 .sub 99 1,jL 101 98 100 4,ep 102 101 3,fm 103 102,MR 104 6,MR 105 9,jL 106 104 105 4,gz 107 4 106,aQ 108 (.lits 1 4 [(.bool false),(.str []),.nil0,.nil0] [(0,(.t 107))]),aQ 109 (.app (.t 103) (.t 108) 4 72),jL 110 95 97 4,ep 111 110 3,gg (.store 1 (.t 111) (.t 109))] [[],[],[1],[],[],[4],[3,5],[6],[7],[],[],[9,10],[11],[12],[8,13],[0,2,0,1,2,3,4,5,6,7,8,9,10,11,12,13,14],[15,0,1,2,3,4,5,6,7,8,9,10,11,12,13,14],[16,14,14,0,1,2,3,4,5,6,7,8,9,10,11,12,13,14]] [.no,.no,.no,.no,.no,.no,.no,.no,(.rw [(.nest (.loc 900) 0 3)] []),.no,.no,.no,(.rw [(.nest (.loc 900) 0 3)] []),.no,(.rw [] [(.nest (.loc 900) 0 3),(.loc 109)]),.no,.no,(.rw [] [(.nest (.loc 900) 0 3)])])))) (aM [MR 112 6,MR 113 9,aQ 114 (.zr (.t 112) none (some (.t 113)) none 4),MR 6 114] (.exit 1))))) .skip)) (aM [MR 116 8,aQ 117 (.call Nb [(.t 116)]),MR 115 117,ox 118 115 0,ox 119 115 1,ox 120 115 2,aQ 13 (.new [(.bool false),(.str []),.nil0,.nil0]),gg (.store 4 (.t 13) (.t 118)),MR 14 119,MR 15 120] (.seq (aM [MR 121 15,sB 122 121,MR 123 122,gV 124 123 6,iR 125 123 (.len (.t 124)),iR 126 123 (.bin .gtr (.t 125) (jS 8)),sj 127 123 126] (.cond (.t 127) (aM [zi 2,jM 3 false] .ret) .skip)) (aM [MR 128 14] (.cond (.t 128) (.fK [MR 129 6,MR 130 9,jL 131 129 130 4,ep 132 131 3,fm 133 132,gz 134 4 13,oy 135 133,aQ 136 (.lits 1 4 [(.bool false),(.str []),.nil0,.nil0] [(0,(.c (.agg [(.bool false),(.str []),.nil0,.nil0])))]),aQ 137 (.app (.t 133) (.t 136) 4 72),jL 138 137 135 4,gg (.store 4 (.t 138) (.t 134)),jL 139 129 130 4,ep 140 139 3,gg (.store 1 (.t 140) (.t 137))] [[],[],[0,1],[2],[3],[],[4],[],[4,7,0,1,2,3,4,5,6,7],[8,6,0,1,2,3,4,5,6,7,8],[9,5,8,0,1,2,3,4,5,6,7,8],[0,1,0,1,2,3,4,5,6,7,8],[11,0,1,2,3,4,5,6,7,8],[12,8,8,0,1,2,3,4,5,6,7,8]] [.no,.no,.no,.no,(.rw [(.nest (.loc 900) 0 3)] []),.rw [.loc 13] [],.no,.no,(.rw [] [(.nest (.loc 900) 0 3),(.loc 137)]),.no,(.rw [] [(.loc 137)]),.no,.no,(.rw [] [(.nest (.loc 900) 0 3)])]) (.cq [MR 141 6,gz 142 4 13,aQ 143 (.gG 4 [(.bool false),(.str []),.nil0,.nil0] [(0,(.t 142))]),aQ 144 (.app (.t 141) (.t 143) 4 72),MR 6 144])))))))))) (.gh .vk (.cq [eY 145 .add 27 1,MR 27 145]))))))))) (aM [MR 146 6,aQ 147 (.tR (.t 146) (jS 0) 4),ep 148 147 3,fm 149 148,MR 150 6,oy 151 150,eY 152 .eql 151 1,MR 2 149,MR 3 152] (.gh (.zS (.nest (.loc 900) 1 3) 2) .ret)))))))
abbrev Ug (l:List Bs):Type:={q:Nat×List Tree // q.1≤l.length∧q.2≠[]∧q.2.length≤9∧(l.drop q.1).foldlM Ni q.2.reverse=l.foldlM Ni [N0]∧∀x∈q.2,x.text=false∧x.kids.length≤q.1}
set_option maxHeartbeats 4000000 in
def SO {MX M_ MS b7 M1 Na Nb:Nat} (hF:aw P G MX=some (153,[(none,2),(none,3)],(NU M_ MS b7 M1 Na Nb).bare)) (s:Bs) (hs:s.length≤4096)
  (hP:au P G M_ [.str s] (Of s)) (TN:∀m:Bs,m.length≤4096→au P G MS [.str m,.bool false] (Nx false m))
  (Uh:∀m:Bs,m.length≤4096→au P G b7 [.str m,.str [60,47]] (.bool ([60,47].isPrefixOf m)))
  (Ub:∀s:Bs,s.length≤4096→au P G M1 [.str s,.str [62]] (.str (Lib.trimSuffix s [62])))
  (UU:∀s:Bs,s.length≤4096→au P G Na [.str s,.str [32,10]] (.str (Ov s)))
  (UW:∀m:Bs,m.length≤4096→au P G Nb [.str m] (ON m)):au P G MX [.str s] (NH s):=by
 refine aR hF (by simp) (by simp[ah,AV.an]) (by unfold NH;split<;>simp[AV.an,ah]) ?_;unfold NU;simp only[↓aX,mX,seval];refine ay hP ?_;cases hp:M8 s with
 |none=>
  have e:NH s= .gf [.nil0,.bool false]:=by unfold NH;rw[hp];rfl
  simp only[↓aX,mX,seval,Of,hp,Bool.not_false,↓h_,e]
 |some l=>
 obtain⟨j4,Uc,Ij⟩:=RQ _ s l (Nat.le_refl _) hp;have res:∀r,l.foldlM Ni [N0]=r→NH s=match r with
   |some o=> .gf [.list (dq ((o.getLast?.map Tree.kids).getD [])),.bool (o.length==1)]
   |none=> .gf [.nil0,.bool false]:=fun r h=>by unfold NH;rw[hp,Option.bind_some,h];rfl
 simp only[↓aX,mX,seval,Of,hp,Bool.not_true];rw[Rp (sz:=4) (d:=24) (cs:=[.bool false,.str [],.nil0,.nil0]) (by simp[fg,AV.cells,AV.sI,AV.one]) (by simp[ae,Hp.none]) rfl (by decide)];simp only[↓aX,mX,seval];rw[Ox];refine⟨_,_,Pp (q:= .loc 24) (N:= .loc 1001) (i:=0) (j:=3) (sz:=4) (sq:=4) (els:=[[.bool false,.str [],.nil0,.nil0]]) (by simp[ae]) rfl rfl (by simp[ae,Hp.none]) (by decide),?_⟩;simp only[↓aX,mX,seval,List.length_map];refine SJ (σ:=Ug l) fl (fun q=>S5 q.1.2) [] (fun _=>false) (fun q=>Q_ l q.1.1 q.1.2.length (fl 0)) (fun _=>[]) (fun q=>l.length - q.1.1)
  ⟨(0,[N0]),Nat.zero_le _,by simp,by simp,rfl,by simp[N0,Tree.text,Tree.kids]⟩ (fun q p1 p2 _ _ e=>O2 e) (fun _=>rfl) (by simp) ?_ (by simp) ?_ ?_
 ·intro q l' kR;simp[ah,AV.an,Q_] at kR;subst kR;right;exact⟨0,PO.2 (by omega),rfl⟩
 ·refine NT.wh (lab:=fun p=>if p=0 then .loc 24 else .loc 1001) ?_ ?_ ?_ rfl rfl rfl rfl
  ·refine NT.mk' ?_ ?_ ?_
   ·intro p q hp hq e;simp only[List.length_singleton] at hp hq
    match p,hp,q,hq with
    |0,_,0,_|1,_,1,_=>rfl
    |0,_,1,_|1,_,0,_=>simp at e
   ·simp[ae,PN,N0,Tree.s,Tree.kids]
   intro i x hx;cases i with
   |zero=>simp at hx;subst hx;simp[ae,N0,Tree.kids,dq,aB]
   |succ i=>simp at hx
  ·intro q hq;cases q<;>simp_all[Lb.entry,ae,Hp.none]
  intro p hp;by_cases h:p=0<;>simp[h,Lb.fresh]
 rintro⟨⟨i,o⟩,hi,fO,h9,KJ,hx⟩;obtain⟨H0,EY⟩:∃H0,H0=Lw fl (S5 o) (ie (fun _=>false) []):=⟨_,rfl⟩;simp only at hi fO h9 KJ hx ⊢;rw[←EY];have hB:NT fl o H0:=by rw[EY];exact Ed.R6 (fun p1 p2 _ _ e=>O2 e) _
 have hU:∀l':Lb,(∀p,fl p≠l')→H0 l'= .unused:=fun l' h=>by rw[EY,Qa _ fun p _=>h p];rfl
 have hE:∀l':Lb,l'.entry=true→H0 l'= .unused:=fun l' he=>hU l' (by intro p e;subst e;simp[fl,Lb.entry] at he);have al:∀n,H0 (.loc n)= .unused:=fun n=>hU _ (by simp[fl]);clear hU EY;simp only[↓aX,mX,seval,Q_];refine AU (fun h=> ?_) (fun h=> ?_)
 ·have bI:i<l.length:=by simpa using h
  obtain⟨m,hm⟩:∃m,l[i]?=some m:=⟨_,List.getElem?_eq_getElem bI⟩;have Lc:=List.mem_of_getElem? hm;have Sp:m.length≤4096:=Nat.le_trans (Uc m Lc) hs;have hw:IntKind.i64.wrap ((i:Int)+1)=((i+1:Nat):Int):=wrap64 (by omega) (by omega);obtain⟨o0,x,rfl⟩:∃o0 x,o=o0++[x]:=⟨o.dropLast,o.getLast fO,(List.dropLast_concat_getLast fO).symm⟩;obtain⟨t,sk⟩:∃t,t=o0.length:=⟨_,rfl⟩;have ht:(o0++[x]).length=t+1:=by simp[sk]
  have qD:(o0++[x])[t]?=some x:=by rw[sk,List.getElem?_append_right (Nat.le_refl _)];simp
  obtain⟨TB,UX⟩:=hx x (by simp);have h9:t+1≤9:=by rw[←ht];exact h9
  have MA:IntKind.i64.wrap (((t+1:Nat):Int) - 1)=((t:Nat):Int):=by rw[wrap64 (by omega) (by omega)];omega
  obtain⟨c,r,rfl⟩:∃c r,m=c::r:=by
   cases m with
   |nil=>exact absurd rfl (j4 _ Lc).1
   |cons c r=>exact⟨c,r,rfl⟩
  have mV:∀q,Ni (x::o0.reverse) (c::r)=q→l.foldlM Ni [N0]=q.bind fun o'=>(l.drop (i+1)).foldlM Ni o':=fun q h=>by
   rw[←KJ,drop_eq hm,List.reverse_append];simp only[List.reverse_cons,List.reverse_nil,List.nil_append,List.cons_append,List.foldlM_cons,h];rfl
  have RW:Ni (x::o0.reverse) (c::r)=none→NH s= .gf [.nil0,.bool false]:=fun h=>res none (mV none h);have SP:∀o':List Tree,Ni (x::o0.reverse) (c::r)=some o'.reverse→o'≠[]→o'.length≤9→(∀y∈o',y.text=false∧y.kids.length≤i+1) →
    i+1≤l.length∧o'≠[]∧o'.length≤9∧(l.drop (i+1)).foldlM Ni o'.reverse=l.foldlM Ni [N0]∧∀y∈o',y.text=false∧y.kids.length≤i+1:=
   fun o' h1 h2 h3 h4=>⟨bI,h2,h3,by rw[mV _ h1];rfl,h4⟩
  have vf:∀y:Tree,(o0++[x]).set t y=o0++[y]:=fun y=>by rw[sk,List.set_append_right _ _ (Nat.le_refl _),Nat.sub_self];rfl
  have Tm:∀y:Tree,Ni (x::o0.reverse) (c::r)=some (x.MZ [y]::o0.reverse)→∀{d:Nat} {H2:Hp} {env:Env},NT (OH t (.loc d)) ((o0++[x]).set t (x.MZ [y])) H2→(∀l:Lb,l.entry=true→H2 l= .unused) →
    env 6= .sl (fl 0) 4 0 (t+1)→env 25= .list (l.map IV.str)→env 26= .int .i64 l.length→env 27= .int .i64 ((i+1:Nat):Int) →
    ∃q:Ug l,l.length - q.1.1<l.length - i∧∃lab m,WH fl (S5 q.1.2) [] (fun _=>false) (Q_ l q.1.1 q.1.2.length (fl 0)) [] env H2 lab m:=by
   intro y h1 d H2 env h2 h3 h6 Pr TP TQ;rw[vf] at h2;refine⟨⟨(i+1,o0++[x.MZ [y]]),SP _ (by rw[h1,List.reverse_append];rfl) (by simp) (by simp at ht ⊢;omega) fun z hz=> ?_⟩,by simp only;omega,NT.wh h2 h3 (fun p _=>PQ t d p) ?_ Pr TP TQ⟩
   ·rcases List.mem_append.1 hz with hz|hz
    ·have:=hx z (by simp[hz]);exact⟨this.1,by omega⟩
    simp only[List.mem_singleton] at hz;subst hz;cases x;simp only[Tree.MZ,Tree.text,Tree.kids,List.length_append,List.length_singleton] at TB UX ⊢;exact⟨TB,by omega⟩
   rw[h6];simp at ht ⊢;rw[sk];simp[OH];omega
  have I_:=hB.TO;have Uu:=Qg (lab:=fl) qD;have sr:=hB.k qD;have T2:(0=1+t)=False:=eq_false (by omega);have GX:(1+t=0)=False:=eq_false (by omega);obtain⟨E,Tn⟩:∃E,E=(o0++[x]).mapIdx (PN fl):=⟨_,rfl⟩;rw[←Tn] at I_ Uu;have Ui:E.length=t+1:=by rw[Tn,List.length_mapIdx,ht]
  obtain⟨A,hA⟩:∃A:AV,A=if t=0 then .nil0 else .list (cD x.attrs):=⟨_,rfl⟩;have JX:A.one=true∧A.an=[]:=by rw[hA];split<;>exact⟨rfl,rfl⟩
  have PU:E[t]?=some [.bool false,.str x.s,A,.sl (fl (1+t)) 4 0 x.kids.length]:=by rw[Uu,hA];rfl
  have UY:(l.map IV.str)[i]?=some (.str (c::r)):=by simp[hm]
  have ll:jV 1 (l.map IV.str):=by intro y hy;simp only[List.mem_map] at hy;obtain⟨w',_,rfl⟩:=hy;rfl
  simp only[↓aX,mX,seval,UY,ll,IV.cells,Int.natCast_nonneg,Int.toNat_natCast,ht,MA,List.getElem?_cons_zero,Option.map_some,Int.toNat_zero,show(0:Int)≤0 from Int.le_refl 0];rw[show((c.toNat:Int) !=60)= !(c==60) by rw[bne,show((c.toNat:Int)==60)=(c==60) from T' c 60 (by decide)]];by_cases tv:c=60
  ·subst tv;obtain⟨a,ha⟩:=(j4 _ Lc).2 rfl;simp only[List.cons.injEq,true_and] at ha;subst ha;simp only[↓aX,mX,seval,beq_self_eq_true,Bool.not_true];refine ay (Uh _ Sp) ?_;cases HE:[60,47].isPrefixOf (60::(a++[62])) with
   |true=>
    obtain⟨y,rfl⟩:∃y,a=47::y:=by
     cases a with
     |nil=>simp[List.isPrefixOf] at HE
     |cons d y=>simp[List.isPrefixOf] at HE;exact⟨y,by rw[HE]⟩
    have e1:Lib.trimSuffix (y++[62]) [62]=y:=(by simp[Lib.trimSuffix,Lib.hasSuffix]);have H9:(y++[62]).length+2=(60::(47::y++[62])).length:=(by simp);simp only[↓aX,mX,seval,lk,Int.natCast_nonneg,show(0:Int)≤2 by decide,show(2:Int).toNat=2 from rfl,true_and,Option.bind_some,Option.map_some,List.take_length,List.cons_append,List.length_cons,show 2≤(y++[62]).length+1+1 by omega,List.drop_succ_cons,List.drop_zero,Nat.le_refl,show List.take ((y++[62]).length+1+1) (60::47::(y++[62]))=60::47::(y++[62]) from List.take_length (l:=60::47::(y++[62]))];refine ay (Ub _ (by omega)) ?_;rw[e1];simp only[↓aX,mX,seval];refine ay (UU y (by simp at Sp;omega)) ?_;have hc:Ni (x::o0.reverse) (60::(47::y++[62]))=match o0.reverse with
      |[]=>none
      |up::rest=>if Ov y=x.s then some (up.MZ [x]::rest) else none:=by
     have hd:((60::(47::y++[62])).drop 2).dropLast=y:=(by simp);unfold Ni;simp only[List.head?_cons,ne_eq,not_true_eq_false,if_false,HE,if_true,hd];rfl
    simp only[↓aX,mX,seval,MA,ht];rcases List.eq_nil_or_concat o0 with h0|⟨o1,u,h0⟩
    ·subst h0;have Uj:t=0:=sk;simp only[↓aX,mX,seval,MA,ht,show(((t:Nat):Int)==0)=true by rw[Uj];rfl,↓h_,RW hc]
    rw[List.concat_eq_append] at h0;subst h0;have BO:(o1++[u]).reverse=u::o1.reverse:=(by simp);rw[BO] at hc;simp only at hc;have e0:(((t:Nat):Int)==0)=false:=(by rw[beq_eq_false_iff_ne];simp at sk;omega);simp only[↓aX,mX,seval,MA,ht,e0,Int.natCast_nonneg,Int.toNat_natCast,show t<t+1 by omega,Nat.zero_add,I_,PU];cases QM:(Ov y==x.s) with
    |false=>
     rw[if_neg (by simpa using QM)] at hc;simp only[↓aX,mX,seval,MA,ht,e0,QM,Bool.not_false,↓h_,RW (by rw[BO];exact hc)]
    |true=>
    rw[if_pos (by simpa using QM)] at hc;simp only[↓aX,mX,seval,MA,ht,e0,QM,Bool.not_true];rw[Tj];refine⟨rfl,SN (show 74<153 by decide) (show 75<153 by decide) (by decide) (al 74) fun b H' T3=> ?_⟩;obtain⟨k,hk⟩:∃k,k=o1.length:=⟨_,rfl⟩;have E0:t=k+1:=(by simp at sk;omega);subst E0;obtain⟨X,hX⟩:∃X:Lb→Option (Nat×List IV),X=fun q=>if q=fl (1+(k+1)) then some (4,dq x.kids) else none:=⟨_,rfl⟩;have X0:∀p,p≠1+(k+1)→X (fl p)=none:=fun p hp=>(by rw[hX];simp only[NL,hp,if_false]);have XL:∀n,X (.loc n)=none:=fun n=>(by rw[hX];simp only[N4,if_false]);have X1:X (fl (1+(k+1)))=some (4,dq x.kids):=(by rw[hX];simp only[if_true]);have Uv:(o1++[u]++[x])[k]?=some u:=(by rw[hk,List.append_assoc,List.getElem?_append_right (Nat.le_refl _)];simp);obtain⟨T4,CR⟩:=hx u (by simp);have UZ:=hB.k Uv;have Uw:=Qg (lab:=fl) Uv;rw[←Tn] at Uw;have Ld:∀p,H' (fl p)=H0 (fl p):=fun p=>T3 _ (by simp[fl]);rw[Ox];refine⟨_,_,Rz X (fun q sz xs h=> ?_) (env2:=o9 [(6,.sl (fl 0) 4 0 (k+1+1)),(9,.int .i64 ((k+1:Nat):Int)),(25,.list (l.map IV.str)),(26,.int .i64 l.length),(27,.int .i64 i),(75,.bool b)]) (Sm ?_),?_⟩
    ·rw[hX] at h;by_cases e:q=fl (1+(k+1))
     ·subst e;simp only[if_true,Option.some.injEq,Prod.mk.injEq] at h;obtain⟨rfl,rfl⟩:=h;exact⟨(Ld _).trans sr,rfl,pa _⟩
     simp only[e,if_false] at h;cases h
    ·intro q hq;simp only[List.mem_cons,List.not_mem_nil,or_false] at hq;rcases hq with rfl|rfl|rfl|rfl|rfl|rfl
     ·simp[put,Py,X0,ht]
     all_goals rfl
    have g0:Pz X H' (fl 0)= .live ⟨4,E.map (Ol X)⟩:=(by rw[PB (X0 0 (by omega)) ((Ld 0).trans I_)]);have gk:∀j z,o1[j]?=some z→Pz X H' (fl (1+j))= .live ⟨4,aB (dq z.kids)⟩:=fun j z hz=>by
     have bI:=(List.getElem?_eq_some_iff.1 hz).1;have oz:(o1++[u]++[x])[j]?=some z:=(by rw[List.append_assoc,List.getElem?_append_left bI];exact hz);rw[PB (X0 (1+j) (by omega)) ((Ld _).trans (hB.k oz)),R4]
    have gu:Pz X H' (fl (1+k))= .live ⟨4,aB (dq u.kids)⟩:=(by rw[PB (X0 (1+k) (by omega)) ((Ld _).trans UZ),R4]);have gE:∀l:Lb,l.entry=true→Pz X H' l= .unused:=fun l he=>by
     have n1:l≠ .loc 74:=(by rintro rfl;simp[Lb.entry] at he);have n2:X l=none:=(by rw[hX];simp only;rw[if_neg];rintro rfl;simp[fl,Lb.entry] at he);unfold Pz;rw[n2,T3 l n1,hE l he]
    have gl:∀n,n≠74→Pz X H' (.loc n)= .unused:=fun n hn=>by
     unfold Pz;rw[XL n,T3 _ (by simpa using hn),al n]
    obtain⟨E2,TA⟩:∃E2,E2=E.map (Ol X):=⟨_,rfl⟩;rw[←TA] at g0;have Lh:A= .list (cD x.attrs):=(by rw[hA,if_neg (by omega)]);obtain⟨A',J4⟩:∃A':AV,A'=if k=0 then .nil0 else .list (cD u.attrs):=⟨_,rfl⟩;have fA:Py X A'=A':=(by rw[J4];split<;>rfl);have f1:E2[k+1]?=some [.bool false,.str x.s,.list (cD x.attrs),.list (dq x.kids)]:=by
     rw[TA,List.getElem?_map,PU,Lh];simp only[Option.map_some,Pb,PC,S8 X1 (bF _).symm];rfl
    have f2:E2[k]?=some [.bool false,.str u.s,A',.sl (fl (1+k)) 4 0 u.kids.length]:=by
     rw[TA,List.getElem?_map,Uw];simp only[Option.map_some,PN,Pb,PC,←J4,fA,Py,X0 (1+k) (by omega)]
    have f3:E2.take (k+1)=(o1++[u]).mapIdx (PN fl):=by
     refine List.ext_getElem? fun j=> ?_;rw[TA,Tn,List.getElem?_take,List.getElem?_map,List.getElem?_mapIdx,List.getElem?_mapIdx];by_cases hj:j<k+1
     ·rw[if_pos hj,List.getElem?_append_left (by simp;omega)];cases hz:(o1++[u])[j]? with
      |none=>rfl
      |some z=>
      have:Py X (if j=0 then AV.nil0 else .list (cD z.attrs))=if j=0 then AV.nil0 else .list (cD z.attrs):=(by split<;>rfl);simp only[Option.map_some,PN,Pb,PC,this,Py,X0 (1+j) (by omega)]
     rw[if_neg hj,List.getElem?_eq_none (by simp;omega)];rfl
    have ME:IntKind.i64.wrap (((k+1:Nat):Int) - 1)=((k:Nat):Int):=(by rw[wrap64 (by omega) (by omega)];omega);clear hX X0 XL X1 Ld T3;generalize Pz X H'=H3 at *;have TW:∀{d:Nat} {H2:Hp} {env:Env},NT (OH k (.loc d)) (o1++[u.MZ [x]]) H2→(∀l:Lb,l.entry=true→H2 l= .unused) →
      env 6= .sl (fl 0) 4 0 (k+1)→env 25= .list (l.map IV.str)→env 26= .int .i64 l.length→env 27= .int .i64 ((i+1:Nat):Int) →
      ∃q:Ug l,l.length - q.1.1<l.length - i∧∃lab m,WH fl (S5 q.1.2) [] (fun _=>false) (Q_ l q.1.1 q.1.2.length (fl 0)) [] env H2 lab m:=by
     intro d H2 env h2 h3 h6 Pr TP TQ;refine⟨⟨(i+1,o1++[u.MZ [x]]),SP _ (by rw[BO,hc,List.reverse_append];rfl) (by simp) (by simp;omega) fun z hz=> ?_⟩,by simp only;omega,NT.wh h2 h3 (fun p _=>PQ k d p) ?_ Pr TP TQ⟩
     ·rcases List.mem_append.1 hz with hz|hz
      ·have:=hx z (by simp[hz]);exact⟨this.1,by omega⟩
      simp only[List.mem_singleton] at hz;subst hz;cases u;simp only[Tree.MZ,Tree.text,Tree.kids,List.length_append,List.length_singleton] at T4 CR ⊢;exact⟨T4,by omega⟩
     rw[h6];simp[OH,hk];intro h;omega
    have Ux:(0=1+k)=False:=eq_false (by omega);cases b with
    |true=>
     simp only[↓aX,mX,seval];refine⟨by decide +kernel,?_⟩;simp only[↓aX,mX,seval,ME,Int.natCast_nonneg,Int.toNat_natCast,show k<k+1+1 by omega,show k+1<k+1+1 by omega,g0,gu,f1,f2,Nat.zero_add,N3,N4,NL];refine⟨rfl,rfl,?_⟩;rw[ux (l:=fl (1+k)) gu (by rw[lQ,bF]) rfl (by simp[IV.cells]) (by omega) (by decide) (by rw[N5];simp[fl]) (by rw[N5];exact gl _ (by decide)),N5];simp only[↓aX,mX,seval,ME,Int.natCast_nonneg,Int.toNat_natCast,show k<k+1+1 by omega,show k+1<k+1+1 by omega,g0,gu,f1,f2,Nat.zero_add,N3,N4,NL,Ux];refine⟨by rintro l (rfl|rfl)<;>simp[fl,Lb.iQ,Lb.fresh],?_⟩;refine⟨rfl,?_⟩;rw[show(aB [IV.agg [IV.bool false,IV.str [],IV.list [],IV.list []]])=[[.bool false,.str [],.list [],.list []]] from rfl];simp only[↓aX,mX,seval,show u.kids.length<u.kids.length+1 by omega,List.getElem?_append_right,lQ,bF,Nat.le_refl,Nat.sub_self,N3,N4,NL,List.getElem?_cons_zero,Cs,nB,lk,Int.natCast_nonneg,Int.toNat_natCast,true_and,show k+1≤k+1+1 by omega,Option.bind_some,Option.map_some,Nat.zero_le,Option.isSome_none,Nat.add_zero,Nat.sub_zero];rw[Ox];refine Exists.elim (So (d:=91) (x:=x) (u:=u) (o1:=o1) (E2:=E2) hk ?_ T4 J4 f3 (by simp[ae,fl]) (by simp[ae,fl];rfl) ?_ ?_) fun H4 h4=>⟨_,H4,h4.1,?_⟩
     ·intro q he;rw[aq _ _ (by rintro rfl;simp[fl,Lb.entry] at he),aq _ _ (by rintro rfl;simp[fl,Lb.entry] at he),aq _ _ (by rintro rfl;simp[fl,Lb.entry] at he),aq _ _ (by rintro rfl;simp[fl,Lb.entry] at he)];exact gE q he
     ·exact OW (by rw[TB];rfl)
     ·intro j z hz;have bI:=(List.getElem?_eq_some_iff.1 hz).1;rw[aq _ _ (by simp[fl]),aq _ _ (by rw[Ne,NL];omega),aq _ _ (by simp[fl]),aq _ _ (by rw[Ne,NL];omega)];exact gk j z hz
     simp only[↓aX,mX,seval,hw];exact TW h4.2.1 h4.2.2 rfl rfl rfl rfl
    |false=>
    simp only[↓aX,mX,seval];refine⟨by decide +kernel,?_⟩;simp only[↓aX,mX,seval,ME,Int.natCast_nonneg,Int.toNat_natCast,show k<k+1+1 by omega,show k+1<k+1+1 by omega,g0,gu,f1,f2,Nat.zero_add,N3,N4,NL];refine⟨rfl,rfl,?_⟩;rw[ux (l:=fl (1+k)) gu (by rw[lQ,bF]) rfl (by simp[IV.cells]) (by omega) (by decide) (by rw[N5];simp[fl]) (by rw[N5];exact gl _ (by decide)),N5];simp only[↓aX,mX,seval,ME,Int.natCast_nonneg,Int.toNat_natCast,show k<k+1+1 by omega,show k+1<k+1+1 by omega,g0,gu,f1,f2,Nat.zero_add,N3,N4,NL,Ux];refine⟨by rintro l (rfl|rfl)<;>simp[fl,Lb.iQ,Lb.fresh],?_⟩;refine⟨rfl,?_⟩;simp only[↓aX,mX,seval,Cs,nB,lk,Int.natCast_nonneg,Int.toNat_natCast,true_and,show k+1≤k+1+1 by omega,Option.bind_some,Option.map_some,Nat.zero_le,Option.isSome_none,Nat.add_zero,Nat.sub_zero];rw[Ox];refine Exists.elim (So (d:=109) (x:=x) (u:=u) (o1:=o1) (E2:=E2) hk ?_ T4 J4 f3 (by simp[ae,fl]) (by simp[ae,fl];rfl) ?_ ?_) fun H4 h4=>⟨_,H4,h4.1,?_⟩
    ·intro q he;rw[aq _ _ (by rintro rfl;simp[fl,Lb.entry] at he),aq _ _ (by rintro rfl;simp[fl,Lb.entry] at he),aq _ _ (by rintro rfl;simp[fl,Lb.entry] at he)];exact gE q he
    ·exact RU (by rw[TB];rfl)
    ·intro j z hz;have bI:=(List.getElem?_eq_some_iff.1 hz).1;rw[aq _ _ (by rw[Ne,NL];omega),aq _ _ (by simp[fl]),aq _ _ (by rw[Ne,NL];omega)];exact gk j z hz
    simp only[↓aX,mX,seval,hw];exact TW h4.2.1 h4.2.2 rfl rfl rfl rfl
   |false=>
   obtain⟨m,TC⟩:∃m,m=60::(a++[62]):=⟨_,rfl⟩;have GR:=QD a;simp only at GR;rw[←TC] at GR;have hd:(m.drop 1).dropLast=a:=(by rw[TC];simp);rw[hd] at GR;have hc:Ni (x::o0.reverse) m=(Oa a).bind fun z=>if 8<(x::o0.reverse).length then none else if z.2.2 then some (x.MZ [.mk false z.1 z.2.1 []]::o0.reverse) else some (.mk false z.1 z.2.1 []::x::o0.reverse):=by
    unfold Ni;simp only;rw[if_neg (by rw[TC];simp),if_neg (by rw[TC,HE];simp),hd]
   rw[←TC] at Sp RW SP Tm;rw[←TC];simp only[↓aX,mX,seval];refine ay (UW m Sp) ?_;simp only[↓aX,mX,seval,ON,al 13,IV.dQ];have TX:(x::o0.reverse).length=t+1:=(by simp[sk]);cases TZ:Oa a with
   |none=>
    rw[TZ] at hc GR;simp only[↓aX,mX,seval,GR,Bool.not_false,↓h_,RW hc]
   |some z=>
   obtain⟨nm,kr,e⟩:=z;rw[TZ] at hc GR;obtain⟨b1,b2,b3,b4⟩:=GR;rw[b1] at b4;rw[Option.bind_some,TX] at hc;simp only at hc;simp only[↓aX,mX,seval,b1,b2,b3,b4,Bool.not_true,ht];by_cases h8:8<t+1
   ·rw[if_pos h8] at hc;simp only[↓aX,mX,seval,show decide (((t+1:Nat):Int)>8)=true by simp;omega,↓h_,RW hc]
   rw[if_neg h8] at hc;simp only[↓aX,mX,seval,show decide (((t+1:Nat):Int)>8)=false by simp;omega];have Uk:∀r1 r2 p,(bD (bD H0 (.loc 13) r1) (.loc 13) r2) (fl p)=H0 (fl p):=fun r1 r2 p=>(by simp only[ae,N3,if_false]);cases e with
   |true=>
    rw[if_pos rfl] at hc;simp only[↓aX,mX,seval,b3];refine⟨by decide +kernel,?_⟩;simp only[↓aX,mX,seval,ht,MA,Int.natCast_nonneg,Int.toNat_natCast,show t<t+1 by omega,I_,PU,sr,Nat.zero_add,N3,N4,NL];refine⟨rfl,?_⟩;rw[ux (l:=fl (1+t)) ((Uk _ _ _).trans sr) (by rw[lQ,bF]) rfl (by simp[IV.cells]) (by omega) (by decide) (by rw[N5];simp[fl]) (by rw[N5];simp[ae,al]),N5];simp only[↓aX,mX,seval,ht,MA,Int.natCast_nonneg,Int.toNat_natCast,show t<t+1 by omega,I_,PU,sr,Nat.zero_add,N3,N4,NL];refine⟨by rintro l (rfl|rfl)<;>simp[fl,Lb.iQ,Lb.fresh],?_⟩;simp only[↓aX,mX,seval,show x.kids.length<x.kids.length+1 by omega,Nat.zero_add,List.getElem?_append_right,lQ,bF,Nat.le_refl,Nat.sub_self,N3,N4,NL,I_,PU,T2];rw[show(aB [IV.agg [IV.bool false,IV.str [],IV.list [],IV.list []]])[0]?=some [.bool false,.str [],.list [],.list []] from rfl];simp only[↓aX,mX,seval,List.length_cons,List.length_nil,show 4≤0+1+1+1+1 by decide,eP,N3,N4,NL,I_,PU,show t<t+1 by omega,Nat.zero_add,Nat.reduceAdd,T2,ht];refine⟨rfl,?_⟩;rw[Ox];refine Exists.elim (Rb (d:=137) (y:= .mk false nm kr []) ((hB.loc 13 _).loc 13 _) (fun q he=> ?_) qD TB hA (by rw[←Tn];simp[ae,fl]) (by simp[ae,fl];rfl) ?_ (fun q a b c=>by rw[aq _ _ a,aq _ _ c,aq _ _ c,aq _ _ b])) fun H2 h=>⟨_,H2,h.1,?_⟩
    ·rw[aq _ _ (by rintro rfl;simp[Lb.entry] at he),aq _ _ (by rintro rfl;simp[Lb.entry] at he)];exact hE q he
    ·exact OW (by rw[b1,b2];rfl)
    simp only[↓aX,mX,seval,hw];exact Tm _ hc h.2.1 h.2.2 rfl rfl rfl rfl
   |false=>
   rw[if_neg (by decide)] at hc;simp only[↓aX,mX,seval,b3];rw[Rp (sz:=4) (d:=143) (cs:=[.bool false,.str nm,.list (cD kr),.nil0]) (by simp[fg,AV.cells,AV.sI,AV.one,b1,b2]) (by simp[ae,al]) rfl (by decide)];simp only[↓aX,mX,seval,ht];rw[SM (l:=fl 0) (q:= .loc 143) (els:=E) (cs:=[.bool false,.str nm,.list (cD kr),.nil0]) (by simp[ae,fl];exact I_) (by simp[ae]) (by intro z hz;simp at hz;rcases hz with rfl|rfl|rfl|rfl<;>rfl) Ui (by omega) (by decide) (by rw[N5];simp[fl]) (by rw[N5];simp[ae,al]),N5];simp only[↓aX,mX,seval,hw];rw[Ox];refine⟨_,_,Pp (q:= .loc 144) (N:= .loc 1001) (i:=t+1) (j:=3) (sz:=4) (sq:=4) (els:=E++[[.bool false,.str nm,.list (cD kr),.nil0]]) (cs:=[.bool false,.str nm,.list (cD kr),.nil0]) (by simp[ae]) (by rw[List.getElem?_append_right (by omega),Ui,Nat.sub_self];rfl) rfl (by simp[ae,fl,al]) (by decide),?_⟩;simp only[↓aX,mX,seval,hw];refine⟨⟨(i+1,o0++[x]++[.mk false nm kr []]),SP _ (by rw[hc];simp) (by simp) (by simp at ht ⊢;omega) fun z hz=> ?_⟩,by simp only;omega,NT.wh (lab:=OG (t+1) (.loc 144) (.loc 1001)) ?_ ?_ ?_ ?_ rfl rfl rfl⟩
   ·rcases List.mem_append.1 hz with hz|hz
    ·have:=hx z hz;exact⟨this.1,by omega⟩
    simp only[List.mem_singleton] at hz;subst hz;exact⟨rfl,by simp[Tree.kids]⟩
   ·rw[show OG (t+1) (Lb.loc 144) (Lb.loc 1001)=OG (o0++[x]).length (.loc 144) (.loc 1001) by rw[ht]];refine NT.push hB fO rfl (by simp[fl]) (by simp[fl]) (by simp) ?_ ?_ ?_
    ·rw[ae,if_pos rfl,←Tn,List.set_append_right _ _ (by omega),Ui,Nat.sub_self];rfl
    ·simp[ae]
    intro p hp _;simp[ae,fl,hp]
   ·intro q he;have hq:=hE q he;cases q<;>simp[Lb.entry] at he;simp[ae,fl,hq]
   ·intro p _;unfold OG;split
    ·rfl
    split<;>rfl
   show AV.sl (Lb.loc 144) 4 0 (t+1+1)=AV.sl (Lb.loc 144) 4 0 (o0++[x]++[_]).length;rw[List.length_append,ht];rfl
  have hh:(c::r).head?≠some 60:=by simpa using tv
  have g_:Ni (x::o0.reverse) (c::r)=(MY false (c::r)).map fun v=>x.MZ [.mk true v [] []]::o0.reverse:=by unfold Ni;simp only[if_pos hh]
  simp only[↓aX,mX,seval,show(c==60)=false by simpa using tv,Bool.not_false];refine ay (TN (c::r) Sp) ?_;cases TD:MY false (c::r) with
  |none=>
   rw[TD] at g_;simp only[↓aX,mX,seval,Nx,TD,Bool.not_false,↓h_,RW g_]
  |some v=>
  rw[TD] at g_;simp only[↓aX,mX,seval,Nx,TD,Bool.not_true,ht,MA,Int.natCast_nonneg,Int.toNat_natCast,show t<t+1 by omega];refine⟨by decide +kernel,?_⟩;simp only[↓aX,mX,seval,Nx,TD,Bool.not_true,ht,MA,Int.natCast_nonneg,Int.toNat_natCast,show t<t+1 by omega,I_,PU,sr,Nat.zero_add,N3,N4,NL];refine⟨rfl,?_⟩;rw[ux (l:=fl (1+t)) sr (by rw[lQ,bF]) rfl (by simp[IV.cells]) (by omega) (by decide) (by rw[N5];simp[fl]) (by rw[N5];exact al _),N5];simp only[↓aX,mX,seval,Nx,TD,Bool.not_true,ht,MA,Int.natCast_nonneg,Int.toNat_natCast,show t<t+1 by omega,I_,PU,sr,Nat.zero_add,N3,N4,NL];refine⟨by rintro l (rfl|rfl)<;>simp[fl,Lb.iQ,Lb.fresh],?_⟩;simp only[↓aX,mX,seval,show x.kids.length<x.kids.length+1 by omega,Nat.zero_add,List.getElem?_append_right,lQ,bF,Nat.le_refl,Nat.sub_self,N3,N4,NL,I_,PU,T2];rw[show(aB [IV.agg [IV.bool false,IV.str [],IV.list [],IV.list []]])[0]?=some [.bool false,.str [],.list [],.list []] from rfl];simp only[↓aX,mX,seval,List.length_cons,List.length_nil,show 4≤0+1+1+1+1 by decide,eP,N3,N4,NL,I_,PU,show t<t+1 by omega,Nat.zero_add,Nat.reduceAdd,T2];refine⟨rfl,?_⟩;rw[Ox];refine Exists.elim (Rb (d:=53) (y:= .mk true v [] []) hB hE qD TB hA (by rw[←Tn];simp[ae,fl]) (by simp[ae,fl];rfl) ?_ (fun q a b c=>by rw[aq _ _ a,aq _ _ c,aq _ _ c,aq _ _ b])) fun H2 h=>⟨_,H2,h.1,?_⟩
  ·exact OW rfl
  simp only[↓aX,mX,seval,hw];exact Tm _ g_ h.2.1 h.2.2 (show AV.sl (fl 0) 4 0 (o0++[x]).length=_ by rw[ht]) rfl rfl rfl
 have oI:i=l.length:=by
  have:¬i<l.length:=by simpa using h
  omega
 obtain⟨x,o2,rfl⟩:∃x o2,o=x::o2:=by
  cases o with
  |nil=>exact absurd rfl fO
  |cons x o2=>exact⟨x,o2,rfl⟩
 have hd:l.drop i=[]:=by rw[oI];exact List.drop_length
 rw[hd] at KJ;have hr:=res (some (x::o2).reverse) KJ.symm;have I_:=hB.TO;have sr:=hB.k (i:=0) (x:=x) rfl;have hE:=Qg (lab:=fl) (o:=x::o2) (i:=0) rfl;simp only[↓aX,mX,seval,NL,N3,N4,I_,hE,PN,Int.toNat_zero,show(0:Int)≤0 from Int.le_refl 0,List.length_cons,show 0<o2.length+1 by omega,Nat.zero_add];refine⟨4,dq x.kids,0,_,rfl,sr,by rw[bF];omega,pa _,?_⟩;have CM:List.take x.kids.length (dq x.kids)=dq x.kids:=List.take_of_length_le (by rw[bF];exact Nat.le_refl _);have KX:(((o2.length+1:Nat):Int)==1)=((x::o2).reverse.length==1):=by
  rw[Bool.eq_iff_iff];simp only[beq_iff_eq,List.length_reverse,List.length_cons];omega
 simp only[↓aX,mX,seval,↓h_,hr,List.drop_zero,CM,KX,List.getLast?_reverse,List.head?_cons,Option.map_some,Option.getD_some]
end

structure Step where
 name:Bs
 n:Int
def Step.cs (x:Step):List IV:=[.str x.name,.int .i64 x.n]
def Step.iv (x:Step):IV:= .agg x.cs
def Step.av (x:Step):AV:= .agg [.str x.name,.int .i64 x.n]
def Ha (text:Bool) (s:Bs) (name:Bs):Bool:=if name==[]||text then name==[]&&text else name==[42]||name==s
def kz (d:Doc) (s:Step):Nat→List Int→List Int
 |_,[]=>[]
 |k,n::r=>match d[n.toNat]? with
  |some x=>if Ha x.text x.s s.name then(if s.n=0∨s.n=((k+1:Nat):Int) then n::kz d s (k+1) r else kz d s (k+1) r) else kz d s k r
  |none=>kz d s k r

section
variable {t:Tree}
def Sub.at {n:Nat} {q:Int} {y:Tree} (h:Sub 0 (-1) t n q y):(lW t)[n]?=some (y.node n q):=(h.Gv _ ⟨[],by simp[lW]⟩).node
end

def Step.cJ (x:Step):x.iv.cells=x.cs:=rfl
section
variable {P:Program} {G:Nat→Option (List IV)}
structure MP (d:Doc) (s:Step) (l:List Int) where
 i:Nat
 k:Nat
 a:List Int
 hi:i≤l.length
 hk:k≤i
 ha:a.length≤i
 h:kz d s 0 l=a++kz d s k (l.drop i)
end

structure L6 (c:UInt8) (s:Bs) where
 i:Nat
 r:Bs
 hc:r.count c+i=s.count c
 hs:ej c s=(ej c s).take i++ej c r
 hl:r.length≤s.length

def JL (t s:Bs):Bs:=if t.isSuffixOf s then s.take (s.length - t.length) else s
def JM (n:Bs):Option Int:=match Lib.atoiAll n with
 | .ok k=>if Lib.itoa k=n∧1≤k then some k else none
 |_=>none
def JN (w:Bs):Option Int:=if(Bj 91 w).2.2 then(if [93].isSuffixOf (Bj 91 w).2.1 then JM (JL [93] (Bj 91 w).2.1) else none) else some 0
def Hb (nm:Bs):Option Bs:=if nm=[] then none else if nm=[35] then some [] else some nm
def Hc (w:Bs):Option Step:=(JN w).bind fun k=>(Hb (Bj 91 w).1).map fun nm=>⟨nm,k⟩
def zc:List Bs→Option (List Step)
 |[]=>some []
 |w::r=>(Hc w).bind fun x=>(zc r).map fun l=>x::l
structure L7 (ws:List Bs) where
 i:Nat
 l:List Step
 hi:i≤ws.length
 h:zc (ws.take i)=some l
section
variable {P:Program} {G:Nat→Option (List IV)}
end

noncomputable def OF (s:Bs):Bs×Int:=
 if 2500<s.length then([],2) else match bm false s with
 |some (t,[])=>if plain t then(t,0) else([],1)
 |_=>([],1)
section
variable {P:Program} {G:Nat→Option (List IV)}
def OP (bo Oo:Nat):AC:=
(aM [aQ 2 (.iC (.c (.str []))),gH 3 0] (.seq (aM [MR 6 0,oF 7 6,eY 8 .gtr 7 2500] (.cond (.t 8) (aM [aQ 2 (.iC (.c (.str []))),gH 3 2] .ret) .skip)) (aM [MR 9 0,aQ 10 (.sg [(.str []),(.bool false)] [(0,(1,(.t 9)))]),sC 11 10,MR 4 11] (aM [MR 12 4,aQ 13 (.call bo [(.t 12),(me false)]),MR 5 13] (.seq (aM [MR 14 4,aQ 15 (.dp (.t 14)),ep 16 15 1,fm 17 16,MR 18 17,gV 19 18 4,iR 20 18 (.dp (.t 19)),oH 21 18 20 0,oG 22 18 21,iR 23 18 (.bin .neq (.t 22) (.c (.str []))),sj 24 18 23,MR 25 24,gV 26 25 5,iR 27 25 (.call Oo [(.t 26)]),iR 28 25 (.not (.t 27)),sj 29 25 28] (.cond (.t 29) (aM [aQ 2 (.iC (.c (.str []))),gH 3 1] .ret) .skip)) (aM [MR 30 5,MR 2 30,gH 3 0] .ret))))))
def SQ {NM bo Oo:Nat} (hF:aw P G NM=some (31,[(none,2),(none,3)],(OP bo Oo).bare)) (s:Bs) (hs:s.length≤B) (hT:∀s:Bs,s.length≤B→cR P G bo [.ptr (.par 0) 2 0 0,.bool false] (cG s false) (rO false s false))
  (hP:∀t:Bs,t.length≤2500→au P G Oo [.str t] (.bool (plain t))) :
  au P G NM [.str s] (.gf [.str (OF s).1,.int .i64 (OF s).2]):=by
 refine aR hF (by simp) (by simp[ah,AV.an]) (by simp[AV.an,ah]) ?_;unfold OP OF;simp only[↓aX,mX,seval];by_cases hl:2500<s.length
 ·simp only[↓aX,mX,seval,show(((s.length:Nat):Int)>2500)=True by simp;omega,Xg,↓h_,hl,Vp]
 simp only[↓aX,mX,seval,show(((s.length:Nat):Int)>2500)=False by simp;omega,XG];refine bj (l:= .loc 11) (hT s hs) (by simp[bu,bJ,ft]) (by simp[ae]) ?_;rintro x1 dF ⟨t,r,b',rfl,rfl,pU,_,ky⟩ _ _ _;have ky:=ky rfl;simp only[↓aX,mX,seval,hl,Vk];cases b' with
 |true=>
  have e:bm false s=none:=by
   cases h:bm false s with
   |none=>rfl
   |some y=>rw[h] at ky;cases ky.1
  simp only[↓aX,mX,seval,↓h_,hl,Vk,e]
 |false=>
 have e:bm false s=some (t,r):=by
  cases h:bm false s with
  |none=>rw[h] at ky;cases ky
  |some y=>rw[h] at ky;rw[ky.2]
 simp only[↓aX,mX,seval];cases I_:(r==[]) with
 |false=>
  have hr:r≠[]:=by simpa using I_
  obtain⟨c,q,rfl⟩:=List.exists_cons_of_ne_nil hr;simp only[↓aX,mX,seval,Ve,↓h_,hl,Vk,e]
 |true=>
 have hr:r=[]:=by simpa using I_
 subst hr;simp only[↓aX,mX,seval,Vh];refine ay (hP t (by simp at pU;omega)) ?_;cases hg:plain t with
 |false=>simp only[↓aX,mX,seval,Ve,↓h_,hl,Vk,Vp,e,hg]
 |true=>simp only[↓aX,mX,seval,Vh,↓h_,hl,Vk,Vp,e,hg]
end

theorem QF (s:Bs):Pm s=match Oe s with
  |some l=>if content l then(l,0) else([],1)
  |none=>([],1):=by
 unfold Pm;rw[OC];split
 ·rename_i l h;rw[h]
 rename_i h;split
 ·rename_i l h2;split at h2
  ·rename_i ks h3;exact absurd h3 (h ks)
  cases h2
 rfl
def Rc {d:Nat} {s:Bs} (h:s.head?≠some 60∨[60,47].isPrefixOf s=true):bG d s=none:=by
 cases d with
 |zero=>rfl
 |succ d=>
 have:kO s=none:=by
  unfold kO;cases s with
  |nil=>simp[iA]
  |cons c q=>
  by_cases hc:c=60
  ·subst hc;rcases h with h|h
   ·simp at h
   cases q with
   |nil=>simp[List.isPrefixOf] at h
   |cons e q=>
   have he:e=47:=by
    have h':=h;simp[List.isPrefixOf] at h'
    first|exact h'|exact h'.symm
   subst he;have h1:iA [60] (60::47::q)=some (47::q):=(by simp[iA,List.isPrefixOf]);have h2:l6 (47::q)=none:=(by simp[l6,bz]);rw[h1,U7,h2,W5]
  have h1:iA [60] (c::q)=none:=by simp[iA,List.isPrefixOf,V7 hc]
  rw[h1,W5]
 unfold bG;rw[this,W5]
theorem Qj (s:Bs):lh s=match Oe s with
  |some [t]=>if t.d_ then(t,0) else(Bv,1)
  |_=>(Bv,1):=by
 have hk:∀q:Bs,s=60::q→¬[60,47].isPrefixOf s=true→(∀t,bG 8 s=some (t,[])↔dM (bG 8) s=some ([t],[])∧t.text=false):=by
  intro q hq hn t;subst hq;rw[Qx hn];constructor
  ·intro h;rw[h];refine⟨by simp[dM],?_⟩;unfold bG at h;obtain⟨x,_,h⟩:=U5.1 h;split at h
   ·simp only[di,U6] at h;rw[←h.1];rfl
   obtain⟨r,_,h⟩:=U5.1 h;obtain⟨y,_,h⟩:=U5.1 h;obtain⟨z,_,h⟩:=oA.1 h;simp only[U6] at h;rw[←h.1];rfl
  rintro⟨h,_⟩;obtain⟨⟨t',r⟩,h1,h2⟩:=U5.1 h;obtain⟨⟨ks,r2⟩,h3,h4⟩:=oA.1 h2;simp only[U6,Vj] at h4;obtain⟨⟨rfl,rfl⟩,rfl⟩:=h4;simp only at h3;cases r with
  |nil=>exact h1
  |cons c r=>
  exfalso;rw[dM] at h3;split at h3
  ·simp at h3
  split at h3
  ·split at h3
   ·obtain⟨y,_,h5⟩:=oA.1 h3;simp at h5
   cases h3
  cases h3
 have Rv:∀t:Tree,t.d_=true→t.text=false:=fun t h=>((ia t).1 h).1;unfold lh;rw[OC];by_cases hs:∃q,s=60::q∧¬[60,47].isPrefixOf s=true
 ·obtain⟨q,hq,hn⟩:=hs;split
  ·rename_i t h;obtain⟨h1,_⟩:=(hk q hq hn t).1 h;rw[h1]
  rename_i h;split
  ·rename_i t h2;split at h2
   ·rename_i ks h3;simp only[di] at h2;subst h2;split
    ·rename_i hg;exact absurd ((hk q hq hn t).2 ⟨h3,Rv t hg⟩) (h t)
    rfl
   cases h2
  rfl
 have FQ:bG 8 s=none:=Rc (by
  by_cases hh:s.head?=some 60
  ·right;cases s with
   |nil=>simp at hh
   |cons c q=>
   simp at hh;subst hh;exact V6 fun hn=>hs ⟨q,rfl,hn⟩
  exact .inl hh)
 rw[FQ];simp only;split
 ·rename_i t h2;split at h2
  ·rename_i ks h3;simp only[di] at h2;subst h2;split
   ·rename_i hg;exfalso;cases s with
    |nil=>rw[dM] at h3;simp at h3
    |cons c q=>
    rw[dM] at h3;split at h3
    ·simp at h3
    rename_i hp;by_cases hc:c=60
    ·exact hs ⟨q,by rw[hc],hp⟩
    rw[U8 hc] at h3;split at h3
    ·rename_i t' r he;obtain⟨y,_,he⟩:=oA.1 he;simp only[U6] at he;obtain⟨rfl,rfl⟩:=he;split at h3
     ·obtain⟨y',_,h5⟩:=oA.1 h3;simp only[U6,Vj] at h5;have:=Rv t hg;rw[←h5.1.1] at this;simp[Tree.text] at this
     cases h3
    cases h3
   rfl
  cases h2
 rfl
theorem RX (s:Bs):OF s=if 2500<s.length then(([],2):Bs×Int) else match MY false s with
  |some t=>if plain t then((t,0):Bs×Int) else(([],1):Bs×Int)
  |none=>(([],1):Bs×Int):=by
 unfold OF MY;split
 ·rfl
 cases bm false s with
 |none=>rfl
 |some y=>obtain⟨t,r⟩:=y;cases r<;>rfl
section
variable {P:Program} {G:Nat→Option (List IV)}
def Ny (MX bY:Nat):AC:=
(aM [aQ 2 (.new [(.bool false),(.str []),.nil0,.nil0]),gH 3 0] (.seq (aM [MR 6 0,oF 7 6,eY 8 .gtr 7 2500] (.cond (.t 8) (aM [aQ 9 (.sg [(.bool false),(.str []),.nil0,.nil0] []),gg (.store 4 (.t 2) (.t 9)),gH 3 2] .ret) .skip)) (aM [MR 11 0,aQ 12 (.call MX [(.t 11)]),MR 10 12,ox 13 10 0,ox 14 10 1,MR 4 13,MR 5 14] (.seq (aM [MR 15 5,sB 16 15,MR 17 16,gV 18 17 4,iR 19 17 (.len (.t 18)),iR 20 17 (.bin .neq (.t 19) (jS 1)),sj 21 17 20,MR 22 21,gV 23 22 4,iR 24 22 (.tR (.t 23) (jS 0) 4),iR 25 22 (.load (some 4) (.t 24)),iR 26 22 (.call bY [(.t 25)]),iR 27 22 (.not (.t 26)),sj 28 22 27] (.cond (.t 28) (aM [aQ 29 (.sg [(.bool false),(.str []),.nil0,.nil0] []),gg (.store 4 (.t 2) (.t 29)),gH 3 1] .ret) .skip)) (aM [MR 30 4,aQ 31 (.tR (.t 30) (jS 0) 4),gz 32 4 31,gg (.store 4 (.t 2) (.t 32)),gH 3 0] .ret)))))
def Rd {M6 MX bY:Nat} (hF:aw P G M6=some (33,[((some (some 4)),2),(none,3)],(Ny MX bY).bare)) (s:Bs) (hl:s.length≤B) (Ul:∀s:Bs,s.length≤4096→au P G MX [.str s] (NH s))
  (hI:∀t:Tree,t.wt≤3*s.length→au P G bY [t.av] (.bool t.d_)):au P G M6 [.str s] (.gf [(jD s).1.av,.int .i64 (jD s).2]):=by
 refine rp hF (by simp) (by simp[ah,AV.an]) (by simp[AV.an,ah,Tree.av]) ?_;have zo:B=1073741824:=rfl;unfold Ny jD;simp only[↓aX,mX,seval];by_cases Pr:2500<s.length
 ·simp only[↓aX,mX,seval,show decide ((s.length:Int)>2500)=true by simp;omega,kq,Pr,Vp,norm,fi,Bv,Tree.av,Tree.text,Tree.s,Tree.attrs,Tree.kids,cD,dq,Wu]
  try rfl
 simp only[↓aX,mX,seval,show decide ((s.length:Int)>2500)=false by simp;omega,Pr,Vk];refine ay (Ul s (by omega)) ?_;rw[Qj];cases hf:Oe s with
 |none=>
  obtain⟨x,hx,hr⟩:=O_ hf;simp only[hr];rcases hx with rfl|⟨ks,rfl⟩<;>simp only[↓aX,mX,seval,Ve,kq,Pr,Vk,norm,fi,Bv,Tree.av,Tree.text,Tree.s,Tree.attrs,Tree.kids,cD,dq,Wu]<;>rfl
 |some l=>
 have hw:dE l≤3*s.length:=by
  rw[OC] at hf;split at hf
  ·rename_i ks h;cases hf;have:=vP (fun s t r h=>l9 8 s t r h) _ s l [] (Va _) h;simpa using this
  cases hf
 rw[O' hf];rcases l with _|⟨t,_|⟨t2,q⟩⟩
 ·simp only[↓aX,mX,seval,Vh,dq,VR,Vo,show(((0:Nat):Int) !=1)=true by decide,kq,Pr,Vk,norm,fi,Bv,Tree.av,Tree.text,Tree.s,Tree.attrs,Tree.kids,cD,Wu]
  try rfl
 ·simp only[↓aX,mX,seval,Vh,dq,VR,Vo,show(((0+1:Nat):Int) !=1)=false by decide];simp only[↓aX,mX,seval,show jV 4 [t.iv] by simpa[dq] using lT [t],Vp,Tree.cJ,Tree.cs];have Uy:=hI t (by simp only[dE] at hw;omega);simp only[Tree.av] at Uy;refine ay Uy ?_;cases hg:t.d_ with
  |false=>
   simp only[↓aX,mX,seval,Ve,hg,kq,Pr,Vk,norm,fi,Bv,Tree.av,Tree.text,Tree.s,Tree.attrs,Tree.kids,cD,dq,Wu]
   try rfl
  |true=>
  simp only[↓aX,mX,seval,Vh,show jV 4 [t.iv] by simpa[dq] using lT [t],Vp,Tree.cJ,Tree.cs,hg,kq,Pr,Vk,norm,fi,Tree.av]
  try rfl
 have e:(((q.length+1+1:Nat):Int) !=1)=true:=by simp;omega
 simp only[↓aX,mX,seval,Vh,dq,bF,Vo,e,kq,Pr,Vk,norm,fi,Bv,Tree.av,Tree.text,Tree.s,Tree.attrs,Tree.kids,cD,Wu]
 try rfl
def Ns (MX M4:Nat):AC:=
(aM [zi 2,gH 3 0] (.seq (aM [MR 6 0,oF 7 6,eY 8 .gtr 7 2500] (.cond (.t 8) (aM [zi 2,gH 3 2] .ret) .skip)) (aM [MR 10 0,aQ 11 (.call MX [(.t 10)]),MR 9 11,ox 12 9 0,ox 13 9 1,MR 4 12,MR 5 13] (.seq (aM [MR 14 5,sB 15 14,MR 16 15,gV 17 16 4,iR 18 16 (.call M4 [(.t 17)]),iR 19 16 (.not (.t 18)),sj 20 16 19] (.cond (.t 20) (aM [zi 2,gH 3 1] .ret) .skip)) (aM [MR 21 4,MR 2 21,gH 3 0] .ret)))))
def PV {M0 MX M4:Nat} (hF:aw P G M0=some (22,[(none,2),(none,3)],(Ns MX M4).bare)) (s:Bs) (hl:s.length≤B) (Ul:∀s:Bs,s.length≤4096→au P G MX [.str s] (NH s))
  (hI:∀l:List Tree,dE l≤3*s.length→au P G M4 [.list (dq l)] (.bool (content l))):au P G M0 [.str s] (.gf [.list (dq (NQ s).1),.int .i64 (NQ s).2]):=by
 refine rp hF (by simp) (by simp[ah,AV.an]) (by simp[AV.an,ah]) ?_;have zo:B=1073741824:=rfl;unfold Ns NQ;simp only[↓aX,mX,seval];by_cases Pr:2500<s.length
 ·simp only[↓aX,mX,seval,show decide ((s.length:Int)>2500)=true by simp;omega,Pr,Vp,↓h_]
  try rfl
 simp only[↓aX,mX,seval,show decide ((s.length:Int)>2500)=false by simp;omega,Pr,Vk];refine ay (Ul s (by omega)) ?_;rw[QF];cases hf:Oe s with
 |none=>
  obtain⟨x,hx,hr⟩:=O_ hf;simp only[hr];rcases hx with rfl|⟨ks,rfl⟩<;>simp only[↓aX,mX,seval,Ve,↓h_,Pr,Vk]<;>rfl
 |some l=>
 have hw:dE l≤3*s.length:=by
  rw[OC] at hf;split at hf
  ·rename_i ks h;cases hf;have:=vP (fun s t r h=>l9 8 s t r h) _ s l [] (Va _) h;simpa using this
  cases hf
 rw[O' hf];simp only[↓aX,mX,seval,Vh];refine ay (hI l hw) ?_;cases hc:content l with
 |false=>simp only[↓aX,mX,seval,Ve,↓h_,Pr,Vk,hc];rfl
 |true=>simp only[↓aX,mX,seval,Vh,↓h_,Pr,Vk,hc];rfl
def Nz (MS a8:Nat):AC:=
(aM [aQ 2 (.iC (.c (.str []))),gH 3 0] (.seq (aM [MR 6 0,oF 7 6,eY 8 .gtr 7 2500] (.cond (.t 8) (aM [aQ 2 (.iC (.c (.str []))),gH 3 2] .ret) .skip)) (aM [MR 10 0,aQ 11 (.call MS [(.t 10),(me false)]),MR 9 11,ox 12 9 0,ox 13 9 1,MR 4 12,MR 5 13] (.seq (aM [MR 14 5,sB 15 14,MR 16 15,gV 17 16 4,iR 18 16 (.call a8 [(.t 17)]),iR 19 16 (.not (.t 18)),sj 20 16 19] (.cond (.t 20) (aM [aQ 2 (.iC (.c (.str []))),gH 3 1] .ret) .skip)) (aM [MR 21 4,MR 2 21,gH 3 0] .ret)))))
def Re {M7 MS a8:Nat} (hF:aw P G M7=some (22,[(none,2),(none,3)],(Nz MS a8).bare)) (s:Bs) (hl:s.length≤B) (TN:∀s:Bs,s.length≤4096→au P G MS [.str s,.bool false] (Nx false s))
  (hI:∀t:Bs,t.length≤4096→au P G a8 [.str t] (.bool (plain t))):au P G M7 [.str s] (.gf [.str (OF s).1,.int .i64 (OF s).2]):=by
 refine aR hF (by simp) (by simp[ah,AV.an]) (by simp[AV.an,ah]) ?_;rw[RX];unfold Nz;simp only[↓aX,mX,seval];by_cases Pr:2500<s.length
 ·simp only[↓aX,mX,seval,show decide ((s.length:Int)>2500)=true by simp;omega,Pr,Vp,↓h_]
 simp only[↓aX,mX,seval,show decide ((s.length:Int)>2500)=false by simp;omega,Pr,Vk];refine ay (TN s (by omega)) ?_;cases hm:MY false s with
 |none=>simp only[↓aX,mX,seval,Nx,hm,Ve,↓h_,Pr,Vk]
 |some t=>
 have ht:t.length≤s.length:=by
  unfold MY at hm;split at hm
  ·rename_i t' h;cases hm;have:=mC _ s t [] (Va _) h;simp at this;exact this
  cases hm
 simp only[↓aX,mX,seval,Nx,hm,Vh];refine ay (hI t (by omega)) ?_;cases hp:plain t with
 |false=>simp only[↓aX,mX,seval,Ve,hp,↓h_,Pr,Vk];try rfl
 |true=>simp only[↓aX,mX,seval,Vh,hp,↓h_,Pr,Vk];try rfl
def NV (dU aS bE dc:Nat):AC:=
(aM [aQ 4 (.iC (.c (.str [])))] (.seq (aM [MR 7 0,aQ 8 (.bin .eql (.t 7) (.c (.str []))),MR 9 8,gV 10 9 1,iR 11 9 (.bin .eql (.t 10) (.c (.str []))),sj 12 9 11] (.cond (.t 12) (aM [MR 13 0,MR 4 13] .ret) .skip)) (.seq (aM [MR 14 1,oF 15 14,eY 16 .eql 15 1,MR 17 16,cU 18 17 1,dW 19 17 (.lj (.t 18) (jS 0)),dW 20 17 (.bin .lss (.t 19) (.c (.int .u8 128))),jT 21 17 20] (.cond (.t 21) (aM [MR 22 0,MR 23 1,aQ 24 (.lj (.t 23) (jS 0)),aQ 25 (.call dU [(.t 22),(.t 24)]),MR 4 25] .ret) .skip)) (.seq (aM [MR 27 1,aQ 28 (.call aS [(.t 27)]),MR 26 28,ox 29 26 0,ox 30 26 1,aQ 5 (.new (List.replicate 256 (.bool false))),gg (.store 256 (.t 5) (.t 29)),MR 6 30] (aM [MR 31 6] (.cond (.t 31) (aM [MR 32 0,aQ 33 (.call bE [(.t 32),(.t 5)]),MR 4 33] .ret) .skip))) (aM [MR 34 0,MR 35 1,aQ 36 (.call dc [(.t 34),(.t 35)]),MR 4 36] .ret)))))
def SR {Na aS bE dU dc:Nat} (hF:aw P G Na=some (37,[(none,4)],(NV dU aS bE dc).bare)) (s t:Bs) (hs:s.length≤B) (ht:2≤t.length)
  (hM:au P G aS [.str t] (.gf [.agg (eh (er t)),.bool true]))
  (hR:cR P G bE [.str s,.ptr (.par 0) 256 0 0] (eh (er t)) fun x cs=>x= .str (eM (er t) s)∧cs=eh (er t)) :
  au P G Na [.str s,.str t] (.str (eM (er t) s)):=by
 refine aR hF (by simp) (by simp[ah,AV.an]) (by simp[AV.an]) ?_;unfold NV;simp only[↓aX,mX,reduceCtorEq,Nat.reduceEqDiff,Nat.reduceLT,Nat.reduceLeDiff,Nat.reduceAdd,Nat.reduceMul,Int.reduceToNat,Int.reduceLE,Int.reduceLT];have e1:(t==[])=false:=by cases t<;>simp_all
 have e2:(((t.length:Nat):Int)==1)=false:=by rw[VX];omega
 cases wo:(s==[]) with
 |true=>
  have:s=[]:=by simpa using wo
  subst this;simp only[↓aX,mX,reduceCtorEq,Nat.reduceEqDiff,Nat.reduceLT,Nat.reduceLeDiff,Nat.reduceAdd,Nat.reduceMul,Int.reduceToNat,Int.reduceLE,Int.reduceLT];rfl
 |false=>
 simp only[↓aX,mX,reduceCtorEq,Nat.reduceEqDiff,Nat.reduceLT,Nat.reduceLeDiff,Nat.reduceAdd,Nat.reduceMul,Int.reduceToNat,Int.reduceLE,Int.reduceLT,e1,e2];refine ay hM ?_;simp only[↓aX,mX,reduceCtorEq,Nat.reduceEqDiff,Nat.reduceLT,Nat.reduceLeDiff,Nat.reduceAdd,Nat.reduceMul,Int.reduceToNat,Int.reduceLE,Int.reduceLT,Wn,qo,bc,mz,mA,od,V5];refine bj (l:= .loc 5) hR rfl (by simp only[↓aX,mX,reduceCtorEq,Nat.reduceEqDiff,Nat.reduceLT,Nat.reduceLeDiff,Nat.reduceAdd,Nat.reduceMul,Int.reduceToNat,Int.reduceLE,Int.reduceLT,bc]) ?_;rintro x1 dF ⟨rfl,rfl⟩ _ _ _;simp only[↓aX,mX,reduceCtorEq,Nat.reduceEqDiff,Nat.reduceLT,Nat.reduceLeDiff,Nat.reduceAdd,Nat.reduceMul,Int.reduceToNat,Int.reduceLE,Int.reduceLT,bc,Wn]
def Sq (s:Bs):eM (er [32,10]) s=Ov s:=by unfold eM Ov;rw[Bm]
end

def zb (G:Nat→Option (List IV)) (I:Nat→Prop) (w:World):Prop:=∀g cs,G g=some cs→da w I cs g
def oT {P:Program} {G:Nat→Option (List IV)} {f:Nat} {args:List AV} {res:AV} (ha:ah args=[]) (hr:res.an=[])
   (h:∀(w:World) (I:Nat→Prop) (vs:List Value),zb G I w→br w iI Hp.none I args vs →
     Calls P f vs.toArray w fun e w'=>∃v,e= .returned v∧Below w.heap.size w w'∧∀I':Nat→Prop,RV w' iI Hp.none I' res v):au P G f args res:=by
 refine⟨ha,hr,fun w A β vs ju hv=> ?_⟩
 have hg:zb G (Im (b8 P G w A β Hp.none) β Hp.none) w:=fun g cs hg=>(ju.fo g cs hg).2.2
 have hk:ND w w β iI Hp.none Hp.none (Im (b8 P G w A β Hp.none) β Hp.none) (Im (b8 P G w A β Hp.none) β Hp.none) (ah args):=
   {im:=fun k hk hs=>⟨hk,hs,rfl⟩,lb:=fun l _ ⟨r,h⟩=>by simp[Hp.none] at h}
 refine(h w _ vs hg (br.mono _ _ hk hv)).mono ?_
 rintro e w' ⟨v,rfl,hb,hx⟩
 have hi:fv w w' (Im (b8 P G w A β Hp.none) β Hp.none) (Im (b8 P G w A β Hp.none) β Hp.none):=
   ⟨fun k hk hs=>⟨hk,Wp hs hb.size,hb.block k hs⟩⟩
 refine⟨v,res,Hp.none,β,rfl,rfl,?_,?_,by simp[hr]⟩
 · exact { defers := rfl,size := rfl
           N8:=fun n=>by simp[Env.any,RV]
           rows:=fun l r h=>by simp[Hp.none] at h
           own:=fun l g ⟨r,h⟩=>by simp[Hp.none] at h
           inj:=fun l l' g ⟨r,h⟩=>by simp[Hp.none] at h
           eI:=fun n=>by simp[Env.any,AV.an]
           cH:=fun l r h=>by simp[Hp.none] at h
           frame:=ju.frame.wD hb
           gA:=fun l ⟨r,h⟩=>by simp[b8,Hp.none] at h
           fr:=fun l g ⟨r,h⟩=>by simp[Hp.none] at h
           fo:=fun g cs hg=>by
             obtain⟨k1,k2,k3⟩:=ju.fo g cs hg
             exact⟨k1,Wp k2 hb.size,da.mono hi k1 k2 k3⟩}
 refine RV.mono _ _ ?_ (hx (Im (b8 P G w A β Hp.none) β Hp.none))
 exact {im:=fun k hk hs=>⟨hk,hs,rfl⟩,lb:=fun l hl=>by simp[hr] at hl}

def ov {s:Bs} (h:plain s=true):s.length≤40:=by unfold plain at h;simp at h;omega
def ow {s:Bs} (h:named s=true):1≤s.length∧s.length≤8:=by unfold named at h;simp at h;omega
theorem pI:∀{al:List Attr},(∀a∈al,named a.name=true∧plain a.val=true)→dX al≤49*al.length
 |[],_=>by simp[dX]
 |a::r,h=>by
  have h1:=h a (by simp);have h2:=pI (al:=r) fun x hx=>h x (by simp[hx]);have:=ow h1.1;have:=ov h1.2;simp only[dX,Attr.wt,Vo];omega
mutual
theorem sc:∀x:Tree,x.fu=true→x.wt≤240*x.jz
 | .mk t s al ks,h=>by
  simp only[Tree.fu] at h;simp only[Tree.wt,Tree.jz];cases t with
  |true=>
   simp only[Vp,Vc,V8,Vv] at h;obtain⟨h1,_,rfl,rfl⟩:=h;have:=ov h1;simp[dX,dE,dP];omega
  |false=>
  simp only[Vl,Vk,Vc] at h;obtain⟨h1,h2,h3⟩:=h;have h4:=ow h1;obtain⟨g1,g2,g3⟩:=(iM al).1 h2;have h5:=pI g1;have h6:=pJ none ks h3;omega
theorem pJ:∀(p:Option Bool) (ks:List Tree),bQ p ks=true→dE ks≤240*dP ks
 |_,[],_=>by simp[dE]
 |p,x::r,h=>by
  simp only[bQ,Vc] at h;have h1:=sc x h.1;have h2:=pJ _ r h.2.2;simp only[dE,dP];omega
end
def ze {x:Tree} (h:x.d_=true):x.wt≤19200:=by
 obtain⟨_,_,h1,h2⟩:=(ia x).1 h;have:=sc x h2;omega
section
variable {P:Program} {G:Nat→Option (List IV)}
def ff (eb cd:Nat):AC:=
(aM [jM 0 false] (aM [aQ 6 (.call eb [(.c (.str [60,97,32,98,61,34,38,108,116,59,34,62,120,60,99,47,62,60,47,97,62]))]),MR 5 6,ox 7 5 0,ox 8 5 1,aQ 1 (.new [(.bool false),(.str []),.nil0,.nil0]),gg (.store 4 (.t 1) (.t 7)),MR 2 8] (aM [gz 10 4 1,aQ 11 (.call cd [(.t 10)]),MR 9 11,ox 12 9 0,ox 13 9 1,MR 3 12,MR 4 13] (aM [MR 14 2,eY 15 .eql 14 0,MR 16 15,cU 17 16 4,dW 18 16 (.bin .eql (.t 17) (jS 0)),jT 19 16 18,MR 20 19,cU 21 20 3,dW 22 20 (.bin .eql (.t 21) (.c (.str [60,97,32,98,61,34,38,108,116,59,34,62,120,60,99,47,62,60,47,97,62]))),jT 23 20 22,MR 0 23] .ret))))
def BH {cn eb cd:Nat} (hF:aw P G cn=some (24,[(none,0)],(ff eb cd).bare))
  (hP:au P G eb [.str zp.sh] (.gf [(jD zp.sh).1.av,.int .i64 (jD zp.sh).2])) (hQ:au P G cd [zp.av] (.gf [.str (dh zp).1,.int .i64 (dh zp).2])) :
  au P G cn [] (.bool true):=by
 refine aR hF (by simp) (by simp[ah,AV.an]) (by simp[AV.an]) ?_;have hl:zp.sh.length≤2500:=by rw[tG];decide
 rw[yW rY hl] at hP;rw[oq rY hl] at hQ;rw[tG] at hP hQ;simp only[Tree.av] at hP hQ;unfold ff;simp only[↓aX,mX,seval,JC,GX,JD,JE,JF,JG,Vh,Ve];refine ay hP ?_;simp only[↓aX,mX,seval,JC,GX,JD,JE,JF,JG,Vh,Ve];refine ay hQ ?_;simp only[↓aX,mX,seval,JC,GX,JD,JE,JF,JG,Vh,Ve,↓cN]
end
end Go.Am
