import Derived.Test.YtfinkeaikbmpgaaGreatDoorKP2
import Derived.Lib.AtoiAllCases
import Derived.Lib.ItoaNum
set_option linter.unusedSimpArgs false
set_option linter.unusedVariables false
set_option linter.unnecessarySimpa false
set_option linter.defProp false
/- Splitting, az strings.Split does it. -/
namespace Go.Am
open Go Go.RowKit
def aqj {sz b d:Nat} {z:List AV} {m:Nat} {k k':IntKind} {H:Hp} (h1:m*b≤140737488355328) (h2:H (.loc d)= .unused) :
  vg sz b d z (.int k (m:Int)) (.int k' (m:Int)) H=some (.sl (.loc d) sz 0 m,bD H (.loc d) (.live ⟨sz,List.replicate m z⟩)):=by
 unfold vg;simp only;rw[eE ⟨rfl,tM,by simpa using h1,h2⟩,bX]
def anr (ws:List Bs):List (List AV):=ws.map fun w=>[AV.str w]
def an3 (ws:List Bs):anr ws=aB (ws.map IV.str):=by simp[anr,aB,IV.cells,IV.dQ]
def apl {ws:List Bs} {cs:List AV} (h:cs∈anr ws):ah cs=[]:=by rw[an3] at h;exact bU h
def an4 (ws:List Bs) (i:Nat) (w:Bs):(anr ws).set i [.str w]=anr (ws.set i w):=by simp[anr,Nh]
def an5 (ws:List Bs) (i:Nat):(anr ws)[i]?=ws[i]?.map fun w=>[AV.str w]:=by simp[anr]
def aqX (ws:List Bs):Flat (ws.map IV.str):=by
 intro y hy z hz cs;obtain⟨w,_,rfl⟩:=pb.1 hy;simp only[IV.cells,bY] at hz;subst hz;simp
def alF (ws:List Bs) (n i:Nat):List Bs:=ws.take i++List.replicate (n - i) []
def an6 {ws:List Bs} {n i:Nat} (h:i≤ws.length) (h2:i≤n):(alF ws n i).length=n:=by simp[alF];omega
def amU {ws:List Bs} {n i:Nat} {w:Bs} (h:ws[i]?=some w) (h2:i<n):(alF ws n i).set i w=alF ws n (i+1):=by
 have hl:=(bd.1 h).1;have hlen:(ws.take i).length=i:=by rw[tp];omega
 unfold alF;rw[Nc _ _ tM,hlen,Gl,yf,h,show n - i=(n - (i+1))+1 by omega,OY,List.set_cons_zero];simp
def an7 {ws:List Bs} {n:Nat} (h:ws.length=n):alF ws n n=ws:=by
 unfold alF;rw[Gl,OX,rI,eN tM]
def alH (alO alk NY:Nat):AC:=
(aM [zi 8] (.seq (aM [MR 12 3,eY 13 .eql 12 0] (.cond (.t 13) (aM [zi 8] .ret) .skip)) (.seq (aM [MR 14 1,aQ 15 (.bin .eql (.t 14) (.c (.str [])))] (.cond (.t 15) (aM [MR 16 0,MR 17 3,aQ 18 (.call alO [(.t 16),(.t 17)]),MR 8 18] .ret) .skip)) (.seq (aM [MR 19 3,eY 20 .lss 19 0] (.cond (.t 20) (.cq [MR 21 0,MR 22 1,aQ 23 (.call alk [(.t 21),(.t 22)]),eY 24 .add 23 1,MR 3 24]) .skip)) (aM [MR 25 3,MR 26 0,oF 27 26,eY 28 .add 27 1,aQ 29 (.min (.t 25) (.t 28)),MR 3 29] (aM [MR 30 3,aQ 31 (.tU (.t 30) (.t 30) 1 16 [(.str [])]),MR 9 31] (aM [MR 32 3,eY 33 .sub 32 1,MR 3 33] (aM [gH 10 0] (.seq (.block 0 (.loop (.seq (aM [MR 34 10,MR 35 3,et 36 .lss 34 35] (.cond (.t 36) .skip (.exit 0))) (.block 1 (aM [MR 37 0,MR 38 1,aQ 39 (.call NY [(.t 37),(.t 38)]),MR 11 39] (.seq (aM [MR 40 11,eY 41 .lss 40 0] (.cond (.t 41) (.exit 0) .skip)) (aM [MR 42 9,MR 43 10,MR 44 0,MR 45 11,MR 46 2,et 47 .add 45 46,aQ 48 (.ZL (.t 44) none (some (.t 47))),jL 49 42 43 1,gg (.store 1 (.t 49) (.t 48))] (aM [MR 50 0,MR 51 11,MR 52 1,oF 53 52,et 54 .add 51 53,aQ 55 (.ZL (.t 50) (some (.t 54)) none),MR 0 55] (.cq [MR 56 10,eY 57 .add 56 1,MR 10 57]))))))))) (aM [MR 58 9,MR 59 10,MR 60 0,jL 61 58 59 1,gg (.store 1 (.t 61) (.t 60))] (aM [MR 62 9,MR 63 10,eY 64 .add 63 1,aQ 65 (.zr (.t 62) none (some (.t 64)) none 1),MR 8 65] (.gh (.zS (.loc 31) 8) .ret))))))))))))
structure L6 (c:UInt8) (s:Bs) where
 i:Nat
 r:Bs
 hc:r.count c+i=s.count c
 hs:Z_ c s=(Z_ c s).take i++Z_ c r
 hl:r.length≤s.length
def ao2 {P:Program} {G:Nat→Option (List IV)} {ak' alO alk NY:Nat} (hF:aw P G ak'=some (66,[(none,8)],(alH alO alk NY).bare)) (s:Bs) (c:UInt8) (hs:s.length≤B)
  (hC:au P G alk [.str s,.str [c]] (.int .i64 ((s.count c:Nat):Int))) (hX:∀r:Bs,au P G NY [.str r,.str [c]] (.int .i64 (Lib.indexByte r c))) :
  au P G ak' [.str s,.str [c],.int .i64 0,.int .i64 (-1)] (.list ((Z_ c s).map IV.str)):=by
 refine aR hF N7 PC Pv ?_;have qT:s.count c≤s.length:=OR;have zo:B=1073741824:=rfl;have HG:=amN c _ s rfl;have pU:IntKind.i64.wrap (((s.count c:Nat):Int)+1)=((s.count c+1:Nat):Int):=wrap64 tM tM;have wB:IntKind.i64.wrap (((s.length:Nat):Int)+1)=((s.length+1:Nat):Int):=wrap64 tM tM;have Es:IntKind.i64.wrap (((s.count c+1:Nat):Int) - 1)=((s.count c:Nat):Int):=by rw[wrap64 tM tM];omega
 have IF:¬(((s.length+1:Nat):Int)<((s.count c+1:Nat):Int)):=tM
 unfold alH;simp only[↓aX,mX,seval,show((-1:Int)==0)=false from rfl,show(([c]:Bs)==[])=false from rfl,A_];refine ay hC ?_;simp only[↓aX,mX,seval,pU,wB,IF];rw[aqj tM (by simp[Hp.none])];simp only[↓aX,mX,seval,Es];refine ca (σ:=L6 c s) [.loc 31] (fun q=>[(0,.str q.r),(1,.str [c]),(2,.int .i64 0),(3,.int .i64 ((s.count c:Nat):Int)),(9,.sl (.loc 31) 1 0 (s.count c+1)),(10,.int .i64 q.i)])
  (fun q=>[(.loc 31,⟨1,anr (alF (Z_ c s) (s.count c+1) q.i)⟩)]) (fun q=>s.count c - q.i) ⟨0,s,rfl,N7,eM _⟩ (fun _=>rfl) Pr PC (by
   intro q r hr cs bV l hl;simp only[bY] at hr;subst hr;rw[apl bV] at hl;simp at hl) ?_ ?_
 ·refine eL Qf PD ⟨?_,trivial⟩;simp[alF,anr,ae]
 rintro⟨i,r,hc,wu,hl⟩;have hlen:(alF (Z_ c s) (s.count c+1) i).length=s.count c+1:=an6 tM tM;simp only[↓aX,mX,seval,cF,bW];by_cases bI:i<s.count c
 ·rw[show decide (((i:Nat):Int)<((s.count c:Nat):Int))=true by simpa using bI];simp only[↓aX,mX,seval];refine ay (hX r) ?_;rcases pC c r with⟨_,h2,_⟩|⟨m,h1,h2,h3,h4⟩
  ·omega
  rw[h1];have jY:(Z_ c s)[i]?=some (r.take m):=by
   rw[wu,b_ (by rw[tp];omega),h4,tp,ov tM,Gl];rfl
  obtain⟨w0,zO⟩:∃w0,(alF (Z_ c s) (s.count c+1) i)[i]?=some w0:=⟨_,bS tM⟩;have vf:=amU (n:=s.count c+1) jY tM;have Ef:IntKind.i64.wrap (((m:Nat):Int)+0)=((m:Nat):Int):=by rw[wrap64 tM tM];omega
  have LX:IntKind.i64.wrap (((m:Nat):Int)+1)=((m+1:Nat):Int):=wrap64 tM tM;have hwc:IntKind.i64.wrap (((i:Nat):Int)+1)=((i+1:Nat):Int):=wrap64 tM tM;simp only[↓aX,mX,seval,show ¬(((m:Nat):Int)<0) by omega,XG,Ef,bnd,Le,eG,bX,tk,show m≤r.length by omega,tn,an4,an5,hlen,zO,bT,eQ,A7,List.drop_nil,vf,show i<s.count c+1 by omega,bM,
   gL,yg,show((1:Nat):Int)=1 from rfl,LX,show m+1≤r.length by omega,va,hwc]
  exact⟨⟨i+1,r.drop (m+1),tM,by
    have h5:(Z_ c s).take (i+1)=(Z_ c s).take i++[r.take m]:=(by rw[yf,jY];rfl);rw[h5,yo];rw[h4] at wu;exact wu,by rw[BH];omega⟩,Pq,eL Qf PD ⟨PE,trivial⟩⟩
 have hi:i=s.count c:=tM
 subst hi;have hz:r.count c=0:=tM
 have hr:Z_ c r=[r]:=by
  rcases pC c r with⟨_,_,h3⟩|⟨m,_,_,h3,_⟩
  ·exact h3
  omega
 have jY:(Z_ c s)[s.count c]?=some r:=by
  rw[wu,hr,b_ (by rw[tp];omega),tp,ov tM,Gl];rfl
 obtain⟨w0,zO⟩:∃w0,(alF (Z_ c s) (s.count c+1) (s.count c))[s.count c]?=some w0:=⟨_,bS tM⟩;have vf:=amU (n:=s.count c+1) jY tM;rw[an7 HG] at vf;rw[show decide (((s.count c:Nat):Int)<((s.count c:Nat):Int))=false by simp];simp only[↓aX,mX,seval,bnd,Le,eG,bX,tk,an5,zO,bT,eQ,gL,yg,A7,tn,List.drop_nil,bM,an4,vf,pU,
  show s.count c<s.count c+1 by omega,eM]
 simp only[↓aX,mX,seval,Cs,nB,bnd,Le,eG,bX,tk,eM,zd,eQ,bT,Mt,NS,kf,bM];refine⟨1,(Z_ c s).map IV.str,0,s.count c+1,rfl,?_,by simp[HG],aqX _,?_⟩
 ·rw[←an3];try simp[ae]
 simp only[↓aX,mX,seval,tn,eN (show((Z_ c s).map IV.str).length≤s.count c+1 by rw[bA];omega)]
def al4 (ak':Nat):AC:=
(aM [zi 4] (aM [MR 5 0,MR 6 1,aQ 7 (.call ak' [(.t 5),(.t 6),(jS 0),(.c (.int .i64 (-1)))]),MR 4 7] .ret))
def aqk {P:Program} {G:Nat→Option (List IV)} {alm ak':Nat} (hF:aw P G alm=some (8,[(none,4)],(al4 ak').bare)) (s:Bs) (c:UInt8)
  (hX:au P G ak' [.str s,.str [c],.int .i64 0,.int .i64 (-1)] (.list ((Z_ c s).map IV.str))):au P G alm [.str s,.str [c]] (.list ((Z_ c s).map IV.str)):=by
 refine aR hF N7 PC Pv ?_;unfold al4;simp only[↓aX,mX,seval];refine ay hX ?_;simp only[↓aX,mX,seval]

def JL (t s:Bs):Bs:=if t.isSuffixOf s then s.take (s.length - t.length) else s
def JM (n:Bs):Option Int:=match Lib.atoiAll n with
 | .ok k=>if Lib.itoa k=n∧1≤k then some k else none
 |_=>none
def JN (w:Bs):Option Int:=if(Bj 91 w).2.2 then(if [93].isSuffixOf (Bj 91 w).2.1 then JM (JL [93] (Bj 91 w).2.1) else none) else some 0
def Hb (nm:Bs):Option Bs:=if nm=[] then none else if nm=[35] then some [] else some nm
def Hc (w:Bs):Option Step:=(JN w).bind fun k=>(Hb (Bj 91 w).1).map fun nm=>⟨nm,k⟩
def zc:List Bs→Option (List Step)
 |[]=>some []
 |w::r=>(Hc w).bind fun x=>(zc r).map fun l=>x::l
def ami (s:Bs):Option (List Step):=
 if [47].isPrefixOf s∧s.length≤2500 then(zc (Z_ 47 (s.drop 1))).bind fun l=>if ak6 l then some l else none else none
def amr (s:Bs):AV:=match ami s with
 |some l=> .gf [.list (l.map Step.iv),.int .i64 0]
 |none=> .gf [.nil0,.int .i64 1]
theorem amV:∀(ws:List Bs) (w:Bs),zc (ws++[w])=(zc ws).bind fun l=>(Hc w).map fun x=>l++[x]
 |[],w=>by cases h:Hc w<;>simp[zc,h]
 |v::r,w=>by
  simp only[List.cons_append,zc,amV r w];cases Hc v<;>simp;cases zc r<;>simp;cases Hc w<;>simp
def an8 {ws:List Bs} {i:Nat} {w:Bs} {l:List Step} (h:ws[i]?=some w) (hl:zc (ws.take i)=some l):zc (ws.take (i+1))=(Hc w).map fun x=>l++[x]:=by
 rw[yf,h,Mv,amV,hl];rfl
theorem amW:∀{ws:List Bs} {w:Bs},w∈ws→Hc w=none→zc ws=none
 |v::r,w,hm,h=>by
  rcases dU.1 hm with rfl|hm
  ·simp[zc,h]
  simp only[zc,amW hm h];cases Hc v<;>rfl
theorem anc:∀{ws:List Bs} {l:List Step},zc ws=some l→l.length=ws.length
 |[],l,h=>by simp[zc] at h;subst h;rfl
 |v::r,l,h=>by
  simp only[zc,dJ,bR] at h;obtain⟨x,_,l',h2,rfl⟩:=h;simp[anc h2]
def ao3 (c:UInt8) (s:Bs):(Z_ c s).length=s.count c+1:=amN c _ s rfl
def alP (c:UInt8) (w:Bs):(Bj c w).1.length≤w.length∧(Bj c w).2.1.length≤w.length:=by
 unfold Bj;split
 ·simp only[tp,BH];omega
 simp
def apm (t s:Bs):(JL t s).length≤s.length:=by
 unfold JL;split
 ·simp only[tp];omega
 exact eM _
def aom {w:Bs} {x:Step} (h:Hc w=some x):x.name.length≤w.length:=by
 simp only[Hc,dJ,bR] at h;obtain⟨k,_,nm,hn,rfl⟩:=h;have:=(alP 91 w).1;unfold Hb at hn;split at hn
 ·cases hn
 split at hn
 ·cases hn;exact zd _
 cases hn;exact this
theorem amX:∀{ws:List Bs} {l:List Step},zc ws=some l→∀x∈l,∃w∈ws,x.name.length≤w.length
 |[],l,h=>by simp[zc] at h;subst h;simp
 |v::r,l,h=>by
  simp only[zc,dJ,bR] at h;obtain⟨x,hx,l',h2,rfl⟩:=h;intro y hy;rcases dU.1 hy with rfl|hy
  ·exact⟨v,N7,aom hx⟩
  obtain⟨w,h3,h4⟩:=amX h2 y hy;exact⟨w,by simp[h3],h4⟩
theorem amO (c:UInt8):∀(s:Bs),∀w∈Z_ c s,w.length≤s.length
 |[],w,h=>by simp[Z_] at h;subst h;simp
 |b::r,w,h=>by
  have ih:=amO c r;simp only[Z_] at h;split at h
  ·rcases dU.1 h with rfl|h
   ·simp
   have:=ih w h;simp;omega
  split at h
  ·rename_i v vs e;rw[e] at ih;rcases dU.1 h with rfl|h
   ·have:=ih v N7;simp;omega
   have:=ih w (by simp[h]);simp;omega
  simp at h;subst h;simp
structure L7 (ws:List Bs) where
 i:Nat
 l:List Step
 hi:i≤ws.length
 h:zc (ws.take i)=some l
def amY (ws:List Bs) (q:L7 ws):List (Nat×AV):=
 [(6,.sl (.loc 6) 2 0 q.i),(30,.list (ws.map IV.str)),(31,.int .i64 ws.length),(32,.int .i64 q.i)]
def amZ (ws:List Bs) (q:L7 ws):List (Lb×Row):=[(.loc 6,⟨2,aB (q.l.map Step.iv)⟩)]
section
variable {P:Program} {G:Nat→Option (List IV)}
def ap8 (P:Program) (G:Nat→Option (List IV)) (f:Nat):Prop:=∀n:Bs,n.length≤B→∃k e,au P G f [.str n] (.gf [.int .i64 k,e])∧((e= .iT∧Lib.atoiAll n= .ok k)∨((∃t,e= .ifc t .any)∧∀v,Lib.atoiAll n≠ .ok v))
def apn (P:Program) (G:Nat→Option (List IV)) (f:Nat):Prop:=∀k:Int,-9223372036854775808≤k→k≤9223372036854775807→au P G f [.int .i64 k] (.str (Lib.itoa k))
def amn (bZ alm NX M9 alQ alR alf:Nat):AC:=
(aM [zi 2,gH 3 0] (aM [MR 18 0,aQ 19 (.call bZ [(.t 18),(.c (.str [47]))]),MR 17 19,ox 20 17 0,ox 21 17 1,MR 4 20,MR 5 21] (.seq (aM [MR 22 5,sB 23 22,MR 24 23,gV 25 24 0,iR 26 24 (.lens (.t 25)),iR 27 24 (.bin .gtr (.t 26) (jS 2500)),sj 28 24 27] (.cond (.t 28) (aM [zi 2,gH 3 1] .ret) .skip)) (aM [zi 6] (.gh (.own 6 2) (.seq (aM [MR 29 4,aQ 30 (.call alm [(.t 29),(.c (.str [47]))]),oy 31 30,gH 32 0] (.block 0 (.loop (aM [et 33 .lss 32 31] (.seq (.cond (.t 33) .skip (.exit 0)) (.seq (.block 1 (aM [jL 34 30 32 1,fm 35 34,MR 8 35] (aM [aQ 9 (.new [(.str []),(.int .i64 0)])] (aM [MR 37 8,aQ 38 (.call NX [(.t 37),(.c (.str [91]))]),MR 36 38,ox 39 36 0,ox 40 36 1,ox 41 36 2,MR 10 39,MR 11 40,MR 12 41] (.seq (aM [MR 42 12] (.cond (.t 42) (aM [MR 44 11,aQ 45 (.call M9 [(.t 44),(.c (.str [93]))]),MR 43 45,ox 46 43 0,ox 47 43 1,MR 13 46,MR 14 47] (aM [MR 49 13,aQ 50 (.call alQ [(.t 49)]),MR 48 50,ox 51 48 0,ox 52 48 1,MR 15 51,MR 16 52] (.seq (aM [MR 53 14,sB 54 53,MR 55 54,gV 56 55 16,iR 57 55 (.zv true (.t 56) (.c .iT)),sj 58 55 57,MR 59 58,gV 60 59 15,iR 61 59 (.call alR [(.t 60)]),gV 62 59 13,iR 63 59 (.bin .neq (.t 61) (.t 62)),sj 64 59 63,MR 65 64,gV 66 65 15,iR 67 65 (.bin .lss (.t 66) (jS 1)),sj 68 65 67] (.cond (.t 68) (aM [zi 2,gH 3 1] .ret) .skip)) (.cq [MR 69 15,ep 70 9 1,gg (.store 1 (.t 70) (.t 69))])))) .skip)) (aM [MR 71 10,ep 72 9 0,gg (.store 1 (.t 72) (.t 71))] (.seq (aM [MR 73 10] (.block 2 (aM [aQ 75 (.bin .eql (.t 73) (.c (.str []))),MR 74 75] (.cond (.t 74) (aM [zi 2,gH 3 1] .ret) (aM [aQ 77 (.bin .eql (.t 73) (.c (.str [35]))),MR 76 77] (.cond (.t 76) (.cq [ep 78 9 0,gg (.store 1 (.t 78) (.c (.str [])))]) .skip)))))) (.cq [MR 79 6,gz 80 2 9,aQ 81 (.lits 1 2 [(.str []),(.int .i64 0)] [(0,(.t 80))]),aQ 82 (.app (.t 79) (.t 81) 2 24),MR 6 82])))))))) (.cq [eY 83 .add 32 1,MR 32 83]))))))) (.seq (.gh (.zS (.loc 6) 6) (aM [MR 84 6,aQ 85 (.call alf [(.t 84)]),sB 86 85] (.cond (.t 86) (aM [zi 2,gH 3 1] .ret) .skip))) (aM [MR 87 6,MR 2 87,gH 3 0] .ret))))))))
def aon {alw bZ alm NX M9 alQ alR alf:Nat} (hF:aw P G alw=some (88,[(none,2),(none,3)],(amn bZ alm NX M9 alQ alR alf).bare)) (s:Bs) (hs:s.length≤2^24)
  (hCP:au P G bZ [.str s,.str [47]] (.gf [.str (if [47].isPrefixOf s then s.drop 1 else s),.bool ([47].isPrefixOf s)]))
  (HK:au P G alm [.str (s.drop 1),.str [47]] (.list ((Z_ 47 (s.drop 1)).map IV.str)))
  (hCu:∀w∈Z_ 47 (s.drop 1),au P G NX [.str w,.str [91]] (.gf [.str (Bj 91 w).1,.str (Bj 91 w).2.1,.bool (Bj 91 w).2.2]))
  (UE:∀w∈Z_ 47 (s.drop 1),au P G M9 [.str (Bj 91 w).2.1,.str [93]] (.gf [.str (JL [93] (Bj 91 w).2.1),.bool ([93].isSuffixOf (Bj 91 w).2.1)]))
  (hA:∀w∈Z_ 47 (s.drop 1),∃k e,au P G alQ [.str (JL [93] (Bj 91 w).2.1)] (.gf [.int .i64 k,e])∧((e= .iT∧Lib.atoiAll (JL [93] (Bj 91 w).2.1)= .ok k)∨((∃t,e= .ifc t .any)∧∀v,Lib.atoiAll (JL [93] (Bj 91 w).2.1)≠ .ok v)))
  (hI:apn P G alR) (hG:∀l:List Step,l.length≤B→(∀x∈l,x.name.length≤s.length)→au P G alf [.list (l.map Step.iv)] (.bool (ak6 l))) :
  au P G alw [.str s] (amr s):=by
 refine aR hF N7 PC (by unfold amr;split<;>simp[AV.an,ah]) ?_;have zo:B=1073741824:=rfl;unfold amn;simp only[↓aX,mX,seval];refine ay hCP ?_;simp only[↓aX,mX,seval];cases hp:([47]:Bs).isPrefixOf s with
 |false=>simp only[↓aX,mX,seval,fj,↓h_,amr,ami,hp,jy,false_and,NK]
 |true=>
 simp only[↓aX,mX,seval,ib];rcases Nat.lt_or_ge 2500 s.length with hlen|hlen
 ·simp only[↓aX,mX,seval,show decide ((s.length:Int)>2500)=true by simp;omega,↓h_,amr,ami,show ¬s.length≤2500 by omega,and_false,NK]
 simp only[↓aX,mX,seval,show decide ((s.length:Int)>2500)=false by simp;omega];refine ay HK ?_;obtain⟨ws,hws⟩:∃ws,Z_ 47 (s.drop 1)=ws:=⟨_,rfl⟩;have L2:ws.length≤2501:=by
  rw[←hws,ao3];have:=OR (a:=(47:UInt8)) (l:=s.drop 1);simp only[BH] at this;omega
 have KF:ami s=(zc ws).bind fun l=>if ak6 l then some l else none:=by simp only[ami,hp,show s.length≤2500 from hlen,hws,tk,OS]
 rw[hws] at hCu UE hA ⊢;simp only[↓aX,mX,seval,bA];refine pe (σ:=L7 ws) (fun _=>[.loc 6]) (fun _ _=>false) (amY ws) (amZ ws) (fun q=>ws.length - q.i) ⟨0,[],tM,rfl⟩ (fun _=>rfl) (fun q=>by simp[ah,AV.an,amY]) ?_ ⟨[],?_⟩ ?_
 ·intro q w hw cs bV z hz;simp only[amZ,bY] at hw;subst hw;rw[bU bV] at hz;simp at hz
 ·refine⟨?_,?_,?_,PN,fun l _=>⟨id,fun _=>rfl⟩⟩
  ·intro l hf hu;exfalso;apply hu;cases l<;>simp_all[Lb.fresh,ae,Hp.none]
  ·simp[k_,dn,bJ,put,amY]
  simp[tc,dn,ae,dO,bu,bJ,aB,amZ]
 rintro⟨i,l,hi,h⟩;rw[Cf];have Ij:l.length=i:=by have:=anc h;simp only[tp] at this;omega
 have hr:∀(ρ:Lb→Lb) (xs:List IV),dO ρ ⟨2,aB xs⟩=⟨2,aB xs⟩:=fun ρ xs=>dy _ _ _;simp only[↓aX,mX,seval,amY,amZ,cF,bW];by_cases bI:i<ws.length
 ·obtain⟨w,hw⟩:∃w,ws[i]?=some w:=⟨_,bS bI⟩;have JA:=dc hw;have pU:IntKind.i64.wrap ((i:Int)+1)=((i+1:Nat):Int):=wrap64 tM tM;have Jz:(ws.map IV.str)[i]?=some (.str w):=by simp[hw]
  have ll:jV 1 (ws.map IV.str):=by intro y hy;simp only[pb] at hy;obtain⟨w',_,rfl⟩:=hy;rfl
  have FQ:Hc w=none→amr s= .gf [.nil0,.int .i64 1]:=fun e=>by simp only[amr,KF,amW JA e];rfl
  have next:∀x:Step,Hc w=some x→zc (ws.take (i+1))=some (l++[x]):=fun x e=>by rw[an8 hw h,e];rfl
  simp only[↓aX,mX,seval,show decide ((i:Int)<(ws.length:Int))=true by simpa using bI,Jz,ll,IV.cells,eG,bX,Ij];refine ay (hCu w JA) ?_;simp only[↓aX,mX,seval];cases Tf:(Bj 91 w).2.2 with
  |false=>
   have amP:JN w=some 0:=(by simp only[JN,Tf];rfl);simp only[↓aX,mX,seval];cases wq:((Bj 91 w).1==[]) with
   |true=>
    have ane:Hb (Bj 91 w).1=none:=(by simp only[Hb,show(Bj 91 w).1=[] by simpa using wq,OS]);simp only[↓aX,mX,seval,↓h_,FQ (by simp only[Hc,ane];cases JN w<;>rfl)]
   |false=>
   have Cv:(Bj 91 w).1≠[]:=(by intro e;simp[e] at wq);cases JU:((Bj 91 w).1==[35]) with
   |true=>
    have ane:Hb (Bj 91 w).1=some []:=(by simp only[Hb,show(Bj 91 w).1=[35] by simpa using JU];rfl);simp only[↓aX,mX,seval,JU];rw[qg 2 24 82 6 (l.map Step.iv) (.agg [.str [],.int .i64 0]) PE (by simp[Ij]) rfl PX tM tM tM PU];simp only[↓aX,mX,seval,pU];refine⟨⟨i+1,l++[⟨[],0⟩],bI,next _ (by simp only[Hc,amP,ane];rfl)⟩,Pq,[(.loc 6,.loc 82)],?_⟩;refine⟨?_,?_,?_,PN,?_⟩
    ·intro l hf hu;exfalso;apply hu;cases l<;>simp_all[Lb.fresh,ae,Hp.none]
    ·simp[k_,dn,bJ,put,amY]
    ·simp only[tc,hr,amZ];simp[dn,ae,dO,bu,bJ,Step.iv,Step.cs]
    intro l hl;simp only[bY] at hl;subst hl;exact⟨fun _=>rfl,fun h=>by simp[Lb.fresh] at h⟩
   |false=>
   have hn3:(Bj 91 w).1≠[35]:=(by intro e;simp[e] at JU);have ane:Hb (Bj 91 w).1=some (Bj 91 w).1:=(by simp only[Hb,Cv,hn3,NK]);simp only[↓aX,mX,seval,JU];rw[qg 2 24 82 6 (l.map Step.iv) (.agg [.str (Bj 91 w).1,.int .i64 0]) PE (by simp[Ij]) rfl PX tM tM tM PU];simp only[↓aX,mX,seval,pU];refine⟨⟨i+1,l++[⟨(Bj 91 w).1,0⟩],bI,next _ (by simp only[Hc,amP,ane];rfl)⟩,Pq,[(.loc 6,.loc 82)],?_⟩;refine⟨?_,?_,?_,PN,?_⟩
   ·intro l hf hu;exfalso;apply hu;cases l<;>simp_all[Lb.fresh,ae,Hp.none]
   ·simp[k_,dn,bJ,put,amY]
   ·simp only[tc,hr,amZ];simp[dn,ae,dO,bu,bJ,Step.iv,Step.cs]
   intro l hl;simp only[bY] at hl;subst hl;exact⟨fun _=>rfl,fun h=>by simp[Lb.fresh] at h⟩
  |true=>
  simp only[↓aX,mX,seval];refine ay (UE w JA) ?_;simp only[↓aX,mX,seval];obtain⟨k,e,Km,bV⟩:=hA w JA;refine ay Km ?_;have ll:e.an=[]:=by rcases bV with⟨rfl,_⟩|⟨⟨t,rfl⟩,_⟩<;>rfl
  cases aiy:([93]:Bs).isSuffixOf (Bj 91 w).2.1 with
  |false=>
   have amP:JN w=none:=(by simp only[JN,Tf,aiy];rfl);simp only[↓aX,mX,seval,fj,↓h_,FQ (by simp only[Hc,amP];rfl)]
  |true=>
  have QM:JN w=JM (JL [93] (Bj 91 w).2.1):=by simp only[JN,Tf,aiy,ku]
  rcases bV with⟨rfl,j4⟩|⟨⟨t,rfl⟩,RW⟩
  ·obtain⟨sr,Jd⟩:=Lib.atoiAll_bounds j4;simp only[↓aX,mX,seval,ib];refine ay (hI k sr Jd) ?_;cases hit:(Lib.itoa k==JL [93] (Bj 91 w).2.1) with
   |false=>
    have amP:JN w=none:=(by rw[QM];simp only[JM,j4,show ¬Lib.itoa k=JL [93] (Bj 91 w).2.1 by intro e;simp[e] at hit,false_and,NK]);simp only[↓aX,mX,seval,hit,fj,↓h_,FQ (by simp only[Hc,amP];rfl)]
   |true=>
   have aqY:Lib.itoa k=JL [93] (Bj 91 w).2.1:=(by simpa using hit);by_cases hk:k<1
   ·have amP:JN w=none:=(by rw[QM];simp only[JM,j4,aqY,show ¬1≤k by omega,and_false,NK]);simp only[↓aX,mX,seval,hit,ib,hk,A_,↓h_,FQ (by simp only[Hc,amP];rfl)]
   have amP:JN w=some k:=(by rw[QM];simp only[JM,j4,aqY,show 1≤k by omega,A5,OS]);simp only[↓aX,mX,seval,hit,ib,hk,XG];cases wq:((Bj 91 w).1==[]) with
   |true=>
    have ane:Hb (Bj 91 w).1=none:=(by simp only[Hb,show(Bj 91 w).1=[] by simpa using wq,OS]);simp only[↓aX,mX,seval,↓h_,FQ (by simp only[Hc,ane];cases JN w<;>rfl)]
   |false=>
   have Cv:(Bj 91 w).1≠[]:=(by intro e;simp[e] at wq);cases JU:((Bj 91 w).1==[35]) with
   |true=>
    have ane:Hb (Bj 91 w).1=some []:=(by simp only[Hb,show(Bj 91 w).1=[35] by simpa using JU];rfl);simp only[↓aX,mX,seval,JU];rw[qg 2 24 82 6 (l.map Step.iv) (.agg [.str [],.int .i64 k]) PE (by simp[Ij]) rfl PX tM tM tM PU];simp only[↓aX,mX,seval,pU];refine⟨⟨i+1,l++[⟨[],k⟩],bI,next _ (by simp only[Hc,amP,ane];rfl)⟩,Pq,[(.loc 6,.loc 82)],?_⟩;refine⟨?_,?_,?_,PN,?_⟩
    ·intro l hf hu;exfalso;apply hu;cases l<;>simp_all[Lb.fresh,ae,Hp.none]
    ·simp[k_,dn,bJ,put,amY]
    ·simp only[tc,hr,amZ];simp[dn,ae,dO,bu,bJ,Step.iv,Step.cs]
    intro l hl;simp only[bY] at hl;subst hl;exact⟨fun _=>rfl,fun h=>by simp[Lb.fresh] at h⟩
   |false=>
   have hn3:(Bj 91 w).1≠[35]:=(by intro e;simp[e] at JU);have ane:Hb (Bj 91 w).1=some (Bj 91 w).1:=(by simp only[Hb,Cv,hn3,NK]);simp only[↓aX,mX,seval,JU];rw[qg 2 24 82 6 (l.map Step.iv) (.agg [.str (Bj 91 w).1,.int .i64 k]) PE (by simp[Ij]) rfl PX tM tM tM PU];simp only[↓aX,mX,seval,pU];refine⟨⟨i+1,l++[⟨(Bj 91 w).1,k⟩],bI,next _ (by simp only[Hc,amP,ane];rfl)⟩,Pq,[(.loc 6,.loc 82)],?_⟩;refine⟨?_,?_,?_,PN,?_⟩
   ·intro l hf hu;exfalso;apply hu;cases l<;>simp_all[Lb.fresh,ae,Hp.none]
   ·simp[k_,dn,bJ,put,amY]
   ·simp only[tc,hr,amZ];simp[dn,ae,dO,bu,bJ,Step.iv,Step.cs]
   intro l hl;simp only[bY] at hl;subst hl;exact⟨fun _=>rfl,fun h=>by simp[Lb.fresh] at h⟩
  have amP:JN w=none:=by
   rw[QM];unfold JM;split
   ·rename_i v hv;exact absurd hv (RW v)
   rfl
  simp only[↓aX,mX,seval,ib,↓h_,FQ (by simp only[Hc,amP];rfl)]
 have hiw:i=ws.length:=tM
 subst hiw;have g_:zc ws=some l:=by rw[va] at h;exact h
 simp only[↓aX,mX,seval,show decide ((ws.length:Int)<(ws.length:Int))=false by simp];have E0:List.take ws.length (l.map Step.iv)=l.map Step.iv:=eN (by simp[Ij]);refine⟨2,l.map Step.iv,0,ws.length,rfl,rfl,by simp[Ij],aqf _,?_⟩;simp only[↓aX,mX,seval,tn,E0];refine ay (hG l tM (fun x hx=>by
  obtain⟨w,hw,hq⟩:=amX g_ x hx;have h2:=amO 47 (s.drop 1) w (by rw[hws];exact hw);rw[BH] at h2;omega)) ?_
 cases hg:ak6 l with
 |false=>simp only[↓aX,mX,seval,fj,↓h_,amr,KF,g_,eQ,hg,jy,NK]
 |true=>simp only[↓aX,mX,seval,ib,↓h_,E0,amr,KF,g_,eQ,hg,OS]
end
end Go.Am
