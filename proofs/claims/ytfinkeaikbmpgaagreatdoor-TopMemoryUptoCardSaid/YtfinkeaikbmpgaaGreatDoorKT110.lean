import Derived.Test.YtfinkeaikbmpgaaGreatDoorKAm53
import Derived.Test.YtfinkeaikbmpgaaGreatDoorKT67
import Derived.Test.YtfinkeaikbmpgaaGreatDoorKC7
set_option linter.unusedSimpArgs false
set_option linter.unusedVariables false
set_option linter.unnecessarySimpa false
set_option linter.defProp false
/- topiarytop: acts, played. -/
namespace Go.Am
open Go Go.RowKit
noncomputable def ans:Doc×Int→List ak7→Doc×Int
 |q,[]=>q
 |q,a::r=>ans (doF q.1 q.2 a).1 r
theorem anD:∀(l:List ak7) (q:Doc×Int) (a:ak7),ans q (l++[a])=(doF (ans q l).1 (ans q l).2 a).1
 |[],q,a=>rfl
 |b::r,q,a=>by simp only[List.cons_append,ans,anD r]
noncomputable def st0:Doc×Int:=(amp,0)
noncomputable def aly (l:List ak7) (i:Nat):Doc×Int:=ans st0 (l.take i)
def anE {l:List ak7} {i:Nat} {a:ak7} (h:l[i]?=some a):aly l (i+1)=(doF (aly l i).1 (aly l i).2 a).1:=by
 unfold aly;rw[yf,h,Mv,anD]
def ak7.cJ (a:ak7):a.iv.cells=a.cs:=rfl
def aoL (l:List ak7):jV 2 (l.map ak7.iv):=by
 intro y hy;simp only[pb] at hy;obtain⟨a,_,rfl⟩:=hy;rfl
def apw (l:List ak7) (i:Nat):(l.map ak7.iv)[i]?=(l[i]?).map ak7.iv:=cn ..
section
variable {P:Program} {G:Nat→Option (List IV)}
def alT (ak_ alg mm w6:Nat):AC:=
(aM [aQ 4 (.iC (.c .jK)),jM 5 false] (.seq (aM [aQ 10 (.call ak_ []),sB 11 10] (.cond (.t 11) (aM [aQ 4 (.iC (.c .jK)),jM 5 false] .ret) .skip)) (aM [aQ 12 (.call alg []),MR 6 12] (.seq (aM [gH 7 0] (.block 0 (.loop (.seq (aM [MR 13 7,MR 14 0,oy 15 14,et 16 .lss 13 15,MR 17 16,cU 18 17 7,dW 19 17 (.bin .lss (.t 18) (jS 50)),jT 20 17 19] (.cond (.t 20) .skip (.exit 0))) (.seq (.block 1 (aM [MR 23 6,aQ 24 (.call mm [(.t 23)]),aQ 8 (.new [.nil0]),gg (.store 1 (.t 8) (.t 24))] (aM [MR 25 6,MR 26 0,MR 27 7,jL 28 26 27 2,gz 29 2 28,aQ 30 (.call w6 [(.t 25),(.t 29)]),aQ 9 (.new [(.int .i64 0),(.int .i64 0),(.str [])]),gg (.store 3 (.t 9) (.t 30))] (.seq (.VL [MR 31 1,MR 32 6,gz 33 1 8,MR 34 0,MR 35 7,jL 36 34 35 2,gz 37 2 36,gz 38 3 9,aQ 39 (.fM (.t 31) [(.t 32),(.t 33),(.t 37),(.t 38)]),sB 40 39] [[],[],[],[],[],[3,4],[5],[],[0,1,2,6,7],[8]] [.no,.no,.rw [.loc 8] [],.no,.no,.no,.no,.rw [.loc 9] [],.all,.no]) (.cond (.t 40) (aM [MR 41 6,MR 4 41,jM 5 false] .ret) .skip))))) (.cq [MR 21 7,eY 22 .add 21 1,MR 7 22])))))) (aM [MR 42 6,MR 4 42,jM 5 true] .ret)))))
end

def tA:Tree:= .mk false [97] [] [.mk true [120] [] []]
def lnA:Bs:=[108,97,115,116,32,47,100,111,99,32,60,97,62,120,60,47,97,62]
def lnB:Bs:=[115,101,116,32,47,100,111,99,32,107,61,118]
def stD:List Step:=[⟨[100,111,99],0⟩]
def ap':ami [47,100,111,99]=some stD:=by rfl
def aq7:NQ [60,97,62,120,60,47,97,62]=([tA],0):=
 apt (l:=[tA]) Pr Pr Pr Pr Pr
def ary:OF [118]=([118],0):=by
 have h:=mD false [118] [] Pr N7;have e:fG false [118]++[]=([118]:Bs):=by rfl
 rw[e] at h;unfold OF;rw[cY Pr,h];rfl
def aq8:ak8 lnA=(⟨2,0,[tA],[],[]⟩,stD,0):=by
 have e1:amt al8 (Bj 32 lnA).1=2:=Pr
 have e2:Bj 32 (Bj 32 lnA).2.1=([47,100,111,99],[60,97,62,120,60,47,97,62],true):=Pr
 unfold ak8;simp only[e1,e2,ap',aq7];rfl
def aq9:ak8 lnB=(⟨9,0,[],[107],[118]⟩,stD,0):=by
 have e1:amt al8 (Bj 32 lnB).1=9:=Pr
 have e2:Bj 32 (Bj 32 lnB).2.1=([47,100,111,99],[107,61,118],true):=Pr
 have e3:Bj 61 [107,61,118]=([107],[118],true):=Pr
 unfold ak8;simp only[e1,e2,e3,ap',ary];rfl
def aqy:ali amp stD=([0],0):=by
 unfold ali;rw[eE ⟨anU,Pr⟩];rfl
def opA:Op:=⟨2,0,[tA],[],[]⟩
def opK:Op:=⟨9,0,[],[107],[118]⟩
def tK:Tree:= .mk false [100,111,99] [⟨[107],[118]⟩] [tA]
def aq':alE amp [] [lnA,lnB]= .ok [opA,opK]:=by
 simp only[alE,aq8,aq9,aqy];rfl
def aqz:XU amp [opA,opK]=(lW tK,0):=by
 have h:VU (lW amQ) [opA,opK]=0:=by
  rw[aan amj];refine⟨fun o ho=> ?_,Pr,Pr⟩;simp only[dU,e7,kt] at ho;rcases ho with rfl|rfl
  ·exact⟨⟨0,-1,amQ,.self 0 (-1) amQ,rfl,Pr⟩,Pr,Pr⟩
  exact⟨⟨0,-1,amQ,.self 0 (-1) amQ,rfl,Pr⟩,Pr,Pr⟩
 have:=aaq amj h;have e:Yc amQ [opA,opK]=tK:=by rfl
 rw[e,eE Pr] at this;exact this
def ap_:Vo (lW tK)=true:=Yj (x:=tK) Pr
def aq_:doF amp 0 ⟨2,[lnA,lnB]⟩=((lW tK,1),⟨0,2,[]⟩):=by
 have h:alh amp [lnA,lnB]=(lW tK,⟨0,2,[]⟩):=by
  unfold alh;rw[cY Pr,aq'];simp only[aqz];rfl
 unfold doF alS;rw[cY Pr,cY Pr,eE rfl,h];rfl
def txK:Bs:=[60,100,111,99,32,107,61,34,118,34,62,60,97,62,120,60,47,97,62,60,47,100,111,99,62]
def aqA:doF (lW tK) 1 ⟨3,[]⟩=((lW tK,2),⟨0,3,txK⟩):=by
 have ht:aec (lW tK) ((0:Nat):Int)=(tK,0):=aed (t:=tK) Pr (Sub.self 0 (-1) tK);have hp:dh tK=(txK,0):=by rw[oq Pr Pr];rfl
 unfold doF alS;rw[cY Pr,cY Pr,cY Pr,eE rfl];have ht':aec (lW tK) 0=(tK,0):=ht;simp only[ht',hp];rfl
section
variable {P:Program} {G:Nat→Option (List IV)}
def apy {f:Nat} {args Ca:List AV} {cs:List AV} {R:AV→List AV→Prop} (h:cR P G f args cs R) (hl:∀l∈ah Ca,l= .par 0)
  (hv:∀(w:World) β H I vs,br w β H I Ca vs→br w β H I args vs):cR P G f Ca cs R:=
 ⟨hl,h.2.1,fun w A β vs hr hq=>h.2.2 w A β vs hr (hv _ _ _ _ _ hq)⟩
def apT {f:Nat} {k:Int} {cs:List AV} {R:AV→List AV→Prop} (h:cR P G f [.ptr (.par 0) 2 0 0,(⟨k,[]⟩:ak7).av] cs R):cR P G f [.ptr (.par 0) 2 0 0,.agg [.int .i64 k,.nil0]] cs R:=
 apy h PC fun w β H I vs h=>by
  simp only[br,RV,ak7.av,D7] at h ⊢;obtain⟨v,us,rfl,h1,v2,us2,rfl,⟨vs2,rfl,v3,u3,rfl,h3,v4,u4,rfl,h4,rfl⟩,rfl⟩:=h;have:=am6 (w:=w) (β:=β) (H:=H) (I:=I) (v:=v4) (by simpa[RV] using h4);exact⟨v,_,rfl,h1,_,[],rfl,⟨_,rfl,v3,_,rfl,h3,v4,_,rfl,by simpa[RV] using this,rfl⟩,rfl⟩
def alL (alg w6 mm:Nat):AC:=
(aM [jM 0 false] (aM [aQ 4 (.call alg []),MR 1 4] (.seq (aM [MR 5 1,aQ 6 (.zu false (.t 5) (.c .jK))] (.cond (.t 6) (aM [jM 0 false] .ret) .skip)) (aM [MR 7 1,aQ 8 (.lits 2 1 [(.str [])] [(0,(.c (.str [108,97,115,116,32,47,100,111,99,32,60,97,62,120,60,47,97,62]))),(1,(.c (.str [115,101,116,32,47,100,111,99,32,107,61,118])))]),aQ 9 (.sg [(.int .i64 0),.nil0] [(0,(1,(jS 2))),(1,(1,(.t 8)))]),aQ 10 (.call w6 [(.t 7),(.t 9)]),aQ 2 (.new [(.int .i64 0),(.int .i64 0),(.str [])]),gg (.store 3 (.t 2) (.t 10))] (aM [MR 11 1,aQ 12 (.sg [(.int .i64 0),.nil0] [(0,(1,(jS 3)))]),aQ 13 (.call w6 [(.t 11),(.t 12)]),aQ 3 (.new [(.int .i64 0),(.int .i64 0),(.str [])]),gg (.store 3 (.t 3) (.t 13))] (aM [ep 14 2 0,fm 15 14,eY 16 .eql 15 0,MR 17 16,Wb 18 17 2 1,jm 19 17 18,dW 20 17 (.bin .eql (.t 19) (jS 2)),jT 21 17 20,MR 22 21,Wb 23 22 3 2,jm 24 22 23,dW 25 22 (.bin .eql (.t 24) (.c (.str [60,100,111,99,32,107,61,34,118,34,62,60,97,62,120,60,47,97,62,60,47,100,111,99,62]))),jT 26 22 25,MR 27 26,cU 28 27 1,dW 29 27 (.call mm [(.t 28)]),dW 30 27 (.pN (.t 29) 0 none),dW 31 27 (.len (.t 30)),dW 32 27 (.bin .eql (.t 31) (jS 3)),jT 33 27 32,MR 0 33] .ret))))))
def aqB {ak_ alg w6 mm:Nat} (hF:aw P G ak_=some (34,[(none,0)],(alL alg w6 mm).bare)) (aqx:ao6 P G alg [] 2 [.list (amp.map Node.iv),.int .i64 0])
  (h1:cR P G w6 [.ptr (.par 0) 2 0 0,(⟨2,[lnA,lnB]⟩:ak7).av] (stC amp 0) (fun x cs=>x=(doF amp 0 ⟨2,[lnA,lnB]⟩).2.av∧cs=stC (doF amp 0 ⟨2,[lnA,lnB]⟩).1.1 (doF amp 0 ⟨2,[lnA,lnB]⟩).1.2))
  (h2:cR P G w6 [.ptr (.par 0) 2 0 0,(⟨3,[]⟩:ak7).av] (stC (lW tK) 1) (fun x cs=>x=(doF (lW tK) 1 ⟨3,[]⟩).2.av∧cs=stC (doF (lW tK) 1 ⟨3,[]⟩).1.1 (doF (lW tK) 1 ⟨3,[]⟩).1.2))
  (h3:cR P G mm [.ptr (.par 0) 2 0 0] (stC (lW tK) 2) (fun x cs=>x=Doc.av (lW tK)∧cs=stC (lW tK) 2)) :
  au P G ak_ [] (.bool true):=by
 rw[aq_] at h1;rw[aqA] at h2;refine aR hF (by simp) (by simp[ah]) (by simp[AV.an]) ?_;unfold alL;simp only[↓aX,mX,reduceCtorEq,Nat.reduceEqDiff,Nat.reduceLT,Nat.reduceLeDiff,Nat.reduceAdd,Nat.reduceMul,Int.reduceToNat,Int.reduceLE,Int.reduceLT];refine anC 4 aqx rfl (fun l=>by simp[NW,Hp.none]) fun q=> ?_;simp only[↓aX,mX,reduceCtorEq,Nat.reduceEqDiff,Nat.reduceLT,Nat.reduceLeDiff,Nat.reduceAdd,Nat.reduceMul,Int.reduceToNat,Int.reduceLE,Int.reduceLT,JQ];change cw (some (AV.list [IV.str lnA,IV.str lnB])) _ _;simp only[↓aX,mX,reduceCtorEq,Nat.reduceEqDiff,Nat.reduceLT,Nat.reduceLeDiff,Nat.reduceAdd,Nat.reduceMul,Int.reduceToNat,Int.reduceLE,Int.reduceLT];refine bj (l:=NW 4 q) h1 (by simp[bu,bJ,ft,ak7.av]) (by simp[ae,stC,IV.dQ]) ?_;rintro x1 cs1 ⟨rfl,rfl⟩ _ _ _;simp only[↓aX,mX,reduceCtorEq,Nat.reduceEqDiff,Nat.reduceLT,Nat.reduceLeDiff,Nat.reduceAdd,Nat.reduceMul,Int.reduceToNat,Int.reduceLE,Int.reduceLT,Rep.av];refine⟨by simp[NW],?_⟩;refine bj (l:=NW 4 q) (apT h2) (by simp[bu,bJ,ft,ak7.av]) (by simp[ae,stC,NW]) ?_;rintro x2 cs2 ⟨rfl,rfl⟩ _ _ _;simp only[↓aX,mX,reduceCtorEq,Nat.reduceEqDiff,Nat.reduceLT,Nat.reduceLeDiff,Nat.reduceAdd,Nat.reduceMul,Int.reduceToNat,Int.reduceLE,Int.reduceLT,Rep.av];have hn:∀k,(Lb.loc k=NW 4 q)=False:=fun k=>by simp[NW]
 refine⟨by simp[hn],?_⟩;simp only[↓aX,mX,reduceCtorEq,Nat.reduceEqDiff,Nat.reduceLT,Nat.reduceLeDiff,Nat.reduceAdd,Nat.reduceMul,Int.reduceToNat,Int.reduceLE,Int.reduceLT,hn,show((0:Int)==0)=true from rfl,show((2:Int)==2)=true from rfl,show(txK==[60,100,111,99,32,107,61,34,118,34,62,60,97,62,120,60,47,97,62,60,47,100,111,99,62])=true from rfl];refine bj (l:=NW 4 q) h3 (by simp[bu,bJ,ft]) (by simp[ae,stC,NW]) ?_;rintro x3 cs3 ⟨rfl,rfl⟩ _ _ _;simp only[↓aX,mX,reduceCtorEq,Nat.reduceEqDiff,Nat.reduceLT,Nat.reduceLeDiff,Nat.reduceAdd,Nat.reduceMul,Int.reduceToNat,Int.reduceLE,Int.reduceLT,Doc.av,bA,show(lW tK).length=3 from rfl,show(((3:Nat):Int)==3)=true from rfl]

def alD (alc akY:Nat):AC:=
(aM [zzX 2 0,zzX 3 1,jM 4 false] (aM [gz 10 1 2,aQ 11 (.call alc [(.t 10),(jS 0)]),MR 9 11,ox 12 9 0,ox 13 9 1,aQ 5 (.new [(.bool false),(.str []),.nil0,.nil0]),gg (.store 4 (.t 5) (.t 12)),MR 6 13] (aM [gz 15 1 3,aQ 16 (.call alc [(.t 15),(jS 0)]),MR 14 16,ox 17 14 0,ox 18 14 1,aQ 7 (.new [(.bool false),(.str []),.nil0,.nil0]),gg (.store 4 (.t 7) (.t 17)),MR 8 18] (aM [MR 19 6,eY 20 .eql 19 0,MR 21 20,cU 22 21 8,dW 23 21 (.bin .eql (.t 22) (jS 0)),jT 24 21 23,MR 25 24,dW 26 25 (.load (some 4) (.t 5)),dW 27 25 (.load (some 4) (.t 7)),dW 28 25 (.call akY [(.t 26),(.t 27)]),jT 29 25 28,MR 4 29] .ret))))
def apz {ak2 alc akY:Nat} (hF:aw P G ak2=some (30,[(none,4)],(alD alc akY).bare)) (d e:Doc) (hd:Vo d=true) (he:Vo e=true)
  (h1:au P G alc [Doc.av d,.int .i64 0] (.gf [(aec d 0).1.av,.int .i64 (aec d 0).2])) (h2:au P G alc [Doc.av e,.int .i64 0] (.gf [(aec e 0).1.av,.int .i64 (aec e 0).2]))
  (hS:au P G akY [(aec d 0).1.av,(aec e 0).1.av] (.bool (P2 (aec d 0).1 (aec e 0).1))):au P G ak2 [Doc.av d,Doc.av e] (.bool (P2 d e)):=by
 have tz:∀{d:Doc},Vo d=true→∃t:Tree,t.d_=true∧d=lW t∧aec d 0=(t,0):=fun {d} h=>by
  obtain⟨t,ht,rfl⟩:=XW.1 h;exact⟨t,ht,rfl,aed ht (Sub.self 0 (-1) t)⟩
 obtain⟨t,ht,rfl,e1⟩:=tz hd;obtain⟨u,hu,rfl,e2⟩:=tz he;have hq:P2 (lW t) (lW u)=P2 t u:=by
  rw[Bb,afz,afz];constructor
  ·intro h;have:=e1.symm.trans (h▸e2);exact(Prod.mk.inj this).1
  rintro rfl;rfl
 rw[e1] at h1 hS;rw[e2] at h2 hS;refine aR hF N7 P9 Pv ?_;unfold alD;simp only[Doc.av,Tree.av] at h1 h2 hS;simp only[↓aX,mX,seval,Doc.av];refine ay h1 ?_;simp only[↓aX,mX,seval];refine ay h2 ?_;simp only[↓aX,mX,seval,show((0:Int)==0)=true from rfl];refine ay hS ?_;simp only[↓aX,mX,seval,hq]
end

def ani {s:Bs} (h:(jD s).2=0):(jD s).1.d_=true:=by
 unfold jD lh at h ⊢;split at h
 ·cases h
 rename_i hl;rw[cY hl];split at h
 ·rename_i t he;split at h
  ·rename_i hg;simp only[he,hg,ku]
  cases h
 cases h
def ao8 {d:Doc} (hd:Vo d=true) (l:List Op):Vo (XU d l).1=true:=by
 unfold XU;split
 ·simp only;split
  ·rename_i h;exact Yj h
  exact hd
 exact hd
def aoy {d:Doc} (hd:Vo d=true) (ls:List Bs):Vo (alh d ls).1=true:=by
 unfold alh;split
 ·exact hd
 split
 ·exact hd
 split
 ·exact ao8 hd _
 exact hd
def apU {d:Doc} (hd:Vo d=true) (a:ak7):Vo (alS d a).1=true:=by
 unfold alS;split
 ·split
  ·split
   ·rename_i h;have hg:=ani h;unfold Wo;rw[eE hg];exact Yj hg
   exact hd
  exact hd
 split
 ·exact aoy hd _
 split
 ·split<;>exact hd
 exact hd
def aqD {q:Doc×Int} (a:ak7) (h:Vo q.1=true∧0≤q.2∧q.2≤100):Vo (doF q.1 q.2 a).1.1=true∧0≤(doF q.1 q.2 a).1.2∧(doF q.1 q.2 a).1.2≤100:=by
 unfold doF;split
 ·exact h
 exact⟨apU h.1 a,Pq,Pq⟩
theorem aoM:∀(l:List ak7) (q:Doc×Int),(Vo q.1=true∧0≤q.2∧q.2≤100)→Vo (ans q l).1=true∧0≤(ans q l).2∧(ans q l).2≤100
 |[],q,h=>h
 |a::r,q,h=>aoM r _ (aqD a h)
def anj (l:List ak7) (i:Nat):Vo (aly l i).1=true∧0≤(aly l i).2∧(aly l i).2≤100:=aoM _ _ ⟨anU,Pr,Pr⟩
def aoN (s:Bs):(OF s).1.length≤40:=by
 unfold OF;split
 ·simp
 split
 ·split
  ·rename_i h;simp only[plain,de,dj] at h;have:=h.2;simp only;omega
  simp
 simp
def apV (s:Bs):dE (NQ s).1≤2^22:=by
 unfold NQ Pm;split
 ·simp[dE]
 split
 ·split
  ·rename_i h;have:=acC h;simp only;omega
  simp[dE]
 simp[dE]
def apW (s:Bs) (hs:s.length≤2^22):opB (ak8 s).1:=by
 have l1:=(alP 32 s).2;have l2:=(alP 32 (Bj 32 s).2.1).2;have l3:=(alP 61 (Bj 32 (Bj 32 s).2.1).2.1).1;have h0:opB op0:=⟨by simp[op0,dE],by simp[op0],by simp[op0]⟩;unfold ak8;simp only;split
 ·exact h0
 split
 ·exact h0
 split
 ·exact h0
 split
 ·exact⟨QF,Pq,N7⟩
 split
 ·split
  ·split
   ·exact⟨QF,Pq,by have:=aoN (Bj 61 (Bj 32 (Bj 32 s).2.1).2.1).2.1;simp only;omega⟩
   exact h0
  exact h0
 split
 ·split
  ·exact⟨QF,N7,by have:=aoN (Bj 32 (Bj 32 s).2.1).2.1;simp only;omega⟩
  exact h0
 split
 ·exact⟨QF,N7,N7⟩
 split
 ·exact⟨apV _,N7,N7⟩
 exact h0
def amR {d:Doc} (h:Vo d=true):zn d≤38400:=by
 obtain⟨t,ht,rfl⟩:=XW.1 h;have:=aeg t;have:=af6 ht;omega
def aoO {d:Doc} (h:Vo d=true):(aec d 0).1.wt≤19200:=by
 obtain⟨t,ht,rfl⟩:=XW.1 h;rw[show aec (lW t) 0=(t,0) from aed ht (Sub.self 0 (-1) t)];exact af6 ht
end Go.Am
