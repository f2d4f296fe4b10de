import Derived.Test.YtfinkeaikbmpgaaGreatDoorKAm53
import Derived.Test.YtfinkeaikbmpgaaGreatDoorKAm48
import Derived.Test.YtfinkeaikbmpgaaGreatDoorKT90
import Derived.Test.YtfinkeaikbmpgaaGreatDoorKT110
import Derived.Test.YtfinkeaikbmpgaaGreatDoorKT88
set_option linter.unusedSimpArgs false
set_option linter.unusedVariables false
set_option linter.unnecessarySimpa false
set_option linter.defProp false
/- The store's document, told: its nodes a row of one's own. -/
namespace Go.Am
open Go Go.RowKit
def alW (f:Nat→Option (Nat×List IV)):uR where
 row _ p:=(f p).map fun x=>⟨x.1,aB x.2⟩
 nat lab ρ p:=by cases f p<;>simp[dy]
 an lab p r h cs bV q hq:=by
  cases e:f p with
  |none=>simp[e] at h
  |some x=>simp[e] at h;subst h;rw[bU bV] at hq;simp at hq
def alU {f:Nat→Option (Nat×List IV)} {p:Nat}:(alW f).ok p↔(f p).isSome=true:=by simp[uR.ok,alW]
def ap2 (d:Doc) (n:Int):List IV:=[.agg [.list (d.map Node.iv),.int .i64 n]]
def amG (d:Doc) (n:Int):aB (ap2 d n)=[stC d n]:=by simp[aB,ap2,IV.cells,IV.dQ,stC]
def f1S (d:Doc) (n:Int):Nat→Option (Nat×List IV):=fun p=>if p=0 then some (2,ap2 d n) else none
section
variable {P:Program} {G:Nat→Option (List IV)}
end

structure Md where
 e:Doc
 c:Int
 N:Nat
 tx:Nat→Bool
 s:Nat→Bs
 pr:Nat→Int
 na:Nat→Nat
 nk:Nat→Nat
 ga:Nat→List Attr
 gk:Nat→List Int
def arH (b:Md) (lab:Nat→Lb) (i:Nat):List AV:=[.bool (b.tx i),.str (b.s i),.sl (lab (2+2*i)) 2 0 (b.na i),.int .i64 (b.pr i),.sl (lab (3+2*i)) 1 0 (b.nk i)]
def arY (b:Md) (lab:Nat→Lb) (p:Nat):Option Row:=
 if p=0 then some ⟨2,[stC b.e b.c]⟩ else if p=1 then some ⟨5,(List.range b.N).map (arH b lab)⟩
 else if p<2+2*b.N then(if p%2=0 then some ⟨2,aB (cD (b.ga ((p - 2)/2)))⟩ else some ⟨1,aB ((b.gk ((p - 3)/2)).map xX)⟩) else none
def arP {b:Md} {lab:Nat→Lb} {p:Nat}:(arY b lab p).isSome=true↔p<2+2*b.N:=by
 unfold arY;by_cases h0:p=0
 ·simp[h0];omega
 by_cases h1:p=1
 ·simp[h1];omega
 by_cases h4:p<2+2*b.N
 ·by_cases h5:p%2=0<;>simp[h0,h1,h4,h5]
 simp[h0,h1,h4]
def mSh (b:Md):uR where
 row:=arY b
 nat lab ρ p:=by
  unfold arY;by_cases h0:p=0
  ·simp[h0,dO,bu,bJ,stC]
  by_cases h1:p=1
  ·simp[h1,dO,arH,bu,bJ]
  by_cases h4:p<2+2*b.N
  ·by_cases h5:p%2=0<;>simp[h0,h1,h4,h5,dy]
  simp[h0,h1,h4]
 an lab p r hr cs bV q hq:=by
  unfold arY at hr;by_cases h0:p=0
  ·simp[h0] at hr;subst hr;simp only[bY] at bV;subst bV;simp[ah,AV.an,stC] at hq
  by_cases h1:p=1
  ·simp[h1] at hr;subst hr;simp only[pb,JG] at bV;obtain⟨i,hi,rfl⟩:=bV;simp[ah,AV.an,arH] at hq;rcases hq with rfl|rfl
   ·exact⟨2+2*i,arP.2 tM,rfl⟩
   exact⟨3+2*i,arP.2 tM,rfl⟩
  exfalso;by_cases h4:p<2+2*b.N
  ·by_cases h5:p%2=0
   ·simp[h0,h1,h4,h5] at hr;subst hr;rw[bU bV] at hq;simp at hq
   simp[h0,h1,h4,h5] at hr;subst hr;rw[bU bV] at hq;simp at hq
  simp[h0,h1,h4] at hr
def arD {b:Md} {p:Nat}:(mSh b).ok p↔p<2+2*b.N:=arP
def ar' {b:Md} {lab:Nat→Lb} {i:Nat} (h:i<b.N):arY b lab (2+2*i)=some ⟨2,aB (cD (b.ga i))⟩:=by
 unfold arY;rw[cY tM,cY tM,eE tM,eE tM,show(2+2*i - 2)/2=i by omega]
def ar_ {b:Md} {lab:Nat→Lb} {i:Nat} (h:i<b.N):arY b lab (3+2*i)=some ⟨1,aB ((b.gk i).map xX)⟩:=by
 unfold arY;rw[cY tM,cY tM,eE tM,cY tM,show(3+2*i - 3)/2=i by omega]
abbrev MAt (lab:Nat→Lb) (b:Md) (H:Hp):Prop:=Ed lab (mSh b) H
def MAt.mk' {lab:Nat→Lb} {b:Md} {H:Hp} (hi:∀p q,p<2+2*b.N→q<2+2*b.N→lab p=lab q→p=q) (h0:H (lab 0)= .live ⟨2,[stC b.e b.c]⟩) (h1:H (lab 1)= .live ⟨5,(List.range b.N).map (arH b lab)⟩)
  (h4:∀i,i<b.N→H (lab (2+2*i))= .live ⟨2,aB (cD (b.ga i))⟩) (h5:∀i,i<b.N→H (lab (3+2*i))= .live ⟨1,aB ((b.gk i).map xX)⟩):MAt lab b H:=by
 refine⟨fun p r hp=> ?_,fun p q hp hq=>hi p q (arD.1 hp) (arD.1 hq)⟩;change arY b lab p=some r at hp;have bI:p<2+2*b.N:=arP.1 (show(arY b lab p).isSome=true by rw[hp];rfl);by_cases e0:p=0
 ·subst e0;cases hp;exact h0
 by_cases e1:p=1
 ·subst e1;cases hp;exact h1
 by_cases e:p%2=0
 ·obtain⟨i,rfl⟩:∃i,p=2+2*i:=⟨(p - 2)/2,tM⟩;rw[ar' tM] at hp;cases hp;exact h4 i tM
 obtain⟨i,rfl⟩:∃i,p=3+2*i:=⟨(p - 3)/2,tM⟩;rw[ar_ tM] at hp;cases hp;exact h5 i tM
section
variable {lab:Nat→Lb} {b:Md} {H H2:Hp}
def MAt.z (h:MAt lab b H):H (lab 0)= .live ⟨2,[stC b.e b.c]⟩:=h.row 0 _ rfl
def MAt.n (h:MAt lab b H):H (lab 1)= .live ⟨5,(List.range b.N).map (arH b lab)⟩:=h.row 1 _ rfl
def MAt.a (h:MAt lab b H) {i:Nat} (hi:i<b.N):H (lab (2+2*i))= .live ⟨2,aB (cD (b.ga i))⟩:=h.row _ _ (ar' hi)
def MAt.k (h:MAt lab b H) {i:Nat} (hi:i<b.N):H (lab (3+2*i))= .live ⟨1,aB ((b.gk i).map xX)⟩:=h.row _ _ (ar_ hi)
def MAt.ne (h:MAt lab b H) {p q:Nat} (hp:p<2+2*b.N) (hq:q<2+2*b.N) (e:p≠q):lab p≠lab q:=fun e2=>e (h.inj p q (arD.2 hp) (arD.2 hq) e2)
def Md.eh (b:Md) (i:Nat) (ys:List Attr):Md:={b with ga:=fun j=>if j=i then ys else b.ga j}
def Md.afQ (b:Md) (i:Nat) (ys:List Int):Md:={b with gk:=fun j=>if j=i then ys else b.gk j}
def Md.ahO (b:Md) (i:Nat) (s:Bs):Md:={b with s:=fun j=>if j=i then s else b.s j}
def MAt.eh (h:MAt lab b H) {i:Nat} {ys:List Attr} (hi:i<b.N):MAt lab (b.eh i ys) (bD H (lab (2+2*i)) (.live ⟨2,aB (cD ys)⟩)):=by
 have Vi:∀p,p<2+2*b.N→p≠2+2*i→bD H (lab (2+2*i)) (.live ⟨2,aB (cD ys)⟩) (lab p)=H (lab p):=fun p hp e=>aq _ _ (h.ne hp tM e);refine MAt.mk' (fun p q hp hq=>h.inj p q (arD.2 hp) (arD.2 hq)) ?_ ?_ ?_ ?_
 ·rw[Vi 0 tM tM];exact h.z
 ·rw[Vi 1 tM tM];exact h.n
 ·intro j hj;have hj:j<b.N:=hj;by_cases e:j=i
  ·subst e;simp[Md.eh]
  rw[Vi _ tM tM,h.a hj];simp[Md.eh,e]
 intro j hj;have hj:j<b.N:=hj;rw[Vi _ tM tM,h.k hj];rfl
def MAt.afQ (h:MAt lab b H) {i:Nat} {ys:List Int} (hi:i<b.N):MAt lab (b.afQ i ys) (bD H (lab (3+2*i)) (.live ⟨1,aB (ys.map xX)⟩)):=by
 have Vi:∀p,p<2+2*b.N→p≠3+2*i→bD H (lab (3+2*i)) (.live ⟨1,aB (ys.map xX)⟩) (lab p)=H (lab p):=fun p hp e=>aq _ _ (h.ne hp tM e);refine MAt.mk' (fun p q hp hq=>h.inj p q (arD.2 hp) (arD.2 hq)) ?_ ?_ ?_ ?_
 ·rw[Vi 0 tM tM];exact h.z
 ·rw[Vi 1 tM tM];exact h.n
 ·intro j hj;have hj:j<b.N:=hj;rw[Vi _ tM tM,h.a hj];rfl
 intro j hj;have hj:j<b.N:=hj;by_cases e:j=i
 ·subst e;simp[Md.afQ]
 rw[Vi _ tM tM,h.k hj];simp[Md.afQ,e]
def ar5 (b:Md) (lab:Nat→Lb) (i:Nat) (s:Bs):((List.range b.N).map (arH b lab)).set i (arH (b.ahO i s) lab i)=(List.range (b.ahO i s).N).map (arH (b.ahO i s) lab):=by
 apply fe;intro j;rw[JC,cn,cn];by_cases e:i=j
 ·subst e;by_cases hl:i<b.N<;>simp[hl,Md.ahO]
 simp only[e,nX,Md.ahO];by_cases hl:j<b.N
 ·rw[la hl];simp[arH,yd e]
 simp[hl]
def MAt.ahO (h:MAt lab b H) {i:Nat} {s:Bs} (hi:i<b.N):MAt lab (b.ahO i s) (bD H (lab 1) (.live ⟨5,((List.range b.N).map (arH b lab)).set i (arH (b.ahO i s) lab i)⟩)):=by
 have Vi:∀p,p<2+2*b.N→p≠1→∀x,bD H (lab 1) x (lab p)=H (lab p):=fun p hp e x=>aq _ _ (h.ne hp tM e);refine MAt.mk' (fun p q hp hq=>h.inj p q (arD.2 hp) (arD.2 hq)) ?_ ?_ ?_ ?_
 ·rw[Vi 0 tM tM];exact h.z
 ·rw[ae,eE rfl,ar5]
 ·intro j hj;have hj:j<b.N:=hj;rw[Vi _ tM tM,h.a hj];rfl
 intro j hj;have hj:j<b.N:=hj;rw[Vi _ tM tM,h.k hj];rfl
end
def ndD (d:Doc) (j:Nat):Node:=(d[j]?).getD ⟨false,[],[],0,[]⟩
def arI (d:Doc) (n:Int) (i:Nat):Md:=⟨d,n,i,fun j=>(ndD d j).text,fun j=>(ndD d j).s,fun j=>(ndD d j).parent,fun j=>(ndD d j).attrs.length,fun j=>(ndD d j).kids.length,fun j=>(ndD d j).attrs,fun j=>(ndD d j).kids⟩
def asa {d:Doc} {j:Nat} {x:Node} (h:d[j]?=some x):ndD d j=x:=by simp[ndD,h]
abbrev DocM (P:Program) (G:Nat→Option (List IV)) (f:Nat) (d:Doc) (n:Int):Prop:=
 Jg P G f [.ptr (.par 0) 2 0 0] (alW (f1S d n)) [0] fun X R2=>X=(fun lab=> .agg [.sl (lab 1) 5 0 d.length])∧R2=mSh (arI d n d.length)

def lm (p:Nat):Lb:=if p=0 then .par 0 else lc p
def aso {p:Nat} (h:p≠0):lm p=lc p:=cY h
def arT {p q:Nat} (h:lm p=lm q):p=q:=by
 unfold lm at h;by_cases hp:p=0<;>by_cases hq:q=0
 ·rw[hp,hq]
 ·rw[eE hp,cY hq] at h;simp[lc] at h
 ·rw[cY hp,eE hq] at h;simp[lc] at h
 rw[cY hp,cY hq] at h;exact XT h
def arN (p n:Nat):lm p≠ .loc n:=by unfold lm;split<;>simp[lc]
def QJ {p:Prop} (h:p:=by simp[arN]):p:=h
def asb (p c:Nat) (l:Lb):lm p≠NW c l:=by unfold lm;split<;>simp[lc,NW]
def arQ (i:Nat) (A K:Lb) (p:Nat):Lb:=if p=1 then .loc 31 else if p=2+2*i then A else if p=3+2*i then K else lm p
def ase {d:Doc} {n:Int} {i:Nat} {y:Node} {A K:Lb} {H H1:Hp} (hy:d[i]?=some y) (hB:MAt lm (arI d n i) H) (hA:∀p,lm p≠A) (hK:∀p,lm p≠K) (hA5:A≠ .loc 31) (hK5:K≠ .loc 31) (hKA:K≠A)
  (h1:H1 (.loc 31)= .live ⟨5,(List.range i).map (arH (arI d n i) lm)++[[.bool y.text,.str y.s,.sl A 2 0 y.attrs.length,.int .i64 y.parent,.sl K 1 0 y.kids.length]]⟩)
  (h2:H1 A= .live ⟨2,aB (cD y.attrs)⟩) (h3:H1 K= .live ⟨1,aB (y.kids.map xX)⟩) (h4:∀p,p≠1→H1 (lm p)=H (lm p)):MAt (arQ i A K) (arI d n (i+1)) H1:=by
 have hX:∀p,p≠1→p≠2+2*i→p≠3+2*i→arQ i A K p=lm p:=fun p a b c=>by simp[arQ,a,b,c]
 have hX4:arQ i A K (2+2*i)=A:=by unfold arQ;rw[cY tM,eE rfl]
 have hX5:arQ i A K (3+2*i)=K:=by unfold arQ;rw[cY tM,cY tM,eE rfl]
 have hyn:=asa hy;refine MAt.mk' ?_ ?_ ?_ ?_ ?_
 ·intro p q hp hq e;have hX1:arQ i A K 1= .loc 31:=rfl;have hc:∀p,p=1∨p=2+2*i∨p=3+2*i∨(p≠1∧p≠2+2*i∧p≠3+2*i):=fun p=>by omega
  rcases hc p with rfl|rfl|rfl|⟨a1,a2,a3⟩<;>rcases hc q with rfl|rfl|rfl|⟨b1,b2,b3⟩
  ·rfl
  ·rw[hX1,hX4] at e;exact absurd e.symm hA5
  ·rw[hX1,hX5] at e;exact absurd e.symm hK5
  ·rw[hX1,hX q b1 b2 b3] at e;exact absurd e.symm (arN _ _)
  ·rw[hX1,hX4] at e;exact absurd e hA5
  ·rfl
  ·rw[hX4,hX5] at e;exact absurd e.symm hKA
  ·rw[hX4,hX q b1 b2 b3] at e;exact absurd e.symm (hA _)
  ·rw[hX1,hX5] at e;exact absurd e hK5
  ·rw[hX4,hX5] at e;exact absurd e hKA
  ·rfl
  ·rw[hX5,hX q b1 b2 b3] at e;exact absurd e.symm (hK _)
  ·rw[hX1,hX p a1 a2 a3] at e;exact absurd e (arN _ _)
  ·rw[hX4,hX p a1 a2 a3] at e;exact absurd e (hA _)
  ·rw[hX5,hX p a1 a2 a3] at e;exact absurd e (hK _)
  rw[hX p a1 a2 a3,hX q b1 b2 b3] at e;exact arT e
 ·rw[hX 0 tM tM tM,h4 0 tM];exact hB.z
 ·show H1 (.loc 31)=_;rw[h1,show(arI d n (i+1)).N=i+1 from rfl,List.range_succ,BG];congr 2;congr 1
  ·refine yp fun j hj=> ?_;have hj:j<i:=JG.1 hj;show arH (arI d n i) lm j=arH (arI d n i) (arQ i A K) j;unfold arH;rw[hX _ tM tM tM,hX _ tM tM tM]
  simp only[o2,D7,arH,arI,hyn,hX4,hX5]
 ·intro j hj;have hj:j<i+1:=hj;by_cases e:j=i
  ·subst e;rw[hX4,h2];simp only[arI,hyn]
  rw[hX _ tM tM tM,h4 _ tM];exact hB.a (show j<i by omega)
 intro j hj;have hj:j<i+1:=hj;by_cases e:j=i
 ·subst e;rw[hX5,h3];simp only[arI,hyn]
 rw[hX _ tM tM tM,h4 _ tM];exact hB.k (show j<i by omega)
section
variable {P:Program} {G:Nat→Option (List IV)}
def arK (iJ l4:Nat):AC:=
(aM [aQ 2 (.new [.nil0])] (.seq (aM [MR 6 0,aQ 7 (.zu false (.t 6) (.c .jK))] (.cond (.t 7) (aM [aQ 8 (.sg [.nil0] []),gg (.store 1 (.t 2) (.t 8))] .ret) .skip)) (aM [aQ 3 (.new [.nil0])] (.seq (.gh .vk (aM [MR 9 0,aQ 10 (.dp (.t 9)),ep 11 10 0,ep 12 11 0,fm 13 12,oy 14 13,gH 15 0] (.block 0 (.loop (aM [et 16 .lss 15 14] (.seq (.cond (.t 16) .skip (.exit 0)) (.seq (.block 1 (aM [jL 17 13 15 5,gz 18 5 17,aQ 5 (.new [(.bool false),(.str []),.nil0,(.int .i64 0),.nil0]),gg (.store 5 (.t 5) (.t 18))] (.seq (.VL [ep 19 5 2,fm 20 19,aQ 21 (.call iJ [(.t 20)]),ep 22 5 4,fm 23 22,aQ 24 (.call l4 [(.t 23)]),ep 25 5 2,gg (.store 1 (.t 25) (.t 21)),ep 26 5 4,gg (.store 1 (.t 26) (.t 24))] [[],[0],[1],[],[3],[4,2],[0,1,2,3,4],[6,2,5,0,1,2,3,4],[0,1,2,3,4,5,6,7],[8,5,7,0,1,2,3,4,5,6,7]] [.no,.rw [.loc 5] [],(.p_ [(.loc 5)]),.no,.rw [.loc 5] [],(.p_ []),.no,.rw [] [.loc 5],.no,.rw [] [.loc 5]]) (.cq [ep 27 3 0,fm 28 27,gz 29 5 5,aQ 30 (.gG 5 [(.bool false),(.str []),.nil0,(.int .i64 0),.nil0] [(0,(.t 29))]),aQ 31 (.app (.t 28) (.t 30) 5 80),ep 32 3 0,gg (.store 1 (.t 32) (.t 31))])))) (.cq [eY 33 .add 15 1,MR 15 33])))))))) (aM [gz 34 1 3,gg (.store 1 (.t 2) (.t 34))] .ret)))))
def asc (d:Doc) (i:Nat):List (Nat×AV):=[(0,.ptr (.par 0) 2 0 0),(2,.ptr (.loc 2) 1 0 0),(3,.ptr (.loc 3) 1 0 0),(13,.list (d.map Node.iv)),(14,.int .i64 d.length),(15,.int .i64 i)]
def ar2 (i:Nat):List (Lb×Row):=[(.loc 2,⟨1,[[.nil0]]⟩),(.loc 3,⟨1,[[.sl (lc 1) 5 0 i]]⟩)]
def dm0:Nat→Lb
 |0=> .par 0
 |_=> .loc 1000
def asq {mm iJ l4:Nat} (hF:aw P G mm=some (35,[((some (some 1)),2)],(amc iJ l4).bare)) (d:Doc) (hd:zn d≤B) (alb:Int)
  (hCA:∀x∈d,aa4 P G iJ [.list (cD x.attrs)] 2 (cD x.attrs)) (hCI:∀x∈d,aa4 P G l4 [.list (x.kids.map xX)] 1 (x.kids.map xX)) :
  DocM P G mm d alb:=by
 have hF':aw P G mm=some (35,[((some (some 1)),2)],(arK iJ l4).bare):=hF;refine VM hF' N7 (by simp[ah,AV.an,alU,f1S]) ?_;have zo:B=1073741824:=rfl;have zR:=XR d;have qB:Lx (alW (f1S d alb))=bD Hp.none (.par 0) (.live ⟨2,[stC d alb]⟩):=by
  funext q;by_cases hq:q= .par 0
  ·subst hq;rw[ae,eE rfl];exact R5 (lab:=Lb.par) (fun p q _ _ h=>acW p q h) _ (by simp[alW,f1S,amG])
  rw[aq _ _ hq];refine Qa _ fun p hp e=>hq ?_;by_cases h0:p=0
  ·rw[←e,h0]
  simp[alU,f1S,h0] at hp
 rw[qB];unfold arK;simp only[↓aX,mX,seval,Oj,stC,JQ,bA];rw[Ox];refine⟨_,_,Qm (q:= .loc 3) (cs:=[.nil0]) (j:=0) (d:=1000) (sz:=5) rfl rfl PU Pr,?_⟩;simp only[↓aX,mX,seval];have r0':∀i:Nat,(mSh (arI d alb i)).ok 0:=fun i=>arD.2 tM;have r1':∀i:Nat,(mSh (arI d alb i)).ok 1:=fun i=>arD.2 tM;have r0o:∀(lab:Nat→Lb) (i:Nat),PM lm lab (mSh (arI d alb i)) [] (.par 0)=lab 0:=fun lab i=>On (labC:=lm) (p:=0) (fun p1 p2 _ _ e=>arT e) (r0' i);have r1o:∀(lab:Nat→Lb) (i:Nat),PM lm lab (mSh (arI d alb i)) [] (lc 1)=lab 1:=fun lab i=>On (labC:=lm) (p:=1) (fun p1 p2 _ _ e=>arT e) (r1' i);have rlo:∀(lab:Nat→Lb) (i:Nat) (n:Nat),PM lm lab (mSh (arI d alb i)) [] (.loc n)= .loc n:=fun lab i n=>OE (fun p _=>arN p n);refine SJ (σ:={i:Nat // i≤d.length}) lm (fun q=>mSh (arI d alb q.1)) [.loc 2,.loc 3] (fun _=>false) (fun q=>asc d q.1) (fun q=>ar2 q.1) (fun q=>d.length - q.1) ⟨0,zd _⟩
  (fun q p1 p2 _ _ e=>arT e) (fun _=>rfl) QJ ?_ ?_ ?_ ?_
 ·intro q l' kR;simp[ah,AV.an,asc] at kR;rcases kR with rfl|rfl|rfl
  ·right;exact⟨0,r0' q.1,rfl⟩
  ·simp
  simp
 ·intro q z hz cs bV l' kR;simp only[ar2,dU,e7,kt] at hz;rcases hz with rfl|rfl<;>(simp only[bY] at bV;subst bV;simp[ah,AV.an] at kR)
  subst kR;right;exact⟨1,r1' q.1,rfl⟩
 ·refine⟨dm0,[],?_⟩;refine⟨?_,?_,?_,?_,PN,?_,PZ,?_⟩
  ·refine MAt.mk' ?_ ?_ ?_ ?_ ?_
   ·intro p q hp hq e;have hp:p<2:=(by simpa[arI] using hp);have hq:q<2:=by simpa[arI] using hq
    match p,hp,q,hq with
    |0,_,0,_|1,_,1,_=>rfl
    |0,_,1,_|1,_,0,_=>simp[dm0] at e
   ·simp[dm0,ae,arI,stC]
   ·simp[dm0,ae,arI]
   ·intro j hj;simp[arI] at hj
   intro j hj;simp[arI] at hj
  ·intro l' he hu;left;cases l'<;>simp[Lb.entry] at he;rename_i n;by_cases e:n=0
   ·subst e;exact⟨0,r0' _,rfl⟩
   exfalso;apply hu;simp[ae,Hp.none,e]
  ·simp[asc,k_,bJ,put,jP,rlo,r0o];rfl
  ·intro z hz;simp only[ar2,dU,e7,kt] at hz;rcases hz with rfl|rfl
   ·simp[dn,ae,dO,bu,bJ]
   simp[dn,ae,dO,bu,bJ,r1o];rfl
  ·intro l' kR p' BT;have BT:p'<2:=(by simpa[arI] using arD.1 BT);simp only[dU,e7,kt] at kR;rcases kR with rfl|rfl<;>(simp only[dn];match p',BT with|0,_|1,_=>simp[dm0])
  intro p' BT;have BT:p'<2:=by simpa[arI] using arD.1 BT
  match p',BT with
  |0,_=>exact⟨fun h=>by simp[lm,Lb.fresh] at h,fun _=>rfl⟩
  |1,_=>exact⟨fun _=>rfl,fun h=>by simp[lm,lc,Lb.entry] at h⟩
 rintro⟨i,hi⟩;obtain⟨H0,EY⟩:∃H0,H0=Lw lm (mSh (arI d alb i)) (ie (fun _=>false) (ar2 i)):=⟨_,rfl⟩;simp only;rw[←EY];have hB:MAt lm (arI d alb i) H0:=by rw[EY];exact Ed.R6 (fun p1 p2 _ _ e=>arT e) _
 have hO:∀l':Lb,(∀p',lm p'≠l')→H0 l'=ie (fun _=>false) (ar2 i) l':=fun l' hl=>by rw[EY];exact Qa _ fun p' _=>hl p'
 have hO2:∀l':Lb,(∀p',lm p'≠l')→l'≠ .loc 2→l'≠ .loc 3→H0 l'= .unused:=fun l' h1 h2 h3=>(hO l' h1).trans (by simp[ie,ar2,kl,ae,h2,h3,Hp.none]);have a2:H0 (.loc 2)= .live ⟨1,[[.nil0]]⟩:=(hO _ QJ).trans (by simp[ie,ar2,kl,ae]);have a3:H0 (.loc 3)= .live ⟨1,[[.sl (lc 1) 5 0 i]]⟩:=(hO _ QJ).trans (by simp[ie,ar2,kl,ae]);have hE:∀n,n≠0→H0 (.par n)= .unused:=fun n hn=>hO2 _ (by intro p';unfold lm;split<;>simp[lc];exact yd hn) N7 N7;have aN:∀c l',H0 (NW c l')= .unused:=fun c l'=>hO2 _ (fun p=>asb p c l') PW PW;have al:∀n,n≠2→n≠3→H0 (.loc n)= .unused:=fun n h1 h2=>hO2 _ QJ (by simpa using h1) (by simpa using h2);clear hO hO2 EY;have hz:H0 (.par 0)= .live ⟨2,[stC d alb]⟩:=hB.z;have F2:H0 (lc 1)= .live ⟨5,(List.range i).map (arH (arI d alb i) lm)⟩:=hB.n;simp only[↓aX,mX,seval,asc];refine AU (fun h=> ?_) (fun h=> ?_)
 ·have bI:i<d.length:=by simpa using h
  obtain⟨y,hy⟩:∃y,d[i]?=some y:=⟨_,bS bI⟩;have hw:IntKind.i64.wrap ((i:Int)+1)=((i+1:Nat):Int):=wrap64 tM tM;simp only[↓aX,mX,seval,Doc.XF hy,Xx,Node.cJ,Node.cs,al 5 Pr Pr];refine⟨rfl,?_⟩;have hym:=dc hy;refine ac' 901 (hCA y hym) PC (fun l'=>by rw[aq _ _ PW,aq _ _ PW];exact aN _ _) N7 fun l1=> ?_;have nA:∀n,NW 901 l1≠ .loc n:=PW
  have nA2:∀p,lm p≠NW 901 l1:=fun p=>asb p 901 l1;have nA3:lc 1≠NW 901 l1:=QI
  have nA4:∀n,NW 901 l1≠ .par n:=PW
  have uA:H0 (NW 901 l1)= .unused:=aN _ _;have fA:(NW 901 l1).fresh=true:=rfl;have eA:(NW 901 l1).entry=false:=rfl;have hAK:∀l2,NW 902 l2≠NW 901 l1:=PW
  generalize NW 901 l1=A at *;have nA':∀n,Lb.loc n≠A:=fun n=>yd (nA n);simp only[↓aX,mX,seval,nA',bp];refine ac' 902 (hCI y hym) PC (fun l'=>by rw[aq _ _ (hAK l'),aq _ _ PW,aq _ _ PW];exact aN _ _) N7 fun l2=> ?_;have nK:∀n,NW 902 l2≠ .loc n:=PW
  have nK2:∀p,lm p≠NW 902 l2:=fun p=>asb p 902 l2;have nK3:lc 1≠NW 902 l2:=QI
  have nK4:∀n,NW 902 l2≠ .par n:=PW
  have uK:H0 (NW 902 l2)= .unused:=aN _ _;have fK:(NW 902 l2).fresh=true:=rfl;have eK:(NW 902 l2).entry=false:=rfl;have hAK:=hAK l2;generalize NW 902 l2=Kd at *;have nK':∀n,Lb.loc n≠Kd:=fun n=>yd (nK n);have ae3:=yd hAK;simp only[↓aX,mX,seval,nA',nK',bA,ae3];simp only[↓aX,mX,seval,W_,Xg,nA3,nK3,a3,F2,acy,aba,nA',nK',ae3,aaR];have u30:=al 30 Pr Pr;have u31:=al 31 Pr Pr;rw[aaV (sz:=5) (d:=30) (cs:=[.bool y.text,.str y.s,.sl A 2 0 y.attrs.length,.int .i64 y.parent,.sl Kd 1 0 y.kids.length]) Qv (by simp[ae,nA',nK',u30]) rfl Pr];simp only[↓aX,mX,seval,W_,Xg,nA3,nK3,a3,F2,acy,aba,nA',nK',ae3,aaR];rw[SM (l:=lc 1) (q:= .loc 30) (d:=31) (els:=(List.range i).map (arH (arI d alb i) lm)) (cs:=[.bool y.text,.str y.s,.sl A 2 0 y.attrs.length,.int .i64 y.parent,.sl Kd 1 0 y.kids.length]) (by simp[ae,W_,nA3,nK3,F2]) PE (by simp[AV.oJ,AV.one]) N7 tM Pr (by simp[lc];rintro⟨⟩) (by simp[aba,ae,nA',nK',u31])];simp only[↓aX,mX,seval,W_,Xg,nA3,nK3,a3,F2,acy,aba,nA',nK',ae3,aaR,aeZ,hw,or_true,true_or];refine⟨⟨i+1,bI⟩,Pq,arQ i A Kd,[],?_⟩;have hX0:arQ i A Kd 0= .par 0:=by unfold arQ;rw[cY tM,cY tM,cY tM];rfl
  have hX1:arQ i A Kd 1= .loc 31:=rfl;have hXl:∀p n,n≠31→arQ i A Kd p≠ .loc n:=by
   intro p n hn;unfold arQ;split
   ·simpa using yd hn
   split
   ·exact nA n
   split
   ·exact nK n
   exact arN _ _
  refine⟨?_,?_,?_,?_,PN,?_,PZ,?_⟩
  ·refine ase hy hB nA2 nK2 (nA 31) (nK 31) hAK ?_ ?_ ?_ ?_
   ·simp[ae,nA',nK',Xg]
   ·simp[ae,yd nA3,nA,ae3]
   ·simp[ae,yd nK3,nK]
   intro p g1;have:lm p≠lc 1:=fun e=>g1 (arT (e.trans (aso Pr).symm));simp[ae,arN,nA2,nK2,this]
  ·intro l' he hu;left;refine⟨0,r0' _,?_⟩;cases l'<;>simp[Lb.entry] at he;rename_i n;by_cases e:n=0
   ·subst e;rfl
   exfalso;apply hu;simp[ae,lc,yd (nA4 _),yd (nK4 _),hE n e]
  ·simp[k_,bJ,put,o9,r0o,rlo,asc,hX0]
  ·intro z hz;simp only[ar2,dU,e7,kt] at hz;rcases hz with rfl|rfl<;>simp[dn,ae,dO,bu,bJ,Xg,nA',nK',a2,a3,r1o,hX1]
  ·intro l' kR p' BT;simp only[dU,e7,kt] at kR;rcases kR with rfl|rfl
   ·exact hXl _ _ Pr
   exact hXl _ _ Pr
  intro p' BT;have LR:∀p,p≠0→(lm p).fresh=true∧(lm p).entry=false:=fun p h=>by rw[aso h];exact⟨rfl,rfl⟩
  by_cases h0:p'=0
  ·subst h0;rw[hX0];exact⟨fun h=>by simp[lm,Lb.fresh] at h,fun _=>rfl⟩
  refine⟨fun _=> ?_,fun h=>by rw[(LR p' h0).2] at h;cases h⟩;unfold arQ;split
  ·rfl
  split
  ·exact fA
  split
  ·exact fK
  exact(LR p' h0).1
 have he:i=d.length:=by simp at h;omega
 subst he;simp only[↓aX,mX,seval,a2,a3];refine⟨⟨fun lab=> .agg [.sl (lab 1) 5 0 d.length],mSh (arI d alb d.length),lm⟩,⟨rfl,rfl⟩,fun ρ=>by simp[bJ,bu],fun z hz=>⟨1,r1' _,by simpa[AV.an,ah,lm] using hz⟩,by simp[lm],?_,?_⟩
 ·exact⟨fun p r hr=>(aq _ _ (arN _ _)).trans (hB.row p r hr),hB.inj⟩
 rfl
end

def ar6 {S:St} {f:Nat} {d:Doc} {n:Int} {H:Hp} {k:AV→Hp→Prop} {u:Tw k} (c:Nat) (L:Lb) (h:DocM S.P S.G f d n) (hl:H L= .live ⟨2,[stC d n]⟩) (hN:∀l,H (NC c l)= .unused)
  (hk:∀lab H2,MAt lab (arI d n d.length) H2→lab 0=L→(∀p,p≠0→p<2+2*d.length→∃l,lab p=NC c l)→(∀q,(∀l,q≠NC c l)→H2 q=H q)→k (.agg [.sl (lab 1) 5 0 d.length]) H2):C7 S f [.ptr L 2 0 0] H k u:=by
 have hLN:∀l,L≠NC c l:=fun l e=>by rw[e,hN l] at hl;cases hl
 have h1:∀p,(alW (f1S d n)).ok p→p=0:=fun p hp=>by
  by_cases e:p=0
  ·exact e
  simp[alU,f1S,e] at hp
 refine WV (lab:=fun p=>if p=0 then L else .par p) (N:=NC c) h Qp ⟨fun p r hr=> ?_,fun p q hp hq e=> ?_⟩ hN (Yo c) (fun l hf=> .inl hf) (by simp[alU,f1S]) ?_
 ·have e:=h1 p ((uR.Ec _ _ _).1 (by rw[hr];rfl));subst e;simp[alW,f1S,amG] at hr;subst hr;exact hl
 ·rw[h1 p hp,h1 q hq]
 rintro X R2 U9 H2 ⟨rfl,rfl⟩ g1 g2 g3 g4 g5 g6;have k0:U9 0=L:=g2 0 N7;refine hk U9 H2 g1 k0 (fun p hp B1=> ?_) fun q hq=> ?_
 ·rcases g3 p (arD.2 B1) with⟨p0,KY,e⟩|h
  ·rw[eE (h1 p0 KY),←k0] at e;exact absurd (g1.inj p 0 (arD.2 B1) (arD.2 tM) e) hp
  exact h
 by_cases e:q=L
 ·subst e;rw[hl,←k0];exact MAt.z g1
 exact g4 q (fun p hp=>by rw[eE (h1 p hp)];exact e) hq
def arJ (d:Doc) (n:Int) (e:Doc) (m:Int):uR where
 row lab p:=if p=0 then some ⟨2,[stC d n]⟩ else if p=1 then some ⟨1,[[.ptr (lab 2) 2 0 0]]⟩ else if p=2 then some ⟨2,[stC e m]⟩ else none
 nat lab ρ p:=by
  by_cases h0:p=0
  ·simp[h0,dO,bu,bJ,stC]
  by_cases h1:p=1
  ·simp[h1,dO,bu,bJ]
  by_cases h2:p=2
  ·simp[h2,dO,bu,bJ,stC]
  simp[h0,h1,h2]
 an lab p r hr cs bV q hq:=by
  by_cases h0:p=0
  ·simp[h0] at hr;subst hr;simp only[bY] at bV;subst bV;simp[ah,AV.an,stC] at hq
  by_cases h1:p=1
  ·simp[h1] at hr;subst hr;simp only[bY] at bV;subst bV;simp[ah,AV.an] at hq;exact⟨2,N7,hq⟩
  by_cases h2:p=2
  ·simp[h2] at hr;subst hr;simp only[bY] at bV;subst bV;simp[ah,AV.an,stC] at hq
  simp[h0,h1,h2] at hr
def arG {d e:Doc} {n m:Int} {p:Nat}:(arJ d n e m).ok p↔p<3:=by
 show((arJ d n e m).row _ p).isSome=true↔_;simp only[arJ];by_cases h0:p=0
 ·simp[h0]
 by_cases h1:p=1
 ·simp[h1]
 by_cases h2:p=2
 ·simp[h2]
 simp[h0,h1,h2];omega
def lk (p:Nat):Lb:=if p=0 then .par 0 else .nest (.par 0) p 4
def arZ {p q:Nat} (h:lk p=lk q):p=q:=by
 unfold lk at h;by_cases hp:p=0<;>by_cases hq:q=0
 ·rw[hp,hq]
 ·rw[eE hp,cY hq] at h;simp at h
 ·rw[cY hp,eE hq] at h;simp at h
 rw[cY hp,cY hq] at h;simpa using h
def okL (lab:Nat→Lb) (n:Nat):Prop:=lab 0= .par 0∧∀p,p≠0→p<n→(∀k,lab p≠ .loc k)∧(∀k,lab p≠ .par k)
def arW (n:Nat):okL lk n:=⟨rfl,fun p hp _=>⟨fun k=>by simp[lk,hp],fun k=>by simp[lk,hp]⟩⟩
def mRs (e:Doc) (m:Int) (N:Nat):List (Lb×Row):=[(.par 1,⟨1,[[.ptr (.par 2) 2 0 0]]⟩),(.par 2,⟨2,[stC e m]⟩),(.loc 10,⟨1,[[.sl (lk 1) 5 0 N]]⟩)]
def Qz {p:Prop} (h:p:=by simp[ie,mRs,kl,ae]):p:=h
abbrev mLs:List Lb:=[.par 1,.par 2,.loc 10]
def asj {b:Md} {lab:Nat→Lb} {env:Env} {H:Hp} {ps:List (Nat×AV)} {e:Doc} {m:Int} (hB:MAt lab b H) (hl:okL lab (2+2*b.N)) (hE:∀n,3≤n→H (.par n)= .unused)
  (a1:H (.par 1)= .live ⟨1,[[.ptr (.par 2) 2 0 0]]⟩) (a2:H (.par 2)= .live ⟨2,[stC e m]⟩) (a10:H (.loc 10)= .live ⟨1,[[.sl (lab 1) 5 0 b.N]]⟩)
  (he:PM lk lab (mSh b) [] (.par 0)= .par 0→PM lk lab (mSh b) [] (.par 1)= .par 1→PM lk lab (mSh b) [] (.loc 10)= .loc 10→k_ (PM lk lab (mSh b) []) env ps) :
  WH lk (mSh b) mLs (fun _=>false) ps (mRs e m b.N) env H lab []:=by
 have i0:∀p q,(mSh b).ok p→(mSh b).ok q→lk p=lk q→p=q:=fun p q _ _ h=>arZ h;have r0:PM lk lab (mSh b) [] (.par 0)= .par 0:=(On (p:=0) i0 (arD.2 tM)).trans hl.1;have r1:PM lk lab (mSh b) [] (lk 1)=lab 1:=On i0 (arD.2 tM);have rp:∀k,k≠0→PM lk lab (mSh b) [] (.par k)= .par k:=fun k hk=>OE (fun p _=>by unfold lk;split<;>simp;exact yd hk);have rl:∀k,PM lk lab (mSh b) [] (.loc k)= .loc k:=fun k=>OE (fun p _=>by unfold lk;split<;>simp);refine⟨hB,?_,he r0 (rp 1 Pr) (rl 10),?_,PN,?_,PZ,?_⟩
 ·intro l' h1 hu;cases l'<;>simp[Lb.entry] at h1;rename_i k;by_cases h0:k=0
  ·subst h0;exact .inl ⟨0,arD.2 tM,rfl⟩
  by_cases h1:k=1
  ·subst h1;exact .inr (.inl N7)
  by_cases h2:k=2
  ·subst h2;exact .inr (.inl N7)
  exact absurd (hE k tM) hu
 ·intro z hz;simp only[mRs,dU,e7,kt] at hz;rcases hz with rfl|rfl|rfl
  ·simp[dn,dO,bu,bJ,a1,rp]
  ·simp[dn,dO,bu,bJ,a2,stC]
  simp[dn,dO,bu,bJ,a10,r1]
 ·intro l' kR p' BT;have BT:=arD.1 BT;simp only[dU,e7,kt] at kR;by_cases h0:p'=0
  ·subst h0;rw[hl.1];rcases kR with rfl|rfl|rfl<;>simp[dn]
  have:=hl.2 p' h0 BT;rcases kR with rfl|rfl|rfl
  ·exact this.2 1
  ·exact this.2 2
  exact this.1 10
 intro p' BT;by_cases h0:p'=0
 ·subst h0;exact⟨fun h=>by simp[lk,Lb.fresh] at h,fun _=>hl.1⟩
 exact⟨fun h=>by simp[lk,h0,Lb.fresh] at h,fun h=>by simp[lk,h0,Lb.entry] at h⟩

section
variable {P:Program} {G:Nat→Option (List IV)}
abbrev ash (P:Program) (G:Nat→Option (List IV)) (f:Nat) (w:Doc) (a:ak7) (r:Rep) (d e:Doc) (n m:Int):Prop:=
 Jg P G f [.ptr (.par 0) 2 0 0,Doc.av w,a.av,r.av,.ptr (.par 1) 1 0 0] (arJ d n e m) [0,1,2] fun X R2=>X=(fun _=> .bool true)∧R2=arJ d n d n
def MOk (d:Doc) (n:Int) (b:Md):Prop:=b.e=d∧b.c=n∧b.N=d.length∧(∀i,(b.ga i).length=b.na i)∧(∀i,(b.gk i).length=b.nk i)∧∀i,b.na i≤B∧b.nk i≤B
def MOk.eh {d:Doc} {n:Int} {b:Md} {i:Nat} {ys:List Attr} (h:MOk d n b) (hy:ys.length=b.na i):MOk d n (b.eh i ys):=by
 refine⟨h.1,h.2.1,h.2.2.1,fun j=> ?_,h.2.2.2.2.1,h.2.2.2.2.2⟩;by_cases e:j=i
 ·subst e;simp[Md.eh,hy]
 simp[Md.eh,e,h.2.2.2.1 j]
def MOk.afQ {d:Doc} {n:Int} {b:Md} {i:Nat} {ys:List Int} (h:MOk d n b) (hy:ys.length=b.nk i):MOk d n (b.afQ i ys):=by
 refine⟨h.1,h.2.1,h.2.2.1,h.2.2.2.1,fun j=> ?_,h.2.2.2.2.2⟩;by_cases e:j=i
 ·subst e;simp[Md.afQ,hy]
 simp[Md.afQ,e,h.2.2.2.2.1 j]
def MOk.ahO {d:Doc} {n:Int} {b:Md} {i:Nat} {s:Bs} (h:MOk d n b):MOk d n (b.ahO i s):=⟨h.1,h.2.1,h.2.2.1,h.2.2.2.1,h.2.2.2.2.1,h.2.2.2.2.2⟩
def arU (N i:Nat):List (Nat×AV):=[(0,.ptr (.par 0) 2 0 0),(4,.ptr (.par 1) 1 0 0),(10,.ptr (.loc 10) 1 0 0),(31,.int .i64 N),(32,.int .i64 i)]
def asf (N i na k:Nat):List (Nat×AV):=(11,.int .i64 i)::(41,.int .i64 na)::(42,.int .i64 k)::arU N i
def asg (N i nk k:Nat):List (Nat×AV):=(11,.int .i64 i)::(61,.int .i64 nk)::(62,.int .i64 k)::arU N i
def ar0 {b:Md} {d:Doc} {n:Int} (H0:Hp) (EY:H0=Lw lk (mSh b) (ie (fun _=>false) (mRs d n b.N))):MAt lk b H0∧(∀k,3≤k→H0 (.par k)= .unused)∧H0 (.par 1)= .live ⟨1,[[.ptr (.par 2) 2 0 0]]⟩∧H0 (.par 2)= .live ⟨2,[stC d n]⟩∧H0 (.loc 10)= .live ⟨1,[[.sl (lk 1) 5 0 b.N]]⟩:=by
 have hO:∀l':Lb,(∀p',lk p'≠l')→H0 l'=ie (fun _=>false) (mRs d n b.N) l':=fun l' hl=>by rw[EY];exact Qa _ fun p' _=>hl p'
 have p0:∀k,k≠0→∀p,lk p≠ .par k:=fun k hk p=>by unfold lk;split<;>simp;exact yd hk
 have l0:∀k p,lk p≠ .loc k:=fun k p=>by unfold lk;split<;>simp
 refine⟨by rw[EY];exact Ed.R6 (fun p1 p2 _ _ e=>arZ e) _,fun k hk=>(hO _ (p0 k tM)).trans ?_,(hO _ (p0 1 Pr)).trans Qz,(hO _ (p0 2 Pr)).trans Qz,(hO _ (l0 10)).trans Qz⟩;have h1:k≠1:=tM
 have h2:k≠2:=tM
 simp[ie,mRs,kl,ae,h1,h2,Hp.none]
def arE (w6 mm ak2:Nat):AC:=
(aM [zzX 6 1,zzX 7 2,zzX 8 3,jM 9 false] (.seq (.seq (.VL [fm 14 4,gz 15 2 7,aQ 16 (.call w6 [(.t 14),(.t 15)]),gz 17 3 8,aQ 18 (.pM true [.i,.i,.s] (.t 16) (.t 17)),MR 19 18,gV 20 19 0,iR 21 19 (.call mm [(.t 20)]),oG 22 19 4,iR 23 19 (.call mm [(.t 22)]),iR 24 19 (.call ak2 [(.t 21),(.t 23)]),iR 25 19 (.not (.t 24)),sj 26 19 25] [[],[],[0,1],[],[2,3],[4,2],[5],[6,5,5],[5],[8,7,5],[7,9,9,5],[10,5],[5,11]] [(.rw [(.par 1)] []),.rw [.loc 7] [],(.p_ [(.loc 8)]),.rw [.loc 8] [],.no,.no,.no,(.p_ [(.par 1)]),(.rw [(.par 1)] []),(.p_ []),.no,.no,.no]) (.cond (.t 26) (aM [jM 9 false] .ret) .skip)) (aM [MR 27 0,aQ 28 (.call mm [(.t 27)]),aQ 10 (.new [.nil0]),gg (.store 1 (.t 10) (.t 28))] (.seq (aM [ep 29 10 0,fm 30 29,oy 31 30,gH 32 0] (.block 0 (.loop (aM [et 33 .lss 32 31] (.seq (.cond (.t 33) .skip (.exit 0)) (.seq (.block 1 (aM [MR 34 32,MR 11 34] (.seq (aM [ep 35 10 0,fm 36 35,MR 37 11,jL 38 36 37 5,ep 39 38 2,fm 40 39,oy 41 40,gH 42 0] (.block 2 (.loop (aM [et 43 .lss 42 41] (.seq (.cond (.t 43) .skip (.exit 2)) (.seq (.block 3 (aM [MR 44 42,MR 12 44] (.cq [ep 45 10 0,fm 46 45,MR 47 11,jL 48 46 47 5,ep 49 48 2,fm 50 49,MR 51 12,jL 52 50 51 2,ep 53 52 1,gg (.store 1 (.t 53) (.c (.str [115,112,111,105,108,116])))]))) (.cq [eY 54 .add 42 1,MR 42 54]))))))) (.seq (aM [ep 55 10 0,fm 56 55,MR 57 11,jL 58 56 57 5,ep 59 58 4,fm 60 59,oy 61 60,gH 62 0] (.block 4 (.loop (aM [et 63 .lss 62 61] (.seq (.cond (.t 63) .skip (.exit 4)) (.seq (.block 5 (aM [MR 64 62,MR 13 64] (.cq [ep 65 10 0,fm 66 65,MR 67 11,jL 68 66 67 5,ep 69 68 4,fm 70 69,MR 71 13,jL 72 70 71 1,gg (.store 1 (.t 72) (.c (.int .i64 (-1))))]))) (.cq [eY 73 .add 62 1,MR 62 73]))))))) (.cq [ep 74 10 0,fm 75 74,MR 76 11,jL 77 75 76 5,ep 78 77 1,gg (.store 1 (.t 78) (.c (.str [115,112,111,105,108,116])))]))))) (.cq [eY 79 .add 32 1,MR 32 79]))))))) (.seq (.VL [MR 80 0,aQ 81 (.call mm [(.t 80)]),fm 82 4,aQ 83 (.call mm [(.t 82)]),aQ 84 (.call ak2 [(.t 81),(.t 83)]),MR 9 84] [[],[0],[],[2,1],[1,3,3],[4,4,0,1,2,3,4]] [.no,(.p_ [(.par 1)]),(.rw [(.par 1)] []),(.p_ []),.no,.no]) .ret)))))
def asd {o1 w6 mm ak2:Nat} (hF:aw P G o1=some (85,[(none,9)],(arE w6 mm ak2).bare)) (w d e:Doc) (n m:Int) (a:ak7) (r:Rep) (hd:zn d≤B)
   (hDo:cR P G w6 [.ptr (.par 0) 2 0 0,a.av] (stC e m) (fun x cs=>x=r.av∧cs=stC d n))
   (hD:cR P G mm [.ptr (.par 0) 2 0 0] (stC d n) (fun x cs=>x=Doc.av d∧cs=stC d n)) (hM:DocM P G mm d n)
   (hS:au P G ak2 [Doc.av d,Doc.av d] (.bool true)):ash P G o1 w a r d e n m:=by
 refine VM hF N7 (by simp[ah,AV.an,arG,ak7.av,Doc.av,Rep.av]) ?_
 have zo:B=1073741824:=rfl
 have zR:=XR d
 have qB:Lx (arJ d n e m)=bD (bD (bD Hp.none (.par 0) (.live ⟨2,[stC d n]⟩)) (.par 1) (.live ⟨1,[[.ptr (.par 2) 2 0 0]]⟩)) (.par 2) (.live ⟨2,[stC e m]⟩):=by
   funext q
   by_cases hq:∃k,k<3∧q= .par k
   · obtain⟨k,hk,rfl⟩:=hq
     match k,hk with
     |0,_=>rw[ae,cY N7,ae,cY N7,ae,eE rfl];exact R5 (lab:=Lb.par) (fun p q _ _ h=>acW p q h) _ (by simp[arJ])
     |1,_=>rw[ae,cY N7,ae,eE rfl];exact R5 (lab:=Lb.par) (fun p q _ _ h=>acW p q h) _ (by simp[arJ])
     |2,_=>rw[ae,eE rfl];exact R5 (lab:=Lb.par) (fun p q _ _ h=>acW p q h) _ (by simp[arJ])
   have:∀k,k<3→q≠ .par k:=fun k hk e=>hq ⟨k,hk,e⟩
   rw[aq _ _ (this 2 Pr),aq _ _ (this 1 Pr),aq _ _ (this 0 Pr)]
   exact Qa _ fun p hp e=>hq ⟨p,arG.1 hp,e.symm⟩
 rw[qB]
 unfold arE
 simp only[↓aX,mX,seval,stC,ak7.av,Doc.av,Rep.av]
 refine⟨rfl,?_⟩
 refine Bq (l:= .par 2) hDo (by simp[bu,bJ,ft,ak7.av]) Qg P' ⟨rfl,rfl⟩ (by simp[AV.an,Rep.av,ah]) Qj rfl ?_
 rintro x1 cs1 ⟨rfl,rfl⟩ _ _ _
 simp only[↓aX,mX,seval,Rep.av,stC,eqs,JP,Pl,Pk,eQ,bT,ib]
 refine Bq (l:= .par 0) hD PL Qg P' ⟨rfl,rfl⟩ Ql Qj rfl ?_
 rintro x2 cs2 ⟨rfl,rfl⟩ _ _ _
 simp only[↓aX,mX,seval,Doc.av,stC]
 refine Bq (l:= .par 2) hD PL Qg P' ⟨rfl,rfl⟩ Ql Qj rfl ?_
 rintro x3 cs3 ⟨rfl,rfl⟩ _ _ _
 simp only[↓aX,mX,seval,Doc.av,stC]
 refine jw hS ?_
 simp only[↓aX,mX,seval,ib]
 refine ar6 28 (.par 0) hM Qg (fun l=>by simp[ae,NC,Hp.none]) fun lab H2 hB LR hlN hH2=> ?_
 have hB0:H2 (.par 0)=_:=LR▸MAt.z hB
 have L9:=MAt.n hB
 have h1:H2 (.par 1)=_:=hH2 (.par 1) (fun l=>by simp[NC])
 have h2:H2 (.par 2)=_:=hH2 (.par 2) (fun l=>by simp[NC])
 have hp:∀k,3≤k→H2 (.par k)= .unused:=fun k hk=>(hH2 (.par k) (fun l=>by simp[NC])).trans (by simp[ae,Hp.none,show k≠0 by omega,show k≠1 by omega,show k≠2 by omega])
 have hl:∀k,9≤k→H2 (.loc k)= .unused:=fun k hk=>(hH2 (.loc k) (fun l=>by simp[NC])).trans (by simp[ae,Hp.none,show k≠6 by omega,show k≠7 by omega,show k≠8 by omega])
 simp[ae] at h1 h2
 clear hH2
 have j4:okL lab (2+2*d.length):=⟨LR,fun p KY hp=>by obtain⟨l,e⟩:=hlN p KY hp;rw[e];exact⟨fun k=>by simp[NC],fun k=>by simp[NC]⟩⟩
 simp only[↓aX,mX,seval,hl]
 have hC:∀b:Md,∀l∈mLs,∀p,(mSh b).ok p→lk p≠l:=by
   intro b l hl p _
   simp only[dU,e7,kt] at hl
   unfold lk
   rcases hl with rfl|rfl|rfl<;>split<;>simp
 have hr:∀b:Md,∀q∈mRs d n d.length,∀cs∈q.2.els,∀l∈ah cs,l∈mLs∨∃p,(mSh b).ok p∧lk p=l:=by
   intro b z hz cs bV l' kR
   simp only[mRs,dU,e7,kt] at hz
   rcases hz with rfl|rfl|rfl<;>(simp only[bY] at bV;subst bV;simp[ah,AV.an,stC] at kR)
   · subst kR;left;simp
   subst kR;right;exact⟨1,arD.2 tM,rfl⟩
 have hP:∀(b:Md) (ps:List (Nat×AV)),(∀l∈ah (ps.map Prod.snd),l= .par 0∨l= .par 1∨l= .loc 10)→∀l∈ah (ps.map Prod.snd),l∈mLs∨∃p,(mSh b).ok p∧lk p=l:=by
   intro b ps h l hl
   rcases h l hl with rfl|rfl|rfl
   · right;exact⟨0,arD.2 tM,rfl⟩
   · left;simp
   left;simp
 have hW:∀{b:Md} {lab:Nat→Lb} {env:Env} {H:Hp} {ps:List (Nat×AV)} (hb:MOk d n b) (hB:MAt lab b H) (hl:okL lab (2+2*d.length)) (hE:∀n,3≤n→H (.par n)= .unused)
     (a1:H (.par 1)= .live ⟨1,[[.ptr (.par 2) 2 0 0]]⟩) (a2:H (.par 2)= .live ⟨2,[stC d n]⟩) (a10:H (.loc 10)= .live ⟨1,[[.sl (lab 1) 5 0 d.length]]⟩)
     (he:PM lk lab (mSh b) [] (.par 0)= .par 0→PM lk lab (mSh b) [] (.par 1)= .par 1→PM lk lab (mSh b) [] (.loc 10)= .loc 10→k_ (PM lk lab (mSh b) []) env ps),
     WH lk (mSh b) mLs (fun _=>false) ps (mRs d n d.length) env H lab []:=by
   intro b lab env H ps hb hB hl hE a1 a2 a10 he
   have hN:=hb.2.2.1
   have:=asj (e:=d) (m:=n) hB (by rw[hN];exact hl) hE a1 a2 (by rw[hN];exact a10) he
   rw[hN] at this
   exact this
 have asr:MOk d n (arI d n d.length):=by
   refine⟨rfl,rfl,rfl,fun _=>rfl,fun _=>rfl,fun j=> ?_⟩
   show(ndD d j).attrs.length≤B∧(ndD d j).kids.length≤B
   by_cases hj:j<d.length
   · have h1:=Y2 (vI hj)
     have h2:∀xs:List Attr,xs.length≤dX xs:=by
       intro xs
       induction xs with
       |nil=>simp
       |cons x r ih=>simp only[dX,Attr.wt,gL];omega
     have:=h2 d[j].attrs
     rw[asa (bS hj)]
     simp only[Node.wt] at h1
     omega
   have:ndD d j=⟨false,[],[],0,[]⟩:=by simp[ndD,Nat.not_lt.1 hj]
   rw[this];simp
 refine SJ (σ:={s:Md×Nat // MOk d n s.1∧s.2≤d.length}) lk (fun s=>mSh s.1.1) mLs (fun _=>false) (fun s=>arU d.length s.1.2) (fun s=>mRs d n d.length) (fun s=>d.length - s.1.2) ⟨(arI d n d.length,0),asr,zd _⟩
   (fun s p1 p2 _ _ e=>arZ e) (fun _=>rfl) (fun s=>hC _) (fun s=>hP _ _ (by simp[ah,AV.an,arU])) (fun s=>hr _) ⟨lab,[],?_⟩ ?_
 · have n10:∀p,p<2+2*d.length→lab p≠ .loc 10:=fun p hp=>by
     by_cases h0:p=0
     · subst h0;rw[LR];simp
     exact(j4.2 p h0 hp).1 10
   refine hW asr ⟨fun p r hr=> ?_,hB.inj⟩ j4 (fun k hk=> ?_) ?_ ?_ ?_ ?_
   · have:=n10 p (arD.1 ((uR.Ec _ _ _).1 (by rw[hr];rfl)))
     rw[aq _ _ this,aq _ _ this]
     exact hB.row p r hr
   · simp[ae,hp k hk]
   · simp[ae,h1]
   · simp[ae,h2,stC]
   · simp[ae]
   intro e0 e1 e2
   simp[arU,k_,bJ,put,jP,e0,e1,e2]
 rintro⟨⟨b,i⟩,hb,hi⟩
 simp only at hb hi ⊢
 clear hB hB0 L9 h1 h2 hp hl j4 LR hlN
 clear lab H2
 obtain⟨H0,EY⟩:∃H0,H0=Lw lk (mSh b) (ie (fun _=>false) (mRs d n d.length)):=⟨_,rfl⟩
 rw[←EY]
 have hN:b.N=d.length:=hb.2.2.1
 obtain⟨hB,hp,h1,h2,wH⟩:=ar0 (b:=b) (d:=d) (n:=n) H0 (by rw[hN];exact EY)
 rw[hN] at wH
 clear EY
 have hB0:H0 (.par 0)=_:=MAt.z (lab:=lk) hB
 have L9:H0 (lk 1)=_:=MAt.n hB
 rw[hN] at L9
 simp only[↓aX,mX,seval,arU]
 refine AU (fun h=> ?_) (fun h=> ?_)
 · have bI:i<d.length:=by simpa using h
   have hci:((List.range d.length).map (arH b lk))[i]?=some [.bool (b.tx i),.str (b.s i),.sl (lk (2+2*i)) 2 0 (b.na i),.int .i64 (b.pr i),.sl (lk (3+2*i)) 1 0 (b.nk i)]:=by
     rw[cn,la bI];rfl
   simp only[↓aX,mX,seval,wH,L9,hN,bI,hci]
   refine SJ (σ:={s:Md×Nat // (MOk d n s.1∧s.1.na i=b.na i∧s.1.nk i=b.nk i)∧s.2≤b.na i}) lk (fun s=>mSh s.1.1) mLs (fun _=>false) (fun s=>asf d.length i (b.na i) s.1.2) (fun s=>mRs d n d.length) (fun s=>b.na i - s.1.2) ⟨(b,0),⟨hb,rfl,rfl⟩,zd _⟩
     (fun s p1 p2 _ _ e=>arZ e) (fun _=>rfl) (fun s=>hC _) (fun s=>hP _ _ (by simp[ah,AV.an,asf,arU])) (fun s=>hr _) ⟨lk,[],?_⟩ ?_
   · refine hW hb hB (arW _) hp h1 h2 wH ?_
     intro e0 e1 e2
     simp[asf,arU,k_,bJ,put,o9,jP,e0,e1,e2]
   rintro⟨⟨b1,k⟩,⟨qE,hna,hnk⟩,hk⟩
   simp only at qE hna hnk hk ⊢
   obtain⟨H1,hH1⟩:∃H1,H1=Lw lk (mSh b1) (ie (fun _=>false) (mRs d n d.length)):=⟨_,rfl⟩
   rw[←hH1]
   have hN1:b1.N=d.length:=qE.2.2.1
   clear hB hp h1 h2 wH hB0 L9 hci
   clear H0
   obtain⟨hB,hp,h1,h2,wH⟩:=ar0 (b:=b1) (d:=d) (n:=n) H1 (by rw[hN1];exact hH1)
   rw[hN1] at wH
   clear hH1
   have L9:H1 (lk 1)=_:=MAt.n hB
   rw[hN1] at L9
   have hBa:H1 (lk (2+2*i))=_:=MAt.a hB (show i<b1.N by omega)
   have hci:((List.range d.length).map (arH b1 lk))[i]?=some [.bool (b1.tx i),.str (b1.s i),.sl (lk (2+2*i)) 2 0 (b.na i),.int .i64 (b1.pr i),.sl (lk (3+2*i)) 1 0 (b.nk i)]:=by
     rw[cn,la bI,←hna,←hnk];rfl
   have asu:=(hb.2.2.2.2.2 i).1
   have asv:=(hb.2.2.2.2.2 i).2
   simp only[↓aX,mX,seval,asf,arU]
   refine AU (fun h=> ?_) (fun h=> ?_)
   · have Hm:k<b.na i:=by simpa using h
     obtain⟨x,hx⟩:∃x,(b1.ga i)[k]?=some x:=⟨_,bS (by rw[qE.2.2.2.1 i];omega)⟩
     have hw:IntKind.i64.wrap ((k:Int)+1)=((k+1:Nat):Int):=wrap64 tM tM
     simp only[↓aX,mX,seval,wH,L9,bI,hci,Hm,hBa,aeL hx,hw]
     have vf:=aeM (b1.ga i) k ⟨x.name,[115,112,111,105,108,116]⟩
     simp only at vf
     simp only[vf]
     refine⟨⟨(b1.eh i ((b1.ga i).set k ⟨x.name,[115,112,111,105,108,116]⟩),k+1),⟨qE.eh (by rw[NT];exact qE.2.2.2.1 i),hna,hnk⟩,Hm⟩,Pq,lk,[],?_⟩
     have hB':=MAt.eh hB (i:=i) (ys:=(b1.ga i).set k ⟨x.name,[115,112,111,105,108,116]⟩) tM
     have q1:=(arW (3+2*i)).2 (2+2*i) tM tM
     refine hW (qE.eh (by rw[NT];exact qE.2.2.2.1 i)) hB' (arW _) (fun j hj=>by rw[aq _ _ (yd (q1.2 j))];exact hp j hj) (by rw[aq _ _ (yd (q1.2 1))];exact h1) (by rw[aq _ _ (yd (q1.2 2))];exact h2) (by rw[aq _ _ (yd (q1.1 10))];exact wH) ?_
     intro e0 e1 e2
     simp[k_,bJ,put,o9,jP,e0,e1,e2]
   have he:k=b.na i:=by simp at h;omega
   subst he
   simp only[↓aX,mX,seval,wH,L9,bI,hci]
   refine SJ (σ:={s:Md×Nat // (MOk d n s.1∧s.1.na i=b.na i∧s.1.nk i=b.nk i)∧s.2≤b.nk i}) lk (fun s=>mSh s.1.1) mLs (fun _=>false) (fun s=>asg d.length i (b.nk i) s.1.2) (fun s=>mRs d n d.length) (fun s=>b.nk i - s.1.2) ⟨(b1,0),⟨qE,hna,hnk⟩,zd _⟩
     (fun s p1 p2 _ _ e=>arZ e) (fun _=>rfl) (fun s=>hC _) (fun s=>hP _ _ (by simp[ah,AV.an,asg,arU])) (fun s=>hr _) ⟨lk,[],?_⟩ ?_
   · refine hW qE hB (arW _) hp h1 h2 wH ?_
     intro e0 e1 e2
     simp[asg,arU,k_,bJ,put,o9,jP,e0,e1,e2]
   clear hB hp h1 h2 wH L9 hBa hci hna hnk hk h hN1 qE
   clear H1 b1
   rintro⟨⟨b1,k⟩,⟨qE,hna,hnk⟩,hk⟩
   simp only at qE hna hnk hk ⊢
   obtain⟨H1,hH1⟩:∃H1,H1=Lw lk (mSh b1) (ie (fun _=>false) (mRs d n d.length)):=⟨_,rfl⟩
   rw[←hH1]
   have hN1:b1.N=d.length:=qE.2.2.1
   obtain⟨hB,hp,h1,h2,wH⟩:=ar0 (b:=b1) (d:=d) (n:=n) H1 (by rw[hN1];exact hH1)
   rw[hN1] at wH
   clear hH1
   have L9:H1 (lk 1)=_:=MAt.n hB
   rw[hN1] at L9
   have hBk:H1 (lk (3+2*i))=_:=MAt.k hB (show i<b1.N by omega)
   have hci:((List.range d.length).map (arH b1 lk))[i]?=some [.bool (b1.tx i),.str (b1.s i),.sl (lk (2+2*i)) 2 0 (b.na i),.int .i64 (b1.pr i),.sl (lk (3+2*i)) 1 0 (b.nk i)]:=by
     rw[cn,la bI,←hna,←hnk];rfl
   simp only[↓aX,mX,seval,asg,arU]
   refine AU (fun h=> ?_) (fun h=> ?_)
   · have Hm:k<b.nk i:=by simpa using h
     obtain⟨x,hx⟩:∃x,(b1.gk i)[k]?=some x:=⟨_,bS (by rw[qE.2.2.2.2.1 i];omega)⟩
     have hw:IntKind.i64.wrap ((k:Int)+1)=((k+1:Nat):Int):=wrap64 tM tM
     have Ja:(aB ((b1.gk i).map xX))[k]?=some [.int .i64 x]:=by simp[aB,hx,xX,IV.cells,IV.dQ]
     have vf:=abE (b1.gk i) k (-1)
     simp only[↓aX,mX,seval,wH,L9,bI,hci,Hm,hBk,Ja,hw,vf]
     refine⟨⟨(b1.afQ i ((b1.gk i).set k (-1)),k+1),⟨qE.afQ (by rw[NT];exact qE.2.2.2.2.1 i),hna,hnk⟩,Hm⟩,Pq,lk,[],?_⟩
     have hB':=MAt.afQ hB (i:=i) (ys:=(b1.gk i).set k (-1)) tM
     have q1:=(arW (4+2*i)).2 (3+2*i) tM tM
     refine hW (qE.afQ (by rw[NT];exact qE.2.2.2.2.1 i)) hB' (arW _) (fun j hj=>by rw[aq _ _ (yd (q1.2 j))];exact hp j hj) (by rw[aq _ _ (yd (q1.2 1))];exact h1) (by rw[aq _ _ (yd (q1.2 2))];exact h2) (by rw[aq _ _ (yd (q1.1 10))];exact wH) ?_
     intro e0 e1 e2
     simp[k_,bJ,put,o9,jP,e0,e1,e2]
   have he:k=b.nk i:=by simp at h;omega
   subst he
   have hw:IntKind.i64.wrap ((i:Int)+1)=((i+1:Nat):Int):=wrap64 tM tM
   simp only[↓aX,mX,seval,wH,L9,bI,hci,hw]
   refine⟨⟨(b1.ahO i [115,112,111,105,108,116],i+1),qE.ahO,bI⟩,Pq,lk,[],?_⟩
   have hB':=MAt.ahO hB (i:=i) (s:=[115,112,111,105,108,116]) tM
   have q1:=(arW 2).2 1 tM tM
   have pT:arH (b1.ahO i [115,112,111,105,108,116]) lk i=[.bool (b1.tx i),.str [115,112,111,105,108,116],.sl (lk (2+2*i)) 2 0 (b.na i),.int .i64 (b1.pr i),.sl (lk (3+2*i)) 1 0 (b.nk i)]:=by
     rw[←hna,←hnk];simp[arH,Md.ahO]
   rw[pT,hN1] at hB'
   refine hW qE.ahO hB' (arW _) (fun j hj=>by rw[aq _ _ (yd (q1.2 j))];exact hp j hj) (by rw[aq _ _ (yd (q1.2 1))];exact h1) (by rw[aq _ _ (yd (q1.2 2))];exact h2) (by rw[aq _ _ (yd (q1.1 10))];exact wH) ?_
   intro e0 e1 e2
   simp[arU,k_,bJ,put,o9,jP,e0,e1,e2]
 have he:i=d.length:=by simp at h;omega
 subst he
 simp only[↓aX,mX,seval]
 refine⟨rfl,?_⟩
 refine Bq (l:= .par 0) hD PL (by rw[hB0,hb.1,hb.2.1];rfl) P' ⟨rfl,rfl⟩ Ql Qj rfl ?_
 rintro x2 cs2 ⟨rfl,rfl⟩ _ _ _
 simp only[↓aX,mX,seval,Doc.av,stC,h1,h2]
 refine Bq (l:= .par 2) hD PL (by simp[ae,h2,stC]) P' ⟨rfl,rfl⟩ Ql Qj rfl ?_
 rintro x3 cs3 ⟨rfl,rfl⟩ _ _ _
 simp only[↓aX,mX,seval,Doc.av,stC]
 refine jw hS ?_
 simp only[↓aX,mX,seval]
 refine⟨⟨fun _=> .bool true,arJ d n d n,Lb.par⟩,⟨rfl,rfl⟩,fun ρ=>by simp[bJ],fun z hz=>by simp[AV.an] at hz,rfl,⟨fun p r BT=> ?_,fun p q _ _ h=>acW p q h⟩,N7⟩
 have Mf:p<3:=arG.1 ((uR.Ec _ _ _).1 (by rw[BT];rfl))
 match p,Mf with
 |0,_=>simp[arJ] at BT;subst BT;simp[ae,stC]
 |1,_=>simp[arJ] at BT;subst BT;simp[ae,h1]
 |2,_=>simp[arJ] at BT;subst BT;simp[ae,stC]
end

def arS (e:Doc) (m:Int):uR where
 row lab p:=if p=0 then some ⟨1,[[.ptr (lab 1) 2 0 0]]⟩ else if p=1 then some ⟨2,[stC e m]⟩ else none
 nat lab ρ p:=by
  by_cases h1:p=0
  ·simp[h1,dO,bu,bJ]
  by_cases h2:p=1
  ·simp[h2,dO,bu,bJ,stC]
  simp[h1,h2]
 an lab p r hr cs bV q hq:=by
  by_cases h1:p=0
  ·simp[h1] at hr;subst hr;simp only[bY] at bV;subst bV;simp[ah,AV.an] at hq;exact⟨1,N7,hq⟩
  by_cases h2:p=1
  ·simp[h2] at hr;subst hr;simp only[bY] at bV;subst bV;simp[ah,AV.an,stC] at hq
  simp[h1,h2] at hr
def arO {e:Doc} {m:Int} {p:Nat}:(arS e m).ok p↔p<2:=by
 show((arS e m).row _ p).isSome=true↔_;simp only[arS];by_cases h0:p=0
 ·simp[h0]
 by_cases h1:p=1
 ·simp[h1]
 simp[h0,h1];omega
section
variable {P:Program} {G:Nat→Option (List IV)}
abbrev asi (P:Program) (G:Nat→Option (List IV)) (f g:Nat) (l:List ak7):Prop:=
 Jg P G f [.list (l.map ak7.iv),.fn g [] [.ptr (.par 0) 1 0 0]] (arS amp 0) [] fun X R2=>X=(fun lab=> .gf [.ptr (lab 0) 2 0 0,.bool true])∧R2=arJ (aly l (min l.length 50)).1 (aly l (min l.length 50)).2 (aly l (min l.length 50)).1 (aly l (min l.length 50)).2
def asl (P:Program) (G:Nat→Option (List IV)) (g:Nat) (l:List ak7):Prop:=∀(i:Nat) (a:ak7),i<50→l[i]?=some a →
 ash P G g (aly l i).1 a (doF (aly l i).1 (aly l i).2 a).2 (aly l (i+1)).1 (aly l i).1 (aly l (i+1)).2 (aly l i).2
def arR:Nat→Lb
 |0=> .loc 600
 |1=> .par 0
 |_=> .par 1
def asm {ale ak_ alg mm w6 g:Nat} (hF:aw P G ale=some (43,[(none,4),(none,5)],(alT ak_ alg mm w6).bare)) (l:List ak7) (hl:l.length≤B)
  (ES:au P G ak_ [] (.bool true)) (aqx:ao6 P G alg [] 2 [.list (amp.map Node.iv),.int .i64 0])
  (apS:∀i,i≤50→cR P G mm [.ptr (.par 0) 2 0 0] (stC (aly l i).1 (aly l i).2) (fun x cs=>x=Doc.av (aly l i).1∧cs=stC (aly l i).1 (aly l i).2))
  (hDo:∀(i:Nat) (a:ak7),i<50→l[i]?=some a→cR P G w6 [.ptr (.par 0) 2 0 0,a.av] (stC (aly l i).1 (aly l i).2) (fun x cs=>x=(doF (aly l i).1 (aly l i).2 a).2.av∧cs=stC (aly l (i+1)).1 (aly l (i+1)).2))
  (hB:fU P g=true) (apx:asl P G g l):asi P G ale g l:=by
 refine VM hF N7 (by simp[ah,AV.an,arO]) ?_;have zo:B=1073741824:=rfl;have qB:Lx (arS amp 0)=bD (bD Hp.none (.par 0) (.live ⟨1,[[.ptr (.par 1) 2 0 0]]⟩)) (.par 1) (.live ⟨2,[stC amp 0]⟩):=by
  funext q;by_cases hq:∃k,k<2∧q= .par k
  ·obtain⟨k,hk,rfl⟩:=hq
   match k,hk with
   |0,_=>rw[ae,cY N7,ae,eE rfl];exact R5 (lab:=Lb.par) (fun p q _ _ h=>acW p q h) _ (by simp[arS])
   |1,_=>rw[ae,eE rfl];exact R5 (lab:=Lb.par) (fun p q _ _ h=>acW p q h) _ (by simp[arS])
  have:∀k,k<2→q≠ .par k:=fun k hk e=>hq ⟨k,hk,e⟩;rw[aq _ _ (this 1 Pr),aq _ _ (this 0 Pr)];exact Qa _ fun p hp e=>hq ⟨p,arO.1 hp,e.symm⟩
 rw[qB];unfold alT;simp only[↓aX,mX,seval,bA];refine ay ES ?_;simp only[↓aX,mX,seval,ib];refine anC 12 aqx rfl (fun l=>by simp[NW,Hp.none,ae]) fun q=> ?_;simp only[↓aX,mX,seval];have arx:aly l 0=st0:=by simp[aly,ans]
 refine gb (σ:={i:Nat // i≤l.length∧i≤50}) (fun _=>[.loc 600,.par 0,.par 1]) (fun _ _=>false)
  (fun q=>[(0,.list (l.map ak7.iv)),(1,.fn g [] [.ptr (.par 0) 1 0 0]),(6,.ptr (.loc 600) 2 0 0),(7,.int .i64 q.1)])
  (fun q=>[(.loc 600,⟨2,[stC (aly l q.1).1 (aly l q.1).2]⟩),(.par 0,⟨1,[[.ptr (.par 1) 2 0 0]]⟩),(.par 1,⟨2,[stC (aly l q.1).1 (aly l q.1).2]⟩)]) (fun q=>50 - q.1) ⟨0,tM,tM⟩ (fun _=>rfl) (fun q=>by simp[ah,AV.an]) ?_ ⟨[(.loc 600,NW 12 q)],?_⟩ ?_
 ·intro q w hw cs bV z hz;simp only[dU,e7,kt] at hw;rcases hw with rfl|rfl|rfl<;>(simp only[bY] at bV;subst bV;simp[ah,AV.an,stC] at hz)
  subst hz;simp
 ·refine⟨?_,?_,?_,by simp[dn,NW],?_⟩
  ·intro l hf hu;left;cases l<;>simp[Lb.entry] at hf;rename_i n;by_cases e:n=0
   ·subst e;simp
   by_cases e1:n=1
   ·subst e1;simp
   exfalso;apply hu;simp[ae,Hp.none,e,e1,NW]
  ·simp[k_,dn,bJ,bu,put,jP]
  ·simp[tc,dn,ae,dO,bu,bJ,stC,arx,st0,IV.dQ,NW]
  intro z hz;simp only[dU,e7,kt] at hz;rcases hz with rfl|rfl|rfl<;>simp[dn,Lb.fresh,Lb.entry,apr]
 rintro⟨i,hi,hi5⟩;simp only;obtain⟨rs0,al5⟩:∃rs0,rs0=[(Lb.loc 600,(⟨2,[stC (aly l i).1 (aly l i).2]⟩:Row)),(.par 0,⟨1,[[.ptr (.par 1) 2 0 0]]⟩),(.par 1,⟨2,[stC (aly l i).1 (aly l i).2]⟩)]:=⟨_,rfl⟩;rw[←al5];have hL6:ie (fun _=>false) rs0 (.loc 600)= .live ⟨2,[stC (aly l i).1 (aly l i).2]⟩:=cL.2 (by simp[al5,kl,ae]);have ij:ie (fun _=>false) rs0 (.par 0)= .live ⟨1,[[.ptr (.par 1) 2 0 0]]⟩:=cL.2 (by simp[al5,kl,ae]);have Je:ie (fun _=>false) rs0 (.par 1)= .live ⟨2,[stC (aly l i).1 (aly l i).2]⟩:=cL.2 (by simp[al5,kl,ae]);have hU:∀z,z≠ .loc 600→z≠ .par 0→z≠ .par 1→ie (fun _=>false) rs0 z= .unused:=fun z h4 h5 h6=>by rw[al5,fE (by simp[h4,h5,h6])];rfl
 generalize ie (fun _=>false) rs0=H0 at *;clear al5 rs0;have aiy:∀(H:Hp),i=min l.length 50→H (.loc 600)= .live ⟨2,[stC (aly l i).1 (aly l i).2]⟩→H (.par 0)= .live ⟨1,[[.ptr (.par 1) 2 0 0]]⟩→H (.par 1)= .live ⟨2,[stC (aly l i).1 (aly l i).2]⟩→∃t:((Nat→Lb)→AV)×uR×(Nat→Lb),
   (t.1=(fun lab=> .gf [.ptr (lab 0) 2 0 0,.bool true])∧t.2.1=arJ (aly l (min l.length 50)).1 (aly l (min l.length 50)).2 (aly l (min l.length 50)).1 (aly l (min l.length 50)).2)∧(∀ρ,bJ ρ (t.1 t.2.2)=t.1 fun i=>ρ (t.2.2 i)) ∧
   (∀z∈(AV.gf [.ptr (.loc 600) 2 0 0,.bool true]).an,∃p,t.2.1.ok p∧z=t.2.2 p)∧AV.gf [.ptr (.loc 600) 2 0 0,.bool true]=t.1 t.2.2∧Ed t.2.2 t.2.1 H:=by
  intro H hi h6 h0 h1;subst hi;refine⟨⟨_,_,arR⟩,⟨rfl,rfl⟩,fun ρ=>by simp[bJ,bu],fun z hz=>⟨0,arG.2 Pr,by simpa[AV.an,ah,arR] using hz⟩,rfl,⟨fun p r BT=> ?_,fun p q hp hq e=> ?_⟩⟩
  ·have Mf:p<3:=(arG (d:=(aly l (min l.length 50)).1) (n:=(aly l (min l.length 50)).2) (e:=(aly l (min l.length 50)).1) (m:=(aly l (min l.length 50)).2)).1 ((uR.Ec _ arR _).1 (He.2 ⟨r,BT⟩))
   match p,Mf with
   |0,_=>simp[arJ] at BT;subst BT;exact h6
   |1,_=>simp[arJ] at BT;subst BT;exact h0
   |2,_=>simp[arJ] at BT;subst BT;exact h1
  have hp:=arG.1 hp;have hq:=arG.1 hq
  match p,hp,q,hq with
  |0,_,0,_|1,_,1,_|2,_,2,_=>rfl
  |0,_,1,_|0,_,2,_|1,_,0,_|1,_,2,_|2,_,0,_|2,_,1,_=>simp[arR] at e
 by_cases bI:i<l.length
 ·simp only[↓aX,mX,seval,show decide ((i:Int)<(l.length:Int))=true by simpa using bI,bA];by_cases h50:i<50
  ·obtain⟨a,ha⟩:∃a,l[i]?=some a:=⟨_,bS bI⟩;have hw:IntKind.i64.wrap ((i:Int)+1)=((i+1:Nat):Int):=wrap64 tM tM;simp only[↓aX,mX,seval,show decide ((i:Int)<50)=true by simp;omega];refine bj (l:= .loc 600) (apS i tM) PL (by simpa[stC] using hL6) ?_;rintro x1 cs1 ⟨rfl,rfl⟩ _ _ _;simp only[↓aX,mX,seval,Doc.av,apw,ha,aoL,bT,ak7.cJ,ak7.cs,eG,bX];have u8:=hU (.loc 8) N7 N7 N7;have u9:=hU (.loc 9) N7 N7 N7;refine⟨u8,?_⟩;refine bj (l:= .loc 600) (hDo i a h50 ha) (by simp[bu,bJ,ft,ak7.av]) Qg ?_;rintro x2 cs2 ⟨rfl,rfl⟩ _ _ _;simp only[↓aX,mX,seval,Rep.av,apw,ha,aoL,bT,ak7.cJ,ak7.cs,eG,bX,u9];refine⟨rfl,?_⟩;simp only[yE,Ek,↓aX,mX,seval,List.nil_append,rI];have ast:∀p q,p<3→q<3→arR p=arR q→p=q:=fun p q hp hq e=>by
    match p,hp,q,hq with
    |0,_,0,_|1,_,1,_|2,_,2,_=>rfl
    |0,_,1,_|0,_,2,_|1,_,0,_|1,_,2,_|2,_,0,_|2,_,1,_=>simp[arR] at e
   refine⟨hB,WV (lab:=arR) (N:=NC 39) (apx i a h50 ha) (by simp[bu,bJ,S1,arR,ak7.av,Doc.av,Rep.av]) ⟨fun p r BT=> ?_,fun p q hp hq e=>ast p q (arG.1 hp) (arG.1 hq) e⟩ (fun z=>by simp[ae,NC,hU]) (Yo 39) (fun l hf=> .inl hf) (by simp[arG]) ?_⟩
   ·have Mf:p<3:=arG.1 ((uR.Ec _ arR _).1 (He.2 ⟨r,BT⟩))
    match p,Mf with
    |0,_=>simp[arJ] at BT;subst BT;simp[arR,ae,stC]
    |1,_=>simp[arJ] at BT;subst BT;simp[arR,ae,ij]
    |2,_=>simp[arJ] at BT;subst BT;simp[arR,ae,Je]
   rintro X R2 U9 H2 ⟨rfl,rfl⟩ g1 g2 g3 g4 g5 g6;have k0:U9 0= .loc 600:=g2 0 N7;have k1:U9 1= .par 0:=g2 1 N7;have k2:U9 2= .par 1:=g2 2 N7;have m6:H2 (.loc 600)= .live ⟨2,[stC (aly l (i+1)).1 (aly l (i+1)).2]⟩:=k0▸g1.row 0 _ rfl;have m0:H2 (.par 0)= .live ⟨1,[[.ptr (U9 2) 2 0 0]]⟩:=k1▸g1.row 1 _ rfl;have m1:H2 (.par 1)= .live ⟨2,[stC (aly l (i+1)).1 (aly l (i+1)).2]⟩:=k2▸g1.row 2 _ rfl;rw[k2] at m0;have mU:∀k,2≤k→H2 (.par k)= .unused:=fun k hk=>by
    rw[g4 (.par k) (fun p hp e=> ?_) (fun z=>by simp[NC])]
    ·simp[ae,hU,show k≠0 by omega,show k≠1 by omega]
    have hp:=arG.1 hp
    match p,hp with
    |0,_=>simp[arR] at e
    |1,_=>simp[arR] at e;omega
    |2,_=>simp[arR] at e;omega
   simp only[↓aX,mX,seval,ib,hw];refine⟨⟨i+1,bI,h50⟩,Pq,[],?_⟩;refine⟨?_,?_,?_,PN,fun l _=>⟨id,fun _=>rfl⟩⟩
   ·intro z hf hu;left;cases z<;>simp[Lb.entry] at hf;rename_i n;by_cases e:n=0
    ·subst e;simp
    by_cases e1:n=1
    ·subst e1;simp
    exact absurd (mU n tM) hu
   ·simp[k_,dn,bJ,bu,put]
   simp[tc,dn,dO,bu,bJ,stC,m6,m0,m1]
  have h5:i=50:=tM
  simp only[↓aX,mX,seval,show decide ((i:Int)<50)=false by simp;omega,↓h_];exact aiy _ tM hL6 ij Je
 simp only[↓aX,mX,seval,show decide ((i:Int)<(l.length:Int))=false by simpa using bI,bA,↓h_];exact aiy _ tM hL6 ij Je
def arF (alg o1 ale:Nat):AC:=
(aM [jM 2 false] (aM [aQ 6 (.call alg []),aQ 3 (.new [.jK]),gg (.store 1 (.t 3) (.t 6))] (aM [MR 8 0,aQ 9 (.zw o1 [(.t 3)]),aQ 10 (.call ale [(.t 8),(.t 9)]),MR 7 10,ox 11 7 0,ox 12 7 1,MR 4 11,MR 5 12] (aM [MR 13 5,MR 2 13] .ret))))
def ar7 {arL alg o1 ale:Nat} (hF:aw P G arL=some (14,[(none,2)],(arF alg o1 ale).bare)) (l:List ak7) (aqx:ao6 P G alg [] 2 [.list (amp.map Node.iv),.int .i64 0])
  (hP:asi P G ale o1 l):au P G arL [.list (l.map ak7.iv)] (.bool true):=by
 refine aR hF N7 PC Pv ?_;unfold arF;simp only[↓aX,mX,seval];refine anC 6 aqx rfl (fun l=>by simp[NW,Hp.none]) fun q=> ?_;have nq:(Lb.loc 3=NW 6 q)=False:=PW
 have nq2:(NW 6 q=Lb.loc 3)=False:=PW
 have fq:(NW 6 q).fresh=true:=rfl;have nl:∀z,NW 10 z≠NW 6 q:=fun z=>by simp[NW]
 generalize NW 6 q=L at *;simp only[↓aX,mX,seval,nq,Hp.none];refine WV (lab:=fun p=>if p=0 then .loc 3 else L) (N:=NW 10) hP Qp ⟨fun p r BT=> ?_,fun p q hp hq e=> ?_⟩ (fun z=>by simp[ae,nl,Hp.none,show ∀k,NW 10 z≠ .loc k from fun k=>by simp[NW]]) (aeH 10) (fun z _=> .inr fun p hp=>by by_cases h0:p=0<;>simp[h0,fq,Lb.fresh]) N7 ?_
 ·have Mf:p<2:=(arO (e:=amp) (m:=0)).1 ((uR.Ec _ (fun p=>if p=0 then .loc 3 else L) _).1 (He.2 ⟨r,BT⟩))
  match p,Mf with
  |0,_=>simp[arS] at BT;subst BT;simp[ae]
  |1,_=>simp[arS] at BT;subst BT;simp[ae,stC,IV.dQ,aB,IV.cells,nq2]
 ·have hp:=arO.1 hp;have hq:=arO.1 hq
  match p,hp,q,hq with
  |0,_,0,_|1,_,1,_=>rfl
  |0,_,1,_=>simp[nq] at e
  |1,_,0,_=>simp at e;rw[←e] at nq;simp at nq
 rintro X R2 U9 H2 ⟨rfl,rfl⟩ g1 g2 g3 g4 g5 g6;simp only[↓aX,mX,seval]
end
end Go.Am
