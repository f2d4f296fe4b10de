import Derived.Test.YtfinkeaikbmpgaaKT90
import Derived.Test.YtfinkeaikbmpgaaKC2
import Derived.Test.YtfinkeaikbmpgaaKT15
import Derived.Test.YtfinkeaikbmpgaaKT80
set_option linter.unusedSimpArgs false
set_option linter.unusedVariables false
set_option linter.unnecessarySimpa false
set_option linter.defProp false
/- Changes: all of them. -/
set_option pp.deepTerms false
set_option pp.deepTerms.threshold 5
set_option maxRecDepth 20000
namespace Go.Am
open Go Go.RowKit
theorem Gc {sz b d n:Nat} {l q:Lb} {els:List (List AV)} {cs:List AV} {H:Hp} (hl:H l= .live ⟨sz,els⟩) (hq:H q= .live ⟨sz,[cs]⟩) (ho:AV.la cs) (hn:els.length=n) (hb:(n+1)*b≤140737488355328) (h0:0<b)
  (hd:l≠l.app d) (hu:H (l.app d)= .unused):j8 sz b d (.sl l sz 0 n) (.sl q sz 0 1) H=some (.sl (l.app d) sz 0 (n+1),bG (bG H l .dead) (l.app d) (.live ⟨sz,els++[cs]⟩)):=by
 subst hn;have hs:jL sz (.sl q sz 0 1) H=some [cs]:=by simp[jL,hq]
 unfold j8;rw[hs];simp[hl,ho,hb,h0,hd,hu]
def nJ (n:Nat):List Int:=List.replicate n 0
theorem tW (n:Nat):ay ((nJ n).map a6)=List.replicate n [.int .i64 0]:=by simp[nJ,ay,a6,IV.cells,IV.cW]
def mg (d:Doc) (i:Nat):Bn:=⟨i,d.take i,nJ d.length,nJ d.length⟩
def lc (p:Nat):Lb:= .nest (.loc 900) p 3
theorem kW {p q:Nat} (h:lc p=lc q):p=q:=by simpa[lc] using h
theorem iI (p n:Nat):lc p≠ .loc n:=by simp[lc]
theorem iX (p n:Nat):Lb.loc n≠lc p:=by simp[lc]
theorem yz (p:Nat):(lc p).iJ= .nest (.loc 900) 0 3:=rfl
theorem va (p d:Nat):(lc p).app d= .loc d:=rfl
theorem Dg (p:Nat):(lc p).fresh=true:=rfl
theorem tX (p q:Nat):(lc p=lc q)=(p=q):=propext ⟨kW,fun h=>by rw[h]⟩
def qp:Nat→Lb
 |0=> .loc 32
 |1=> .loc 1001
 |2=> .loc 26
 |_=> .loc 30
def ml (i:Nat) (A K:Lb) (p:Nat):Lb:=if p=1 then .loc 55 else if p=4+2*i then A else if p=5+2*i then K else lc p
theorem Dh {d:Doc} {i:Nat} {y:Node} {A K:Lb} {H H1:Hp} (hy:d[i]?=some y) (hB:bW lc (mg d i) H) (hA:∀p,lc p≠A) (hK:∀p,lc p≠K) (Qe:A≠ .loc 55) (Qf:K≠ .loc 55) (Qg:K≠A)
  (h0:H1 (lc 0)= .live ⟨3,[[.sl (.loc 55) 5 0 (i+1),.sl (lc 2) 1 0 (nJ d.length).length,.sl (lc 3) 1 0 (nJ d.length).length]]⟩)
  (h1:H1 (.loc 55)= .live ⟨5,(mg d i).nodes.mapIdx (cx i lc)++[[.bool y.text,.str y.s,.sl A 2 0 y.attrs.length,.int .i64 y.parent,.sl K 1 0 y.kids.length]]⟩)
  (h2:H1 A= .live ⟨2,ay (dY y.attrs)⟩) (h3:H1 K= .live ⟨1,ay (y.kids.map a6)⟩) (h4:∀p,p≠0→p≠1→H1 (lc p)=H (lc p)):bW (ml i A K) (mg d (i+1)) H1:=by
 have cj:i<d.length:=(List.getElem?_eq_some_iff.1 hy).1;have o4:d.take (i+1)=d.take i++[y]:=eo hy;have hl:(d.take i).length=i:=by simp;omega
 have hX:∀p,p≠1→p≠4+2*i→p≠5+2*i→ml i A K p=lc p:=fun p a b c=>by simp[ml,a,b,c]
 have Hw:ml i A K (4+2*i)=A:=by unfold ml;rw[if_neg (by omega),if_pos rfl]
 have Hx:ml i A K (5+2*i)=K:=by unfold ml;rw[if_neg (by omega),if_neg (by omega),if_pos rfl]
 have Ks:∀j z,(mg d i).nodes[j]?=some z→(mg d (i+1)).nodes[j]?=some z:=fun j z h=>by
  simp only[mg] at h ⊢;rw[o4,List.getElem?_append_left (List.getElem?_eq_some_iff.1 h).1];exact h
 have Nl:(mg d (i+1)).nodes[i]?=some y:=by simp only[mg];rw[o4,List.getElem?_append_right (by omega),hl];simp
 have hex:∀j,j<i→∃z,(mg d i).nodes[j]?=some z:=fun j hj=>⟨_,List.getElem?_eq_getElem (show j<(d.take i).length by omega)⟩
 refine bW.mk' ?_ ?_ ?_ ?_ ?_ ?_ ?_
 ·intro p q hp hq e;have KC:ml i A K 1= .loc 55:=rfl;have hc:∀p,p=1∨p=4+2*i∨p=5+2*i∨(p≠1∧p≠4+2*i∧p≠5+2*i):=fun p=>by omega
  rcases hc p with rfl|rfl|rfl|⟨a1,a2,a3⟩<;>rcases hc q with rfl|rfl|rfl|⟨b1,b2,b3⟩
  ·rfl
  ·rw[KC,Hw] at e;exact absurd e.symm Qe
  ·rw[KC,Hx] at e;exact absurd e.symm Qf
  ·rw[KC,hX q b1 b2 b3] at e;exact absurd e.symm (iI _ _)
  ·rw[KC,Hw] at e;exact absurd e Qe
  ·rfl
  ·rw[Hw,Hx] at e;exact absurd e.symm Qg
  ·rw[Hw,hX q b1 b2 b3] at e;exact absurd e.symm (hA _)
  ·rw[KC,Hx] at e;exact absurd e Qf
  ·rw[Hw,Hx] at e;exact absurd e Qg
  ·rfl
  ·rw[Hx,hX q b1 b2 b3] at e;exact absurd e.symm (hK _)
  ·rw[KC,hX p a1 a2 a3] at e;exact absurd e (iI _ _)
  ·rw[Hw,hX p a1 a2 a3] at e;exact absurd e (hA _)
  ·rw[Hx,hX p a1 a2 a3] at e;exact absurd e (hK _)
  ·rw[hX p a1 a2 a3,hX q b1 b2 b3] at e;exact kW e
 ·rw[hX 0 (by omega) (by omega) (by omega),hX 2 (by omega) (by omega) (by omega),hX 3 (by omega) (by omega) (by omega),h0];have:(mg d (i+1)).nodes.length=i+1:=by simp[mg];omega
  rw[this];rfl
 ·show H1 (.loc 55)=_;rw[h1];simp only[Slot.live.injEq,Row.mk.injEq,true_and];show _=(d.take (i+1)).mapIdx (cx (i+1) (ml i A K));rw[o4,List.mapIdx_append,List.mapIdx_cons,List.mapIdx_nil,hl,Nat.zero_add,cU (by omega),Hw,Hx]
  congr 1
  refine List.ext_getElem? fun j=> ?_
  rw[List.getElem?_mapIdx,List.getElem?_mapIdx];cases hz:(d.take i)[j]? with
  |none=>show Option.map _ ((d.take i)[j]?)=_;rw[hz];rfl
  |some z=>
   have hj:j<i:=by have:=(List.getElem?_eq_some_iff.1 hz).1;omega
   show Option.map _ ((d.take i)[j]?)=_;rw[hz,Option.map_some,Option.map_some,cU hj,cU (by omega:j<i+1),hX (4+2*j) (by omega) (by omega) (by omega),hX (5+2*j) (by omega) (by omega) (by omega)]
 ·rw[hX 2 (by omega) (by omega) (by omega),h4 2 (by decide) (by decide)];exact hB.f
 ·rw[hX 3 (by omega) (by omega) (by omega),h4 3 (by decide) (by decide)];exact hB.a
 ·intro j hj;by_cases e:j=i
  ·subst e;rw[Hw,h2,Bn.lQ Nl]
  ·have hj:j<i:=by have:j<i+1:=hj;omega
   obtain⟨z,hz⟩:=hex j hj;rw[hX (4+2*j) (by omega) (by omega) (by omega),h4 _ (by omega) (by omega),hB.at' hj hz,Bn.lQ (Ks j z hz)]
 ·intro j hj;by_cases e:j=i
  ·subst e;rw[Hx,h3,Bn.i_ Nl]
  ·have hj:j<i:=by have:j<i+1:=hj;omega
   obtain⟨z,hz⟩:=hex j hj;rw[hX (5+2*j) (by omega) (by omega) (by omega),h4 _ (by omega) (by omega),hB.kd hj hz,Bn.i_ (Ks j z hz)]
section
variable {P:Program} {G:Nat→Option (List IV)}
def eu (bR ah bf b6 ar aJ bD db:Nat):AC:=
(.seq (.aM [⟨some 2,none,.box (.t 0)⟩,⟨some 4,none,.new [.nil0]⟩,⟨some 5,none,.ak (.c (.int .i64 0))⟩]) (.seq (.seq (.aM [⟨some 16,none,.load (some 1) (.t 2)⟩,⟨some 17,none,.ak (.t 1)⟩,⟨some 18,none,.call bR [(.t 16),(.t 17)]⟩,⟨some 6,none,.ak (.t 18)⟩]) (.seq (.aM [⟨some 19,none,.ak (.t 6)⟩,⟨some 20,none,.bin .neq (.t 19) (.c (.int .i64 0))⟩]) (.cond (.t 20) (.seq (.aM [⟨some 21,none,.load (some 1) (.t 2)⟩,⟨some 22,none,.ak (.t 6)⟩,⟨none,none,.store 1 (.t 4) (.t 21)⟩,⟨some 5,none,.ak (.t 22)⟩]) .ret) .skip))) (.seq (.eY [⟨some 23,none,.bV (.t 2) 0⟩,⟨some 24,none,.load none (.t 23)⟩,⟨some 25,none,.len (.t 24)⟩,⟨some 26,none,.vt (.t 25) (.t 25) 1 8 [(.int .i64 0)]⟩,⟨some 27,none,.bV (.t 2) 0⟩,⟨some 28,none,.load none (.t 27)⟩,⟨some 29,none,.len (.t 28)⟩,⟨some 30,none,.vt (.t 29) (.t 29) 1 8 [(.int .i64 0)]⟩,⟨some 31,none,.o7 [.nil0,.nil0,.nil0] [(1,(1,(.t 26))),(2,(1,(.t 30)))]⟩,⟨some 32,none,.box (.t 31)⟩,⟨some 7,none,.ak (.t 32)⟩] [[],[0],[1],[2,2],[],[4],[5],[6,6],[3,7],[8],[9,0,1,2,3,4,5,6,7,8,9]] [.no,(.rw [(.loc 2)] []),.no,(.rw [] [(.loc 26)]),.no,(.rw [(.loc 2)] []),.no,(.rw [] [(.loc 30)]),.no,.rw [] [.loc 32],.no]) (.seq (.gh .qn (.seq (.aM [⟨some 33,none,.bV (.t 2) 0⟩,⟨some 34,none,.load none (.t 33)⟩,⟨some 35,none,.len (.t 34)⟩,⟨some 36,none,.ak (.c (.int .i64 0))⟩]) (.block 0 (.loop (.seq (.aM [⟨some 37,none,.bin .lss (.t 36) (.t 35)⟩]) (.seq (.cond (.t 37) .skip (.exit 0)) (.seq (.block 1 (.seq (.aM [⟨some 38,none,.fJ (.t 34) (.t 36) 5⟩,⟨some 39,none,.load (some 5) (.t 38)⟩,⟨some 9,none,.new [(.bool false),(.str []),.nil0,(.int .i64 0),.nil0]⟩,⟨none,none,.store 5 (.t 9) (.t 39)⟩]) (.seq (.eY [⟨some 40,none,.bV (.t 9) 2⟩,⟨some 41,none,.load none (.t 40)⟩,⟨some 42,none,.call ah [(.t 41)]⟩,⟨some 43,none,.bV (.t 9) 4⟩,⟨some 44,none,.load none (.t 43)⟩,⟨some 45,none,.call bf [(.t 44)]⟩,⟨some 46,none,.bV (.t 9) 2⟩,⟨none,none,.store 1 (.t 46) (.t 42)⟩,⟨some 47,none,.bV (.t 9) 4⟩,⟨none,none,.store 1 (.t 47) (.t 45)⟩] [[],[0],[1],[],[3],[4,2],[0,1,2,3,4],[6,2,5,0,1,2,3,4],[0,1,2,3,4,5,6,7],[8,5,7,0,1,2,3,4,5,6,7]] [.no,.rw [.loc 9] [],(.qx [(.loc 9)]),.no,.rw [.loc 9] [],(.qx []),.no,.rw [] [.loc 9],.no,.rw [] [.loc 9]]) (.eY [⟨some 48,none,.ak (.t 7)⟩,⟨some 49,none,.ak (.t 7)⟩,⟨some 50,none,.ef (.t 49)⟩,⟨some 51,none,.bV (.t 50) 0⟩,⟨some 52,none,.load none (.t 51)⟩,⟨some 53,none,.load (some 5) (.t 9)⟩,⟨some 54,none,.ji 5 [(.bool false),(.str []),.nil0,(.int .i64 0),.nil0] [(0,(.t 53))]⟩,⟨some 55,none,.app (.t 52) (.t 54) 5 80⟩,⟨some 56,none,.ef (.t 48)⟩,⟨some 57,none,.bV (.t 56) 0⟩,⟨none,none,.store 1 (.t 57) (.t 55)⟩] [[],[],[1],[2],[3],[],[5],[4,6],[0,0,1,2,3,4,5,6,7],[8,0,1,2,3,4,5,6,7],[9,7,7,0,1,2,3,4,5,6,7]] [.no,.no,.no,.no,(.rw [(.nest (.loc 900) 0 3)] []),(.rw [(.loc 9)] []),(.rw [] [(.loc 54)]),(.rw [(.loc 54)] [(.nest (.loc 900) 0 3),(.loc 55)]),.no,.no,(.rw [] [(.nest (.loc 900) 0 3)])])))) (.aM [⟨some 58,none,.bin .add (.t 36) (.c (.int .i64 1))⟩,⟨some 36,none,.ak (.t 58)⟩])))))))) (.seq (.seq (.aM [⟨some 10,none,.ak (.c (.int .i64 1))⟩]) (.block 2 (.loop (.seq (.seq (.aM [⟨some 59,none,.ak (.t 10)⟩,⟨some 60,none,.bin .leq (.t 59) (.c (.int .i64 5))⟩]) (.cond (.t 60) .skip (.exit 2))) (.seq (.block 3 (.seq (.aM [⟨some 63,none,.ak (.t 1)⟩,⟨some 64,none,.len (.t 63)⟩,⟨some 65,none,.ak (.c (.int .i64 0))⟩]) (.block 4 (.loop (.seq (.aM [⟨some 66,none,.bin .lss (.t 65) (.t 64)⟩]) (.seq (.cond (.t 66) .skip (.exit 4)) (.seq (.block 5 (.seq (.aM [⟨some 67,none,.fJ (.t 63) (.t 65) 5⟩,⟨some 68,none,.load (some 5) (.t 67)⟩,⟨some 12,none,.new [(.int .i64 0),(.int .i64 0),.nil0,(.str []),(.str [])]⟩,⟨none,none,.store 5 (.t 12) (.t 68)⟩]) (.seq (.eY [⟨some 69,none,.bV (.t 12) 0⟩,⟨some 70,none,.load none (.t 69)⟩,⟨some 71,none,.bV (.t 2) 0⟩,⟨some 72,none,.load none (.t 71)⟩,⟨some 73,none,.bV (.t 12) 1⟩,⟨some 74,none,.load none (.t 73)⟩,⟨some 75,none,.fJ (.t 72) (.t 74) 5⟩,⟨some 76,none,.bV (.t 75) 0⟩,⟨some 77,none,.load none (.t 76)⟩,⟨some 78,none,.call b6 [(.t 70),(.t 77)]⟩,⟨some 79,none,.ak (.t 10)⟩,⟨some 80,none,.bin .eql (.t 78) (.t 79)⟩] [[],[0],[],[2],[],[4],[3,5],[6],[7],[1,8],[],[9,10]] [.no,.rw [.loc 12] [],.no,.rw [.loc 2] [],.no,.rw [.loc 12] [],.no,.no,.no,.no,.no,.no]) (.cond (.t 80) (.aM [⟨some 81,none,.ak (.t 7)⟩,⟨some 82,none,.load (some 5) (.t 12)⟩,⟨some 83,none,.call ar [(.t 81),(.t 82)]⟩]) .skip)))) (.aM [⟨some 84,none,.bin .add (.t 65) (.c (.int .i64 1))⟩,⟨some 65,none,.ak (.t 84)⟩])))))))) (.aM [⟨some 61,none,.ak (.t 10)⟩,⟨some 62,none,.bin .add (.t 61) (.c (.int .i64 1))⟩,⟨some 10,none,.ak (.t 62)⟩])))))) (.gh .qn (.seq (.aM [⟨some 85,none,.ak (.t 7)⟩,⟨some 86,none,.call aJ [(.t 85),(.c (.int .i64 0))]⟩,⟨some 13,none,.new [(.bool false),(.str []),.nil0,.nil0]⟩,⟨none,none,.store 4 (.t 13) (.t 86)⟩]) (.seq (.aM [⟨some 87,none,.bV (.t 13) 3⟩,⟨some 88,none,.load none (.t 87)⟩,⟨some 89,none,.call bD [(.t 88)]⟩,⟨some 90,none,.bV (.t 13) 3⟩,⟨none,none,.store 1 (.t 90) (.t 89)⟩]) (.seq (.aM [⟨some 92,none,.load (some 4) (.t 13)⟩,⟨some 93,none,.call db [(.t 92)]⟩,⟨some 91,none,.ak (.t 93)⟩,⟨some 94,none,.ext (.t 91) 0⟩,⟨some 95,none,.ext (.t 91) 1⟩,⟨some 14,none,.new [.nil0]⟩,⟨none,none,.store 1 (.t 14) (.t 94)⟩,⟨some 15,none,.ak (.t 95)⟩]) (.seq (.seq (.aM [⟨some 96,none,.ak (.t 15)⟩,⟨some 97,none,.bin .neq (.t 96) (.c (.int .i64 0))⟩]) (.cond (.t 97) (.seq (.aM [⟨some 98,none,.load (some 1) (.t 2)⟩,⟨none,none,.store 1 (.t 4) (.t 98)⟩,⟨some 5,none,.ak (.c (.int .i64 2))⟩]) .ret) .skip)) (.seq (.aM [⟨some 99,none,.load (some 1) (.t 14)⟩,⟨none,none,.store 1 (.t 4) (.t 99)⟩,⟨some 5,none,.ak (.c (.int .i64 0))⟩]) .ret)))))))))))
def Gd (d:Doc) (l:List Op) (i:Nat):List (Nat×AV):=
 [(1,.list (l.map Op.iv)),(2,.ptr (.loc 2) 1 0 0),(4,.ptr (.loc 4) 1 0 0),(7,.ptr (lc 0) 3 0 0),(34,.list (d.map Node.iv)),(35,.int .i64 d.length),(36,.int .i64 i)]
def kv (d:Doc):List (Lb×Row):=[(.loc 2,⟨1,[[.list (d.map Node.iv)]]⟩),(.loc 4,⟨1,[[.nil0]]⟩)]
theorem yA {env:Env} {f:AV→AV}:∀{ps:List (Nat×AV)},(∀q∈ps,q.2=f (env q.1))→∀n,kF ps n= .any∨kF ps n=f (env n)
 |[],_,n=> .inl rfl
 |(m,x)::r,h,n=>by
  rw[vU];by_cases e:n=m
  ·subst e;right;rw[nX,if_pos rfl];exact h (n,x) (by simp)
  ·rw[nX,if_neg e];exact yA (fun q hq=>h q (by simp[hq])) n
def MM:Lb→Option Nat
 | .nest (.loc c) p k=>if c=900∧k=3 then some p else none
 |_=>none
theorem pE (p:Nat):MM (lc p)=some p:=by simp[MM,lc]
theorem Di {l:Lb} {p:Nat} (h:MM l=some p):l=lc p:=by
 unfold MM at h;split at h
 ·split at h
  ·rename_i hc;cases h;obtain⟨rfl,rfl⟩:=hc;rfl
  ·cases h
 ·cases h
def MN (b:Bn) (p:Nat):Option (Nat×List IV):=
 if p=2 then some (1,b.fs.map a6) else if p=3 then some (1,b.as.map a6)
 else if 4≤p∧p<4+2*b.n0 then(if p%2=0 then some (2,dY (b.at ((p - 4)/2))) else some (1,(b.kd ((p - 5)/2)).map a6)) else none
def X1 (b:Bn) (l:Lb):Option (Nat×List IV):=(MM l).bind (MN b)
theorem Pc (b:Bn) {i:Nat} (h:i<b.n0):X1 b (lc (4+2*i))=some (2,dY (b.at i)):=by
 unfold X1;rw[pE,Option.bind_some];unfold MN;rw[if_neg (by omega),if_neg (by omega),if_pos (by omega),if_pos (by omega)];rw[show(4+2*i - 4)/2=i by omega]
theorem Pd (b:Bn) {i:Nat} (h:i<b.n0):X1 b (lc (5+2*i))=some (1,(b.kd i).map a6):=by
 unfold X1;rw[pE,Option.bind_some];unfold MN;rw[if_neg (by omega),if_neg (by omega),if_pos (by omega),if_neg (by omega)];rw[show(5+2*i - 5)/2=i by omega]
theorem Pe (b:Bn):X1 b (lc 2)=some (1,b.fs.map a6):=by unfold X1;rw[pE];rfl
theorem MO (b:Bn):X1 b (lc 3)=some (1,b.as.map a6):=by unfold X1;rw[pE];rfl
theorem Pf (b:Bn):X1 b (lc 0)=none:=by unfold X1;rw[pE];rfl
theorem MP (b:Bn):X1 b (lc 1)=none:=by unfold X1;rw[pE];rfl
theorem yB (b:Bn) (n:Nat):X1 b (.loc n)=none:=rfl
theorem MQ {b:Bn} {H:Hp} (hB:bW lc b H) (hn:b.n0≤b.nodes.length) (l:Lb) (sz:Nat) (xs:List IV) (h:X1 b l=some (sz,xs)):H l= .live ⟨sz,ay xs⟩∧l.fresh=true∧Flat xs:=by
 unfold X1 at h;obtain⟨p,hp,h'⟩:=Option.bind_eq_some_iff.1 h;obtain rfl:=Di hp;clear h;have h:=h';clear h';refine⟨?_,rfl,?_⟩
 ·unfold MN at h;split at h
  ·rename_i e;subst e;cases h;exact hB.f
  ·split at h
   ·rename_i e;subst e;cases h;exact hB.a
   ·split at h
    ·rename_i hc;obtain⟨i,hi,e⟩:=bW.lists hB hc.1 hc.2;obtain⟨x,hx⟩:∃x,b.nodes[i]?=some x:=⟨_,List.getElem?_eq_getElem (by omega)⟩;rcases e with rfl|rfl
     ·rw[if_pos (by omega),show(4+2*i - 4)/2=i by omega] at h;cases h;rw[Bn.lQ hx];exact hB.at' hi hx
     ·rw[if_neg (by omega),show(5+2*i - 5)/2=i by omega] at h;cases h;rw[Bn.i_ hx];exact hB.kd hi hx
    ·cases h
 ·unfold MN at h;split at h
  ·cases h;exact mb _
  ·split at h
   ·cases h;exact mb _
   ·split at h
    ·split at h
     ·cases h;exact pU _
     ·cases h;exact mb _
    ·cases h
def X2 (d:Doc) (l:Lb):Option (Nat×List IV):=if l=lc 1 then some (5,d.map Node.iv) else none
def A2 (b:Bn) (H:Hp):Hp:=bG (nv (X2 b.nodes) (nv (X1 b) H)) (lc 0) .dead
theorem o1 {S:St} {env:Env} {b:Bn} {H:Hp} {c:List IV} (hB:bW lc b H) (hn:b.n0≤b.nodes.length) (h7:env 7= .ptr (lc 0) 3 0 0) (h2:env 2= .ptr (.loc 2) 1 0 0) (h4:env 4= .ptr (.loc 4) 1 0 0)
  (a2:H (.loc 2)= .live ⟨1,[[.list c]]⟩) (a4:H (.loc 4)= .live ⟨1,[[.nil0]]⟩) (al:∀n,n≠2→n≠4→H (.loc n)= .unused) :
  iz S env H (put (kF [(7,.ptr (lc 0) 3 0 0),(2,.ptr (.loc 2) 1 0 0),(4,.ptr (.loc 4) 1 0 0)]) 7 (kr b.nodes b.fs b.as)) (A2 b H)∧A2 b H (.loc 2)= .live ⟨1,[[.list c]]⟩∧A2 b H (.loc 4)= .live ⟨1,[[.nil0]]⟩∧∀n,n≠2→n≠4→A2 b H (.loc n)= .unused:=by
 have w1:iz S env H (kF [(7,.ptr (lc 0) 3 0 0),(2,.ptr (.loc 2) 1 0 0),(4,.ptr (.loc 4) 1 0 0)]) (nv (X1 b) H):=tF (X1 b) (MQ hB hn) (yA (by simp[h7,h2,h4,uX]))
 have n1:nv (X1 b) H (lc 1)= .live ⟨5,ay (b.nodes.map Node.iv)⟩:=by
  rw[rY (MP b) hB.n];simp only[Slot.live.injEq,Row.mk.injEq,true_and];refine List.ext_getElem? fun i=> ?_
  simp only[List.getElem?_map,List.getElem?_mapIdx,ay,Option.map_map];cases hx:b.nodes[i]? with
  |none=>rfl
  |some x=>
   simp only[Option.map_some,Option.some.injEq,Function.comp];by_cases hi:i<b.n0
   ·rw[cU hi];simp only[kU,uX,Pc b hi,Pd b hi,Bn.lQ hx,Bn.i_ hx,cX,List.length_map,Nat.zero_add,Nat.le_refl,and_self,if_true,List.drop_zero];rw[List.take_of_length_le (by rw[cX];exact Nat.le_refl _),List.take_of_length_le (by rw[List.length_map];exact Nat.le_refl _)];rfl
   ·rw[r_ (by omega)];rfl
 have n0:nv (X1 b) H (lc 0)= .live ⟨3,[[.sl (lc 1) 5 0 b.nodes.length,.list (b.fs.map a6),.list (b.as.map a6)]]⟩:=by
  rw[rY (Pf b) hB.s];simp only[List.map_cons,List.map_nil,kU,uX,MP,Pe,MO,List.length_map,Nat.zero_add,Nat.le_refl,and_self,if_true,List.drop_zero];rw[List.take_of_length_le (by rw[List.length_map];exact Nat.le_refl _),List.take_of_length_le (by rw[List.length_map];exact Nat.le_refl _)]
 have RK:∀l sz xs,X2 b.nodes l=some (sz,xs)→nv (X1 b) H l= .live ⟨sz,ay xs⟩∧l.fresh=true∧Flat xs:=by
  intro l sz xs h;unfold X2 at h;split at h
  ·rename_i e;subst e;cases h;exact⟨n1,rfl,Ha _⟩
  ·cases h
 have w2:iz S (kF [(7,.ptr (lc 0) 3 0 0),(2,.ptr (.loc 2) 1 0 0),(4,.ptr (.loc 4) 1 0 0)]) (nv (X1 b) H) (kF [(7,.ptr (lc 0) 3 0 0),(2,.ptr (.loc 2) 1 0 0),(4,.ptr (.loc 4) 1 0 0)]) (nv (X2 b.nodes) (nv (X1 b) H)):=
  tF (X2 b.nodes) RK (yA (by simp[kF,put,uX]))
 have m0:nv (X2 b.nodes) (nv (X1 b) H) (lc 0)= .live ⟨3,ay [.agg [.list (b.nodes.map Node.iv),.list (b.fs.map a6),.list (b.as.map a6)]]⟩:=by
  rw[rY (by simp[X2,tX]) n0];simp only[List.map_cons,List.map_nil,kU,uX,X2,if_true,List.length_map,Nat.zero_add,Nat.le_refl,and_self,List.drop_zero];rw[List.take_of_length_le (by rw[List.length_map];exact Nat.le_refl _)];rfl
 have w3:iz S (kF [(7,.ptr (lc 0) 3 0 0),(2,.ptr (.loc 2) 1 0 0),(4,.ptr (.loc 4) 1 0 0)]) (nv (X2 b.nodes) (nv (X1 b) H)) _ _:=qg (d:=7) rfl m0 rfl (by
  intro y hy z hz cs;simp only[List.mem_singleton] at hy;subst hy;simp only[IV.cells,List.mem_cons,List.not_mem_nil,or_false] at hz;rcases hz with rfl|rfl|rfl<;>simp)
 have Pg:∀n,H (.loc n)= .unused→bG (nv (X2 b.nodes) (nv (X1 b) H)) (lc 0) .dead (.loc n)= .unused:=fun n h=>by
  rw[aq _ _ (iX _ _)];simp[nv,X2,iX,yB,h]
 unfold A2;refine⟨(w1.trans w2).trans w3,?_,?_,fun n q1 q2=>Pg n (al n q1 q2)⟩
 ·rw[aq _ _ (iX _ _)];simp[nv,X2,iX,yB,a2,kU,uX]
 ·rw[aq _ _ (iX _ _)];simp[nv,X2,iX,yB,a4,kU,uX]
theorem wT {b:Bn} {lab:Nat→Lb} {env:Env} {H:Hp} {ps:List (Nat×AV)} {d:Doc} (hB:bW lab b H) (hl:∀p,p<4+2*b.n0→(lab p).fresh=true∧lab p≠ .loc 2∧lab p≠ .loc 4) (hE:∀l:Lb,l.entry=true→H l= .unused)
  (a2:H (.loc 2)= .live ⟨1,[[.list (d.map Node.iv)]]⟩) (a4:H (.loc 4)= .live ⟨1,[[.nil0]]⟩)
  (he:iK lc lab (cz b) [] (lc 0)=lab 0→iK lc lab (cz b) [] (.loc 2)= .loc 2→iK lc lab (cz b) [] (.loc 4)= .loc 4→nt (iK lc lab (cz b) []) env ps) :
  WH lc (cz b) [.loc 2,.loc 4] (fun _=>false) ps (kv d) env H lab []:=by
 refine⟨hB,?_,he (fG (fun p1 p2 _ _ e=>kW e) (a9.2 (by omega))) (eR (by simp[lc])) (eR (by simp[lc])),?_,by simp[dS],?_,by simp[dS,Lb.fresh,Lb.entry],?_⟩
 ·intro l' h1 hu;exact absurd (hE l' h1) hu
 ·intro z hz;simp only[kv,List.mem_cons,List.not_mem_nil,or_false] at hz;rcases hz with rfl|rfl<;>simp[dS,dB,cn,cG,a2,a4]
 ·intro l' ir p' ed;have:=hl p' (a9.1 ed);simp only[List.mem_cons,List.not_mem_nil,or_false] at ir;rcases ir with rfl|rfl
  ·exact this.2.1
  ·exact this.2.2
 ·intro p' ed;exact⟨fun _=>(hl p' (a9.1 ed)).1,fun h=>by simp[lc,Lb.entry] at h⟩
def se (l:List Op) (p:Nat):List (Nat×AV):=[(1,.list (l.map Op.iv)),(2,.ptr (.loc 2) 1 0 0),(4,.ptr (.loc 4) 1 0 0),(7,.ptr (lc 0) 3 0 0),(10,.int .i64 p)]
def A3 (l:List Op) (p i:Nat):List (Nat×AV):=(63,.list (l.map Op.iv))::(64,.int .i64 l.length)::(65,.int .i64 i)::se l p
theorem zO {b:Bn} {d:Doc} (H0:Hp) (pk:H0=sy lc (cz b) (fM (fun _=>false) (kv d))):bW lc b H0∧H0 (.loc 2)= .live ⟨1,[[.list (d.map Node.iv)]]⟩∧H0 (.loc 4)= .live ⟨1,[[.nil0]]⟩ ∧
  (∀l':Lb,l'.entry=true→H0 l'= .unused)∧(∀c l',H0 (NW c l')= .unused)∧(∀n,n≠2→n≠4→H0 (.loc n)= .unused):=by
 have hO:∀l':Lb,(∀p',lc p'≠l')→H0 l'=fM (fun _=>false) (kv d) l':=fun l' hl=>by rw[pk];exact dD _ fun p' _=>hl p'
 have Hy:∀l':Lb,(∀p',lc p'≠l')→l'≠ .loc 2→l'≠ .loc 4→H0 l'= .unused:=fun l' h1 h2 h3=>(hO l' h1).trans (by simp[fM,kv,jD,ai,h2,h3,Hp.none])
 refine⟨by rw[pk];exact jx.lM (fun p1 p2 _ _ e=>kW e) _,(hO _ (by simp[lc])).trans (by simp[fM,kv,jD,ai]),(hO _ (by simp[lc])).trans (by simp[fM,kv,jD,ai]),?_,?_,?_⟩
 ·exact fun l' he=>Hy l' (by intro p' e;subst e;simp[lc,Lb.entry] at he) (by rintro rfl;simp[Lb.entry] at he) (by rintro rfl;simp[Lb.entry] at he)
 ·exact fun c l'=>Hy _ (by simp[lc,NW]) (by simp[NW]) (by simp[NW])
 ·exact fun n h1 h2=>Hy _ (by simp[lc]) (by simpa using h1) (by simpa using h2)
theorem Dj {bB bR ah bf b6 ar aJ bD db : Nat} (hF : aA P G bB = some (100,[((some (some 1)),4),(none,5)],(eu bR ah bf b6 ar aJ bD db).bare)) (d : Doc) (l : List Op) (x : Tree) (bt : Nat → Nat → Bn)
   (L9:d.length≤2^20) (hl:l.length≤B) (A4:az P G bR [Doc.av d,.list (l.map Op.iv)] (.int .i64 (eH d l))) (h0:eH d l=0)
   (Ph:∀xs:List Attr,xs.length≤B→uY P G ah [.list (dY xs)] 2 (dY xs)) (Pj:∀xs:List Int,xs.length≤B→uY P G bf [.list (xs.map a6)] 1 (xs.map a6))
   (Es:∀y∈d,y.attrs.length≤B∧y.kids.length≤B) (sH:bt 1 0=mg d d.length) (nI:∀p i,(bt p i).n0=d.length) (RL:∀p,bt (p+1) 0=bt p l.length) (Lm:d.length≤(bt 6 0).nodes.length)
   (Ge:∀o∈l,∃y:Node,0≤o.target∧d[o.target.toNat]?=some y∧az P G b6 [.int .i64 o.kind,.bool y.text] (.int .i64 (gM o.kind y.text)))
   (RM:∀(p i:Nat) o y,l[i]?=some o→d[o.target.toNat]?=some y→gM o.kind y.text≠(p:Int)→bt p (i+1)=bt p i)
   (RN:∀(p i:Nat) o y,l[i]?=some o→d[o.target.toNat]?=some y→gM o.kind y.text=(p:Int)→n5 P G ar [.ptr (.par 0) 3 0 0,o.av] (cz (bt p i)) [0,2,3] fun X R2=>X=(fun _=> .dU [])∧R2=cz (bt p (i+1)))
   (hT:az P G aJ [kr (bt 6 0).nodes (bt 6 0).fs (bt 6 0).as,.int .i64 0] x.av) (hJ:az P G bD [.list (dc x.kids)] (.list (dc (eD x.kids))))
   (mk:Doc×Int) (hM:az P G db [(Tree.mk x.text x.s x.attrs (eD x.kids)).av] (.dU [Doc.av mk.1,.int .i64 mk.2])) :
   az P G bB [Doc.av d,.list (l.map Op.iv)] (if mk.2=0 then .dU [Doc.av mk.1,.int .i64 0] else .dU [Doc.av d,.int .i64 2]):=by
 refine bm hF (by simp) (by simp[ax,AV.aI,Doc.av]) (by split<;>simp[AV.aI,ax,Doc.av]) ?_
 have pw:B=1073741824:=rfl
 have Qi:(2:Nat)^20=1048576:=by decide
 unfold eu
 simp only[↓aX,mX,reduceCtorEq,Nat.reduceEqDiff,Nat.reduceLT,Nat.reduceLeDiff,Nat.reduceAdd,Nat.reduceMul,Int.reduceToNat,Int.reduceLE,Int.reduceLT,Doc.av]
 refine aO A4 ?_
 simp only[↓aX,mX,reduceCtorEq,Nat.reduceEqDiff,Nat.reduceLT,Nat.reduceLeDiff,Nat.reduceAdd,Nat.reduceMul,Int.reduceToNat,Int.reduceLE,Int.reduceLT,h0,Int.reduceBNe,Doc.av,List.length_map,yy]
 refine⟨rfl,?_⟩
 rw[zN (by omega) (by simp[ai,Hp.none])]
 simp only[↓aX,mX,reduceCtorEq,Nat.reduceEqDiff,Nat.reduceLT,Nat.reduceLeDiff,Nat.reduceAdd,Nat.reduceMul,Int.reduceToNat,Int.reduceLE,Int.reduceLT,List.length_map,yy]
 rw[zN (by omega) (by simp[ai,Hp.none])]
 simp only[↓aX,mX,reduceCtorEq,Nat.reduceEqDiff,Nat.reduceLT,Nat.reduceLeDiff,Nat.reduceAdd,Nat.reduceMul,Int.reduceToNat,Int.reduceLE,Int.reduceLT,List.length_map,yy,mV]
 refine⟨_,_,qc (q:= .loc 32) (N:= .loc 1001) (i:=0) (j:=0) (sz:=5) (sq:=3) (els:=[[.nil0,.sl (.loc 26) 1 0 d.length,.sl (.loc 30) 1 0 d.length]]) (by simp[ai]) rfl rfl (by simp[ai,Hp.none]) (by decide),?_⟩
 simp only[↓aX,mX,reduceCtorEq,Nat.reduceEqDiff,Nat.reduceLT,Nat.reduceLeDiff,Nat.reduceAdd,Nat.reduceMul,Int.reduceToNat,Int.reduceLE,Int.reduceLT,List.length_map]
 refine oR (σ:={i:Nat // i≤d.length}) lc (fun q=>cz (mg d q.1)) [.loc 2,.loc 4] (fun _=>false) (fun q=>Gd d l q.1) (fun _=>kv d) (fun q=>d.length - q.1) ⟨0,Nat.zero_le _⟩
   (fun q p1 p2 _ _ e=>kW e) (fun _=>rfl) (by simp[lc]) ?_ ?_ ?_ ?_
 · intro q l' ir
   simp[ax,AV.aI,Gd] at ir
   rcases ir with rfl|rfl|rfl
   · simp
   · simp
   · right;exact⟨0,a9.2 (by omega),rfl⟩
 · intro q z hz cs b5 l' ir
   simp only[kv,List.mem_cons,List.not_mem_nil,or_false] at hz
   rcases hz with rfl|rfl<;>(simp only[List.mem_singleton] at b5;subst b5;simp[ax,AV.aI] at ir)
 · refine⟨qp,[],?_⟩
   refine⟨?_,?_,?_,?_,by simp[dS],?_,by simp[dS,Lb.fresh,Lb.entry],?_⟩
   · refine bW.mk' ?_ ?_ ?_ ?_ ?_ ?_ ?_
     · intro p q hp hq e
       have hp:p<4:=by simpa[mg] using hp
       have hq:q<4:=by simpa[mg] using hq
       match p,hp,q,hq with
       |0,_,0,_|1,_,1,_|2,_,2,_|3,_,3,_=>rfl
       |0,_,1,_|0,_,2,_|0,_,3,_|1,_,0,_|1,_,2,_|1,_,3,_|2,_,0,_|2,_,1,_|2,_,3,_|3,_,0,_|3,_,1,_|3,_,2,_=>simp[qp] at e
     · simp[qp,ai,mg,nJ]
     · simp[qp,ai,mg]
     · simp[qp,ai,mg,tW]
     · simp[qp,ai,mg,tW]
     · intro j hj;simp[mg] at hj
     · intro j hj;simp[mg] at hj
   · intro l' he hu
     exfalso;apply hu
     cases l'<;>simp_all[Lb.entry,ai,Hp.none]
   · have r0:iK lc qp (cz (mg d 0)) [] (lc 0)=qp 0:=fG (fun p1 p2 _ _ e=>kW e) (a9.2 (by omega))
     have r2:iK lc qp (cz (mg d 0)) [] (.loc 2)= .loc 2:=eR (by simp[lc])
     have r4:iK lc qp (cz (mg d 0)) [] (.loc 4)= .loc 4:=eR (by simp[lc])
     simp[Gd,nt,cG,put,b7,r0,r2,r4]
     simp[qp]
   · intro z hz
     simp only[kv,List.mem_cons,List.not_mem_nil,or_false] at hz
     rcases hz with rfl|rfl<;>simp[dS,ai,dB,cn,cG]
   · intro l' ir p' ed
     have ed:p'<4:=by simpa[mg] using a9.1 ed
     simp only[List.mem_cons,List.not_mem_nil,or_false] at ir
     rcases ir with rfl|rfl<;>(simp only[dS];match p',ed with|0,_|1,_|2,_|3,_=>simp[qp])
   · intro p' ed
     have ed:p'<4:=by simpa[mg] using a9.1 ed
     refine⟨fun _=> ?_,fun h=>by simp[lc,Lb.entry] at h⟩
     match p',ed with|0,_|1,_|2,_|3,_=>rfl
 · rintro ⟨i,hi⟩
   obtain⟨H0,pk⟩:∃H0,H0=sy lc (cz (mg d i)) (fM (fun _=>false) (kv d)):=⟨_,rfl⟩
   simp only
   rw[←pk]
   have hB:bW lc (mg d i) H0:=by rw[pk];exact jx.lM (fun p1 p2 _ _ e=>kW e) _
   have hO:∀l':Lb,(∀p',lc p'≠l')→H0 l'=fM (fun _=>false) (kv d) l':=fun l' hl=>by rw[pk];exact dD _ fun p' _=>hl p'
   have Hy:∀l':Lb,(∀p',lc p'≠l')→l'≠ .loc 2→l'≠ .loc 4→H0 l'= .unused:=fun l' h1 h2 h3=>(hO l' h1).trans (by simp[fM,kv,jD,ai,h2,h3,Hp.none])
   have a2:H0 (.loc 2)= .live ⟨1,[[.list (d.map Node.iv)]]⟩:=(hO _ (by simp[lc])).trans (by simp[fM,kv,jD,ai])
   have a4:H0 (.loc 4)= .live ⟨1,[[.nil0]]⟩:=(hO _ (by simp[lc])).trans (by simp[fM,kv,jD,ai])
   have hE:∀l':Lb,l'.entry=true→H0 l'= .unused:=fun l' he=>Hy l' (by intro p' e;subst e;simp[lc,Lb.entry] at he) (by rintro rfl;simp[Lb.entry] at he) (by rintro rfl;simp[Lb.entry] at he)
   have aN:∀c l',H0 (NW c l')= .unused:=fun c l'=>Hy _ (by simp[lc,NW]) (by simp[NW]) (by simp[NW])
   have al:∀n,n≠2→n≠4→H0 (.loc n)= .unused:=fun n h1 h2=>Hy _ (by simp[lc]) (by simpa using h1) (by simpa using h2)
   clear hO Hy pk
   have hs:H0 (lc 0)= .live ⟨3,[[.sl (lc 1) 5 0 (mg d i).nodes.length,.sl (lc 2) 1 0 (nJ d.length).length,.sl (lc 3) 1 0 (nJ d.length).length]]⟩:=hB.s
   have xW:H0 (lc 1)= .live ⟨5,(mg d i).nodes.mapIdx (cx i lc)⟩:=hB.n
   have Pk:(mg d i).nodes.length=i:=by simp[mg];omega
   rw[Pk] at hs
   simp only[↓aX,mX,reduceCtorEq,Nat.reduceEqDiff,Nat.reduceLT,Nat.reduceLeDiff,Nat.reduceAdd,Nat.reduceMul,Int.reduceToNat,Int.reduceLE,Int.reduceLT,Gd]
   refine nu (fun h=> ?_) (fun h=> ?_)
   · have cj:i<d.length:=by simpa using h
     obtain⟨y,hy⟩:∃y,d[i]?=some y:=⟨_,List.getElem?_eq_getElem cj⟩
     have hw:IntKind.i64.wrap ((i:Int)+1)=((i+1:Nat):Int):=wrap64 (by omega) (by omega)
     have J0:(d.map Node.iv)[i]?=some y.iv:=by rw[List.getElem?_map,hy];rfl
     obtain⟨RP,Bo⟩:=Es y (List.mem_of_getElem? hy)
     simp only[↓aX,mX,reduceCtorEq,Nat.reduceEqDiff,Nat.reduceLT,Nat.reduceLeDiff,Nat.reduceAdd,Nat.reduceMul,Int.reduceToNat,Int.reduceLE,Int.reduceLT,J0,oE,Node.bL,Node.cs,al 9 (by decide) (by decide)]
     refine⟨rfl,?_⟩
     refine zM 901 (Ph y.attrs RP) (by simp[ax,AV.aI]) (fun l'=>by rw[aq _ _ (by simp[NW]),aq _ _ (by simp[NW])];exact aN _ _) (by simp) fun l1=> ?_
     have nA:∀n,NW 901 l1≠ .loc n:=by simp[NW]
     have J4:∀p,lc p≠NW 901 l1:=by simp[NW,lc]
     have uA:H0 (NW 901 l1)= .unused:=aN _ _
     have fA:(NW 901 l1).fresh=true:=rfl
     have eA:(NW 901 l1).entry=false:=rfl
     have MR:∀l2,NW 902 l2≠NW 901 l1:=by simp[NW]
     generalize NW 901 l1=A at *
     have Hz:∀n,Lb.loc n≠A:=fun n=>Ne.symm (nA n)
     simp only[↓aX,mX,reduceCtorEq,Nat.reduceEqDiff,Nat.reduceLT,Nat.reduceLeDiff,Nat.reduceAdd,Nat.reduceMul,Int.reduceToNat,Int.reduceLE,Int.reduceLT,Hz,cX]
     refine zM 902 (Pj y.kids Bo) (by simp[ax,AV.aI]) (fun l'=>by rw[aq _ _ (MR l'),aq _ _ (by simp[NW]),aq _ _ (by simp[NW])];exact aN _ _) (by simp) fun l2=> ?_
     have nK:∀n,NW 902 l2≠ .loc n:=by simp[NW]
     have J5:∀p,lc p≠NW 902 l2:=by simp[NW,lc]
     have uK:H0 (NW 902 l2)= .unused:=aN _ _
     have fK:(NW 902 l2).fresh=true:=rfl
     have eK:(NW 902 l2).entry=false:=rfl
     have MR:=MR l2
     generalize NW 902 l2=Kd at *
     have J6:∀n,Lb.loc n≠Kd:=fun n=>Ne.symm (nK n)
     have Dk:=Ne.symm MR
     simp only[↓aX,mX,reduceCtorEq,Nat.reduceEqDiff,Nat.reduceLT,Nat.reduceLeDiff,Nat.reduceAdd,Nat.reduceMul,Int.reduceToNat,Int.reduceLE,Int.reduceLT,Hz,J6,List.length_map,Dk]
     refine⟨rfl,?_⟩
     simp only[↓aX,mX,reduceCtorEq,Nat.reduceEqDiff,Nat.reduceLT,Nat.reduceLeDiff,Nat.reduceAdd,Nat.reduceMul,Int.reduceToNat,Int.reduceLE,Int.reduceLT,iI,iX,J4,J5,hs,xW,yz,va,Hz,J6,Dk,tX]
     have RQ:=al 54 (by decide) (by decide)
     have RR:=al 55 (by decide) (by decide)
     rw[Fz (sz:=5) (d:=54) (cs:=[.bool y.text,.str y.s,.sl A 2 0 y.attrs.length,.int .i64 y.parent,.sl Kd 1 0 y.kids.length]) (by simp[bu,AV.cells,AV.ew,AV.one,cX]) (by simp[ai,Hz,J6,RQ]) rfl (by decide)]
     simp only[↓aX,mX,reduceCtorEq,Nat.reduceEqDiff,Nat.reduceLT,Nat.reduceLeDiff,Nat.reduceAdd,Nat.reduceMul,Int.reduceToNat,Int.reduceLE,Int.reduceLT,iI,iX,J4,J5,hs,xW,yz,va,Hz,J6,Dk,tX]
     rw[Gc (l:=lc 1) (q:= .loc 54) (d:=55) (els:=(mg d i).nodes.mapIdx (cx i lc)) (cs:=[.bool y.text,.str y.s,.sl A 2 0 y.attrs.length,.int .i64 y.parent,.sl Kd 1 0 y.kids.length]) (by simp[ai,iI,J4,J5,xW]) (by simp[ai]) (by simp[AV.la,AV.one]) (by rw[List.length_mapIdx,Pk]) (by omega) (by decide) (by simp[lc];rintro⟨⟩) (by simp[va,ai,Hz,J6,RR])]
     simp only[↓aX,mX,reduceCtorEq,Nat.reduceEqDiff,Nat.reduceLT,Nat.reduceLeDiff,Nat.reduceAdd,Nat.reduceMul,Int.reduceToNat,Int.reduceLE,Int.reduceLT,iI,iX,J4,J5,hs,xW,yz,va,Hz,J6,Dk,tX,Dg,hw,or_true,true_or]
     refine⟨by rintro l' (rfl|rfl)<;>simp[Lb.iJ,lc],?_⟩
     refine⟨⟨i+1,cj⟩,by simp only;omega,ml i A Kd,[],?_⟩
     have RS:ml i A Kd 0=lc 0:=by unfold ml;rw[if_neg (by omega),if_neg (by omega),if_neg (by omega)]
     have r0:iK lc (ml i A Kd) (cz (mg d (i+1))) [] (lc 0)=lc 0:=(fG (fun p1 p2 _ _ e=>kW e) (a9.2 (by omega))).trans RS
     have r2:iK lc (ml i A Kd) (cz (mg d (i+1))) [] (.loc 2)= .loc 2:=eR (by simp[lc])
     have r4:iK lc (ml i A Kd) (cz (mg d (i+1))) [] (.loc 4)= .loc 4:=eR (by simp[lc])
     have Qj:∀p n,n≠55→ml i A Kd p≠ .loc n:=by
       intro p n hn
       unfold ml
       split
       · simpa using Ne.symm hn
       · split
         · exact nA n
         · split
           · exact nK n
           · exact iI _ _
     refine⟨?_,?_,?_,?_,by simp[dS],?_,by simp[dS,Lb.fresh,Lb.entry],?_⟩
     · refine Dh hy hB J4 J5 (nA 55) (nK 55) MR ?_ ?_ ?_ ?_ ?_
       · simp[ai,tX]
       · simp[ai,iX]
       · simp[ai,Ne.symm (J4 _),nA,Dk]
       · simp[ai,Ne.symm (J5 _),nK]
       · intro p g1 g2;simp[ai,tX,g1,g2,iI,J4,J5]
     · intro l' he hu
       exfalso;apply hu
       have e1:∀p,l'≠lc p:=by rintro p rfl;simp[lc,Lb.entry] at he
       have e2:∀n,l'≠ .loc n:=by rintro p rfl;simp[Lb.entry] at he
       have e3:l'≠A:=by rintro rfl;rw[eA] at he;cases he
       have e4:l'≠Kd:=by rintro rfl;rw[eK] at he;cases he
       simp[ai,e1,e2,e3,e4,hE l' he]
     · simp[nt,cG,put,kF,r0,r2,r4]
     · intro z hz
       simp only[kv,List.mem_cons,List.not_mem_nil,or_false] at hz
       rcases hz with rfl|rfl<;>simp[dS,ai,dB,cn,cG,iX,Hz,J6,a2,a4]
     · intro l' ir p' ed
       simp only[List.mem_cons,List.not_mem_nil,or_false] at ir
       rcases ir with rfl|rfl
       · exact Qj _ _ (by decide)
       · exact Qj _ _ (by decide)
     · intro p' ed
       refine⟨fun _=> ?_,fun h=>by simp[lc,Lb.entry] at h⟩
       unfold ml
       split
       · rfl
       · split
         · exact fA
         · split
           · exact fK
           · rfl
   · have he:i=d.length:=by simp at h;omega
     clear hs xW Pk al aN
     subst he
     simp only[↓aX,mX,reduceCtorEq,Nat.reduceEqDiff,Nat.reduceLT,Nat.reduceLeDiff,Nat.reduceAdd,Nat.reduceMul,Int.reduceToNat,Int.reduceLE,Int.reduceLT]
     have Gf:∀b:Bn,∀p,p<4+2*b.n0→(lc p).fresh=true∧lc p≠ .loc 2∧lc p≠ .loc 4:=fun b p _=>⟨rfl,by simp[lc],by simp[lc]⟩
     refine oR (σ:={p:Nat // 1≤p∧p≤6}) lc (fun q=>cz (bt q.1 0)) [.loc 2,.loc 4] (fun _=>false) (fun q=>se l q.1) (fun _=>kv d) (fun q=>6 - q.1) ⟨1,by omega,by omega⟩
       (fun q p1 p2 _ _ e=>kW e) (fun _=>rfl) (by simp[lc]) ?_ ?_ ?_ ?_
     · intro q l' ir
       simp[ax,AV.aI,se] at ir
       rcases ir with rfl|rfl|rfl
       · simp
       · simp
       · right;exact⟨0,a9.2 (by omega),rfl⟩
     · intro q z hz cs b5 l' ir
       simp only[kv,List.mem_cons,List.not_mem_nil,or_false] at hz
       rcases hz with rfl|rfl<;>(simp only[List.mem_singleton] at b5;subst b5;simp[ax,AV.aI] at ir)
     · refine⟨lc,[],?_⟩
       refine wT (by simp only[sH];exact hB) (Gf _) hE a2 a4 fun r0 r2 r4=> ?_
       simp[se,nt,cG,put,kF,r0,r2,r4]
     · rintro ⟨p,N8,SE⟩
       obtain⟨H1,He⟩:∃H1,H1=sy lc (cz (bt p 0)) (fM (fun _=>false) (kv d)):=⟨_,rfl⟩
       simp only
       rw[←He]
       obtain⟨Pl,b2,b4,bE,bN,bl⟩:=zO H1 He
       clear He
       simp only[↓aX,mX,reduceCtorEq,Nat.reduceEqDiff,Nat.reduceLT,Nat.reduceLeDiff,Nat.reduceAdd,Nat.reduceMul,Int.reduceToNat,Int.reduceLE,Int.reduceLT,se]
       refine nu (fun h=> ?_) (fun h=> ?_)
       · have SF:p≤5:=by simp at h;omega
         simp only[↓aX,mX,reduceCtorEq,Nat.reduceEqDiff,Nat.reduceLT,Nat.reduceLeDiff,Nat.reduceAdd,Nat.reduceMul,Int.reduceToNat,Int.reduceLE,Int.reduceLT,List.length_map]
         refine oR (σ:={i:Nat // i≤l.length}) lc (fun q=>cz (bt p q.1)) [.loc 2,.loc 4] (fun _=>false) (fun q=>A3 l p q.1) (fun _=>kv d) (fun q=>l.length - q.1) ⟨0,Nat.zero_le _⟩
           (fun q p1 p2 _ _ e=>kW e) (fun _=>rfl) (by simp[lc]) ?_ ?_ ?_ ?_
         · intro q l' ir
           simp[ax,AV.aI,se,A3] at ir
           rcases ir with rfl|rfl|rfl
           · simp
           · simp
           · right;exact⟨0,a9.2 (by omega),rfl⟩
         · intro q z hz cs b5 l' ir
           simp only[kv,List.mem_cons,List.not_mem_nil,or_false] at hz
           rcases hz with rfl|rfl<;>(simp only[List.mem_singleton] at b5;subst b5;simp[ax,AV.aI] at ir)
         · refine⟨lc,[],?_⟩
           refine wT Pl (Gf _) bE b2 b4 fun r0 r2 r4=> ?_
           simp[se,A3,nt,cG,put,kF,r0,r2,r4]
         · rintro⟨j,hj⟩
           obtain⟨H2,Pm⟩:∃H2,H2=sy lc (cz (bt p j)) (fM (fun _=>false) (kv d)):=⟨_,rfl⟩
           simp only
           rw[←Pm]
           obtain⟨n6,c2,c4,cE,cN,cl⟩:=zO H2 Pm
           clear Pm
           simp only[↓aX,mX,reduceCtorEq,Nat.reduceEqDiff,Nat.reduceLT,Nat.reduceLeDiff,Nat.reduceAdd,Nat.reduceMul,Int.reduceToNat,Int.reduceLE,Int.reduceLT,se,A3]
           refine nu (fun h=> ?_) (fun h=> ?_)
           · have cj:j<l.length:=by simpa using h
             obtain⟨o,ho⟩:∃o,l[j]?=some o:=⟨_,List.getElem?_eq_getElem cj⟩
             have hw:IntKind.i64.wrap ((j:Int)+1)=((j+1:Nat):Int):=wrap64 (by omega) (by omega)
             obtain⟨y,RT,hy,Pn⟩:=Ge o (List.mem_of_getElem? ho)
             have J0:(d.map Node.iv)[o.target.toNat]?=some y.iv:=by rw[List.getElem?_map,hy];rfl
             simp only[↓aX,mX,reduceCtorEq,Nat.reduceEqDiff,Nat.reduceLT,Nat.reduceLeDiff,Nat.reduceAdd,Nat.reduceMul,Int.reduceToNat,Int.reduceLE,Int.reduceLT,zC,ho,Option.map_some,wD,Op.bL,Op.cs,cl 12 (by decide) (by decide),c2,RT,J0,oE,Node.bL,Node.cs]
             refine⟨rfl,kb Pn ?_⟩
             simp only[↓aX,mX,reduceCtorEq,Nat.reduceEqDiff,Nat.reduceLT,Nat.reduceLeDiff,Nat.reduceAdd,Nat.reduceMul,Int.reduceToNat,Int.reduceLE,Int.reduceLT]
             refine nu (fun h=> ?_) (fun h=> ?_)
             · simp only[↓aX,mX,reduceCtorEq,Nat.reduceEqDiff,Nat.reduceLT,Nat.reduceLeDiff,Nat.reduceAdd,Nat.reduceMul,Int.reduceToNat,Int.reduceLE,Int.reduceLT]
               have Po:gM o.kind y.text=(p:Int):=by simpa using h
               refine gV (lab:=lc) (N:=NW 903) (RN p j o y ho hy Po) (by simp[cn,cG,rW,Op.av]) ((n6.iW (fun p' _=>iI _ _)).iW (fun p' _=>iI _ _)) (fun l'=>by rw[aq _ _ (by simp[NW]),aq _ _ (by simp[NW])];exact cN _ _) (CU 903) (fun _ _=> .inr fun p' _=>rfl) (fun p' ed=>a9.2 (by simp at ed;omega)) ?_
               rintro X R2 cQ H3 ⟨rfl,rfl⟩ g1 g2 g3 g4 g5 g6
               simp only[↓aX,mX,reduceCtorEq,Nat.reduceEqDiff,Nat.reduceLT,Nat.reduceLeDiff,Nat.reduceAdd,Nat.reduceMul,Int.reduceToNat,Int.reduceLE,Int.reduceLT,hw]
               have e0:cQ 0=lc 0:=g2 0 (by simp)
               have Pp:∀l':Lb,(∀p',l'≠lc p')→(∀q,l'≠NW 903 q)→l'≠ .loc 12→H3 l'=H2 l':=fun l' q1 q2 q3=>by rw[g4 l' (fun p' _=>q1 p') q2,aq _ _ q3,aq _ _ q3]
               refine⟨⟨j+1,cj⟩,by simp only;omega,cQ,[],?_⟩
               refine wT g1 (fun p' ed=> ?_) (fun l' he=> ?_) ?_ ?_ fun r0 r2 r4=> ?_
               · rcases g3 p' (a9.2 ed) with⟨p0,_,e⟩|⟨q,e⟩<;>rw[e]
                 · exact⟨rfl,iI _ _,iI _ _⟩
                 · exact⟨rfl,by simp[NW],by simp[NW]⟩
               · rw[Pp l' (by rintro p' rfl;simp[lc,Lb.entry] at he) (by rintro p' rfl;simp[NW,Lb.entry] at he) (by rintro rfl;simp[Lb.entry] at he)];exact cE l' he
               · rw[Pp _ (fun p'=>iX _ _) (by simp[NW]) (by simp)];exact c2
               · rw[Pp _ (fun p'=>iX _ _) (by simp[NW]) (by simp)];exact c4
               · simp[se,A3,nt,cG,put,kF,r0,r2,r4,e0]
             · simp only[↓aX,mX,reduceCtorEq,Nat.reduceEqDiff,Nat.reduceLT,Nat.reduceLeDiff,Nat.reduceAdd,Nat.reduceMul,Int.reduceToNat,Int.reduceLE,Int.reduceLT,hw]
               have Po:gM o.kind y.text≠(p:Int):=by simpa using h
               refine⟨⟨j+1,cj⟩,by simp only;omega,lc,[],?_⟩
               refine wT (by rw[RM p j o y ho hy Po];exact(n6.iW (fun p' _=>iI _ _)).iW (fun p' _=>iI _ _)) (Gf _) (fun l' he=> ?_) ?_ ?_ fun r0 r2 r4=> ?_
               · have:l'≠ .loc 12:=by rintro rfl;simp[Lb.entry] at he
                 simp[ai,this,cE l' he]
               · simp[ai,c2]
               · simp[ai,c4]
               · simp[se,A3,nt,cG,put,kF,r0,r2,r4]
           · have he:j=l.length:=by simp at h;omega
             have hw:IntKind.i64.wrap ((p:Int)+1)=((p+1:Nat):Int):=wrap64 (by omega) (by omega)
             simp only[↓aX,mX,reduceCtorEq,Nat.reduceEqDiff,Nat.reduceLT,Nat.reduceLeDiff,Nat.reduceAdd,Nat.reduceMul,Int.reduceToNat,Int.reduceLE,Int.reduceLT,hw]
             refine⟨⟨p+1,by omega,by omega⟩,by simp only;omega,lc,[],?_⟩
             refine wT (by simp only[RL p,←he];exact n6) (Gf _) cE c2 c4 fun r0 r2 r4=> ?_
             simp[se,nt,cG,put,kF,r0,r2,r4]
       · have he:p=6:=by simp at h;omega
         subst he
         simp only[↓aX,mX,reduceCtorEq,Nat.reduceEqDiff,Nat.reduceLT,Nat.reduceLeDiff,Nat.reduceAdd,Nat.reduceMul,Int.reduceToNat,Int.reduceLE,Int.reduceLT,mV]
         refine⟨_,A2 (bt 6 0) H1,(o1 Pl (by rw[nI];exact Lm) ?_ ?_ ?_ b2 b4 bl).1,?_⟩
         · simp[put,kF]
         · simp[put,kF]
         · simp[put,kF]
         obtain⟨-,c2,c4,cl⟩:=o1 (S:=⟨P,G,100⟩) (env:=kF [(7,.ptr (lc 0) 3 0 0),(2,.ptr (.loc 2) 1 0 0),(4,.ptr (.loc 4) 1 0 0)]) Pl (by rw[nI];exact Lm) rfl rfl rfl b2 b4 bl
         simp only[↓aX,mX,reduceCtorEq,Nat.reduceEqDiff,Nat.reduceLT,Nat.reduceLeDiff,Nat.reduceAdd,Nat.reduceMul,Int.reduceToNat,Int.reduceLE,Int.reduceLT]
         refine aO hT ?_
         have Qk:=cl 13 (by decide) (by decide)
         have Pq:=cl 14 (by decide) (by decide)
         simp only[↓aX,mX,reduceCtorEq,Nat.reduceEqDiff,Nat.reduceLT,Nat.reduceLeDiff,Nat.reduceAdd,Nat.reduceMul,Int.reduceToNat,Int.reduceLE,Int.reduceLT,Tree.av,Qk]
         refine aO hJ ?_
         simp only[↓aX,mX,reduceCtorEq,Nat.reduceEqDiff,Nat.reduceLT,Nat.reduceLeDiff,Nat.reduceAdd,Nat.reduceMul,Int.reduceToNat,Int.reduceLE,Int.reduceLT,Tree.av,Qk]
         have Ql:=hM
         simp only[Tree.av,Tree.text,Tree.s,Tree.attrs,Tree.kids] at Ql
         refine aO Ql ?_
         simp only[↓aX,mX,reduceCtorEq,Nat.reduceEqDiff,Nat.reduceLT,Nat.reduceLeDiff,Nat.reduceAdd,Nat.reduceMul,Int.reduceToNat,Int.reduceLE,Int.reduceLT,Doc.av,Pq]
         by_cases hm:mk.2=0
         · rw[if_pos hm,show(mk.2 !=0)=false by simp[hm]]
           simp only[↓aX,mX,reduceCtorEq,Nat.reduceEqDiff,Nat.reduceLT,Nat.reduceLeDiff,Nat.reduceAdd,Nat.reduceMul,Int.reduceToNat,Int.reduceLE,Int.reduceLT,c2,c4,Pq,iZ]
         · rw[if_neg hm,show(mk.2 !=0)=true by simpa using hm]
           simp only[↓aX,mX,reduceCtorEq,Nat.reduceEqDiff,Nat.reduceLT,Nat.reduceLeDiff,Nat.reduceAdd,Nat.reduceMul,Int.reduceToNat,Int.reduceLE,Int.reduceLT,c2,c4,Pq,iZ]
theorem A5 {bB bR ah bf b6 ar aJ bD db:Nat} (hF:aA P G bB=some (100,[((some (some 1)),4),(none,5)],(eu bR ah bf b6 ar aJ bD db).bare)) (d:Doc) (l:List Op)
  (A4:az P G bR [Doc.av d,.list (l.map Op.iv)] (.int .i64 (eH d l))) (h0:eH d l≠0) :
  az P G bB [Doc.av d,.list (l.map Op.iv)] (.dU [Doc.av d,.int .i64 (eH d l)]):=by
 refine bm hF (by simp) (by simp[ax,AV.aI,Doc.av]) (by simp[AV.aI,ax,Doc.av]) ?_;unfold eu;simp only[↓aX,mX,reduceCtorEq,Nat.reduceEqDiff,Nat.reduceLT,Nat.reduceLeDiff,Nat.reduceAdd,Nat.reduceMul,Int.reduceToNat,Int.reduceLE,Int.reduceLT,Doc.av];refine aO A4 ?_
 simp only[↓aX,mX,reduceCtorEq,Nat.reduceEqDiff,Nat.reduceLT,Nat.reduceLeDiff,Nat.reduceAdd,Nat.reduceMul,Int.reduceToNat,Int.reduceLE,Int.reduceLT,Doc.av];rw[show(eH d l !=0)=true by simpa using h0];simp only[↓aX,mX,reduceCtorEq,Nat.reduceEqDiff,Nat.reduceLT,Nat.reduceLeDiff,Nat.reduceAdd,Nat.reduceMul,Int.reduceToNat,Int.reduceLE,Int.reduceLT,Doc.av,iZ]
end
end Go.Am

/- Changes: what was checked is done. -/
namespace Go.Am
open Go Go.RowKit
structure sf (t:Tree) (pre:List Op) (o:Op):Prop where
 ex:∃n q y,Sub 0 (-1) t n q y∧o.target=(n:Int)∧1≤o.kind∧o.kind≤10∧(o.kind=1∨o.kind=2∨8≤o.kind→y.text=false)∧(3≤o.kind∧o.kind≤6→0≤q) ∧
  (o.kind=1∨o.kind=2→cY pre 7 n=false)∧(o.kind=3∨o.kind=4∨o.kind=6→cY pre 7 q.toNat=false∧cY pre 6 n=false∧cY pre 5 n=false)
def sE (o:Op):Nat:=di o.content+o.s.length+1
def gG (l:List Op):Nat:=(l.map sE).sum
theorem sg (a b:List Op):gG (a++b)=gG a+gG b:=by simp[gG]
theorem A6 {a b:List Op} (h:a.Perm b):gG a=gG b:=(h.map sE).sum_nat
section
variable {t:Tree} {l:List Op} {b:Bn} {o:Op}
theorem J7 (h:o5 t l b) (h0:∀i q y,Sub 0 (-1) t i q y→y.text=true→y.kids=[]) (hs:sf t l o):o5 t (l++[o]) (gZ b o)∧(gZ b o).nodes.length≤b.nodes.length+sE o:=by
 obtain⟨n,q,y,hy,ht,k1,D8,c1,c2,c3,c4⟩:=hs.ex;have hw:=jP o.content;have ME:o.kind=1∨o.kind=2∨(o.kind=3∨o.kind=4∨o.kind=6)∨o.kind=5∨o.kind=7∨o.kind=8∨(o.kind=9∨o.kind=10):=by omega
 unfold sE;rcases ME with hk|hk|hk|hk|hk|hk|hk
 ·obtain⟨g1,g2⟩:=MD h hy ht hk (c1 (by omega)) (c3 (by omega));exact⟨g1,by omega⟩
 ·obtain⟨g1,g2⟩:=MF h hy ht hk (c1 (by omega)) (c3 (by omega));exact⟨g1,by omega⟩
 ·obtain⟨e1,e2,e3⟩:=c4 (by omega);obtain⟨g1,g2⟩:=JY h h0 hy (c2 (by omega)) ht hk e1 e2 e3;exact⟨g1,by omega⟩
 ·obtain⟨g1,g2⟩:=MI h h0 hy (c2 (by omega)) ht hk;exact⟨g1,by omega⟩
 ·obtain⟨g1,g2⟩:=MJ h hy ht hk;exact⟨g1,by omega⟩
 ·obtain⟨g1,g2⟩:=MK h hy ht hk (c1 (by omega));exact⟨g1,by omega⟩
 ·obtain⟨g1,g2⟩:=ML h hy ht hk;exact⟨g1,by omega⟩
def mN (t:Tree):Bn:=⟨t.dg,bF t,List.replicate t.dg 0,List.replicate t.dg 0⟩
theorem zP (h0:∀i q y,Sub 0 (-1) t i q y→y.text=true→y.kids=[]):∀(m:Nat) (done:List Op),done.length=m→(∀pre o post,done=pre++o::post→sf t pre o) →
  o5 t done (done.foldl gZ (mN t))∧(done.foldl gZ (mN t)).nodes.length≤t.dg+gG done
 |0,done,hm,_=>by
  obtain rfl:=List.length_eq_zero_iff.1 hm;exact⟨AX t h0,by simp[mN,iS,gG]⟩
 |m+1,done,hm,hs=>by
  rcases List.eq_nil_or_concat done with rfl|⟨pre,o,rfl⟩
  ·simp at hm
  ·rw[List.concat_eq_append] at hm hs ⊢;obtain⟨g1,g2⟩:=zP h0 m pre (by simpa using hm) fun p x post e=>hs p x (post++[o]) (by rw[e];simp)
   obtain⟨g3,g4⟩:=J7 g1 h0 (hs pre o [] (by simp));rw[List.foldl_append,List.foldl_cons,List.foldl_nil];refine⟨g3,?_⟩;rw[sg];have:gG [o]=sE o:=by simp[gG]
   omega
end
theorem mO (L:List Tree):(news L).length=L.length:=by simp[news]
def J8 (l:List Op):Nat:=(l.map fun o=>o.content.length).sum
theorem Gg (l:List Op):J8 l≤gG l:=by
 unfold J8 gG
 induction l with
 |nil=>simp
 |cons o r ih=>have:=fu o.content;simp only[List.map_cons,List.sum_cons,sE];omega
def yC (l:List Op) (c:Op→Bool):Nat:=((l.filter c).map fun o=>o.content.length).sum
theorem nm (l:List Op) (k:Int) (n:Nat):(aY l k n).length=yC l fun o=>o.kind==k&&o.target==(n:Int):=by
 unfold aY yC lz;rw[List.length_flatMap]
theorem yD (l:List Op) (c d:Op→Bool) (h:∀o∈l,¬(c o=true∧d o=true)):yC l c+yC l d=yC l fun o=>c o||d o:=by
 unfold yC
 induction l with
 |nil=>rfl
 |cons o r ih=>
  have ih:=ih fun x hx=>h x (by simp[hx])
  have h1:=h o (by simp);cases hc:c o<;>cases hd:d o<;>simp_all[List.filter_cons]<;>omega
theorem yE (l:List Op) (c:Op→Bool):yC l c≤gG l:=by
 refine Nat.le_trans ?_ (Gg l);unfold yC J8
 induction l with
 |nil=>simp
 |cons o r ih=>simp only[List.filter_cons];split<;>simp<;>omega
theorem A7 (l:List Op) (k:Nat):(dq l k).length≤1+yC l fun o=>decide (3≤o.kind∧o.kind≤6∧o.target=(k:Int)):=by
 have e:(aY l 3 k).length+(aY l 6 k).length+(aY l 4 k).length≤yC l fun o=>decide (3≤o.kind∧o.kind≤6∧o.target=(k:Int)):=by
  rw[nm,nm,nm,yD,yD]
  ·unfold yC
   induction l with
   |nil=>simp
   |cons o r ih=>
    simp only[List.filter_cons];split
    ·rename_i h;rw[if_pos (by simp at h ⊢;omega)];simp only[List.map_cons,List.sum_cons];omega
    ·split
     ·simp only[List.map_cons,List.sum_cons];omega
     ·exact ih
  ·intro o _;simp;omega
  ·intro o _;simp;omega
 generalize (yC l fun o=>decide (3≤o.kind∧o.kind≤6∧o.target=(k:Int)))=C at *;unfold dq;simp only[List.length_append,mO];split
 ·rw[mO];omega
 ·split
  ·simp only[List.length_nil];omega
  ·simp only[List.length_cons,List.length_nil];omega
theorem dJ (l:List Op):∀ks:List Nat,ks.Nodup→(ks.flatMap (dq l)).length≤ks.length+yC l fun o=>decide (3≤o.kind∧o.kind≤6)&&ks.any fun k=>decide (o.target=(k:Int))
 |[],_=>by simp
 |k::r,h=>by
  have ih:=dJ l r (List.nodup_cons.1 h).2;have h1:=A7 l k
  have h2:=yD l (fun o=>decide (3≤o.kind∧o.kind≤6∧o.target=(k:Int))) (fun o=>decide (3≤o.kind∧o.kind≤6)&&r.any fun k=>decide (o.target=(k:Int))) (by
   rintro o _ ⟨e1,e2⟩;simp only[decide_eq_true_eq,Bool.and_eq_true,List.any_eq_true] at e1 e2;obtain⟨_,k',nV,e3⟩:=e2;have:k=k':=by omega
   subst this;exact(List.nodup_cons.1 h).1 nV)
  have h3:(yC l fun o=>decide (3≤o.kind∧o.kind≤6∧o.target=(k:Int))||(decide (3≤o.kind∧o.kind≤6)&&r.any fun k=>decide (o.target=(k:Int))))=yC l fun o=>decide (3≤o.kind∧o.kind≤6)&&(k::r).any fun k=>decide (o.target=(k:Int)):=by
   congr 1
   funext o;rw[List.any_cons];by_cases q1:3≤o.kind∧o.kind≤6
   ·simp[q1]
   ·have e1:decide (3≤o.kind∧o.kind≤6)=false:=decide_eq_false q1;have e2:decide (3≤o.kind∧o.kind≤6∧o.target=(k:Int))=false:=decide_eq_false fun h=>q1 ⟨h.1,h.2.1⟩
    rw[e1,e2];rfl
  simp only[List.flatMap_cons,List.length_append,List.length_cons];omega
end Go.Am

/- Changes: the bench's steps, walked. -/
set_option pp.deepTerms false
set_option pp.deepTerms.threshold 5
namespace Go.Am
open Go Go.RowKit
theorem sh (l:List Op) (i:Nat) (y:Tree):(dk l i y).length≤y.kids.length+3*gG l+1:=by
 unfold dk
 have xW:(cC (i+1) y.kids).Nodup:=by
  have:∀(off:Nat) (xs:List Tree),(cC off xs).Nodup:=by
   intro off xs
   induction xs generalizing off with
   |nil=>simp[cC]
   |cons x r ih=>
    simp only[cC,List.nodup_cons];refine⟨fun h=> ?_,ih _⟩;have:=oK _ _ off h;have:=x.cu;omega
  exact this _ _
 have h1:=dJ l (cC (i+1) y.kids) xW;have h2:=yE l fun o=>decide (3≤o.kind∧o.kind≤6)&&(cC (i+1) y.kids).any fun k=>decide (o.target=(k:Int))
 have h3:=yE l fun o=>o.kind==1&&o.target==(i:Int)
 have h4:=yE l fun o=>o.kind==2&&o.target==(i:Int)
 rw[←nm] at h3 h4
 have h5:(cC (i+1) y.kids).length=y.kids.length:=by
  have:=congrArg List.length (tz (i+1) y.kids);rw[List.length_map,ep] at this;exact this
 split
 ·simp
 ·split
  ·simp
  ·simp only[List.length_append,mO];omega
theorem si {as:List Attr} (h:gD as=true) (l:List Op) (n:Nat):gD (cL l n as)=true:=by
 unfold cL
 induction l generalizing as with
 |nil=>exact h
 |cons o r ih=>
  refine ih ?_;unfold kl;split
  ·exact AR h o
  ·exact h
theorem sj (as:List Attr) (l:List Op) (n:Nat):(cL l n as).length≤as.length+l.length:=by
 unfold cL
 induction l generalizing as with
 |nil=>simp
 |cons o r ih=>
  have h1:=ih (as:=kl n as o)
  have h2:(kl n as o).length≤as.length+1:=by
   unfold kl;split
   ·exact AS as o
   ·omega
  simp only[List.foldl_cons,List.length_cons];omega
theorem wU:∀l:List Op,l.length≤gG l
 |[]=>by simp
 |o::r=>by
  have:=wU r;unfold gG at this ⊢;simp only[List.map_cons,List.sum_cons,List.length_cons,sE];omega
section
variable {P:Program} {G:Nat→Option (List IV)}
set_option maxHeartbeats 2000000 in
theorem RU {ar af an aj au aw:Nat} (hF:aA P G ar=some (194,[],(aU af an aj au aw).bare))
   (hI:sS P G af) (wH:lS P G an) (hD:CZ P G aj) (hV:u4 P G au) (Hs:wF P G aw)
   {t:Tree} {l:List Op} {b:Bn} {o:Op} (h:o5 t l b) (h0:∀i q y,Sub 0 (-1) t i q y→y.text=true→y.kids=[]) (hr:∀i q y,Sub 0 (-1) t i q y→gD y.attrs=true∧y.attrs.length≤80∧y.kids.length≤80) (hs:sf t l o)
   (hb:b.nodes.length+4*gG (l++[o])+200≤B) :
   n5 P G ar [.ptr (.par 0) 3 0 0,o.av] (cz b) [0,2,3] fun X R2=>X=(fun _=> .dU [])∧R2=cz (gZ b o):=by
 obtain⟨k,ta,co,na,st⟩:=o
 obtain⟨n,q,y,hy,ht,k1,D8,c1,c2,c3,c4⟩:=hs.ex
 simp only at ht k1 D8 c1 c2 c3 c4
 subst ht
 have hw:gG (l++[(⟨k,n,co,na,st⟩:Op)])=gG l+(di co+st.length+1):=by rw[sg];simp[gG,sE]
 rw[hw] at hb
 have xB:=fu co
 have pw:B=1073741824:=rfl
 obtain⟨ks,h1,h2⟩:=h.nd n q y hy
 have RW:=hy.xX
 have Hu:=y.cu
 have hn:n<b.n0:=by rw[h.n0];omega
 have hle:=h.le
 have sX:=h.n0
 obtain⟨Qm,Hn,yU⟩:=hr n q y hy
 have JR:=kn h2
 have qT:=sh l n y
 have SG:=wU l
 have yS:k=1∨k=2∨(k=3∨k=4∨k=5∨k=6)∨k=7∨k=8∨k=9∨k=10:=by omega
 rcases yS with rfl|rfl|hk|rfl|rfl|rfl|rfl
 · have hT:=c1 (by omega)
   have hv:=c3 (by omega)
   have xm:=h.fs.2 n (by omega)
   have LB:(b.fs.getD n 0).toNat=(aY l 1 n).length:=by rw[List.getD_eq_getElem?_getD,xm];simp
   have hd:gZ b ⟨1,n,co,na,st⟩={b.ins n (aY l 1 n).length co with fs:=b.fs.set n (((aY l 1 n).length+co.length:Nat):Int)}:=by
     unfold gZ;simp only[Int.toNat_natCast,h1,if_true,LB]
   rw[hd]
   have O2:(aY l 1 n).length≤ks.length:=by
     rw[JR];unfold dk;rw[hT,hv];simp[mO]
   exact O1 hF b hle n hn _ h1 co na st _ xm O2 (by omega) (by simp only;omega) hI
 · have hd:gZ b ⟨2,n,co,na,st⟩=b.ins n ks.length co:=by
     unfold gZ;simp[h1]
   rw[hd]
   exact O3 hF b hle n hn _ h1 co na st (by omega) (by simp only;omega) hI
 · have hq:=c2 (by omega)
   obtain⟨B',yw⟩:=beside h h0 hy hq
   have Qc:=B'.hz.xX
   have MH:=B'.z.cu
   have hm:B'.m<b.n0:=by rw[h.n0];omega
   have zB:b.kd B'.m=B'.ks:=by rw[Bn.i_ B'.nd]
   have RX:=sh l B'.m B'.z
   have PR:=kn B'.rp
   have SH:=(hr _ _ _ B'.hz).2.2
   have key:k≠5→∃L:Nat,jE B'.ks n=(L:Int)∧L<B'.ks.length∧L+1+(aY l 4 n).length≤B'.ks.length:=by
     intro h5
     obtain⟨hv,h6,h5⟩:=c4 (by omega)
     rw[yw,Int.toNat_natCast] at hv
     have JZ:=B'.items hv
     have Da:dq l n=news (aY l 3 n)++ .sC n::news (aY l 4 n):=by unfold dq;rw[h6,h5];simp
     have D7:dP (Rp b) B'.ks ((B'.A++news (aY l 3 n))++ .sC n::(news (aY l 4 n)++B'.C)):=by
       have:=B'.rp;rw[JZ,Da] at this
       simpa using this
     have hA:∀x∈B'.A++news (aY l 3 n),ko n x=false:=by
       intro x hx
       rcases List.mem_append.1 hx with hx|hx
       · exact B'.zJ x hx
       · exact gq n _ x hx
     obtain⟨lA,cj⟩:=u_ hn D7 hA
     refine⟨_,lA,cj,?_⟩
     rw[kn D7]
     simp[mO];omega
   have nV:k=3∨k=4∨k=5∨k=6:=hk
   have nH:(q.toNat:Nat)=B'.m:=by rw[yw];rfl
   rcases nV with rfl|rfl|rfl|rfl
   · obtain⟨L,lA,cj,_⟩:=key (by omega)
     have hd:gZ b ⟨3,n,co,na,st⟩=b.ins B'.m L co:=by
       unfold gZ;simp[h1,nH,zB,lA]
     rw[hd]
     exact O4 hF b hle n hn _ h1 co na st B'.m yw hm _ B'.nd (by simp only;omega) wH L lA (by simp only;omega) (by omega) (by simp only;omega) hI
   · obtain⟨L,lA,cj,Mc⟩:=key (by omega)
     have Nv:=h.as.2 n (by omega)
     have O_:(b.as.getD n 0).toNat=(aY l 4 n).length:=by rw[List.getD_eq_getElem?_getD,Nv];simp
     have hd:gZ b ⟨4,n,co,na,st⟩={b.ins B'.m (L+1+(aY l 4 n).length) co with as:=b.as.set n (((aY l 4 n).length+co.length:Nat):Int)}:=by
       unfold gZ;simp only[Int.toNat_natCast,h1,nH,zB,lA,O_];rfl
     rw[hd]
     exact O5 hF b hle n hn _ h1 co na st B'.m yw hm _ B'.nd (by simp only;omega) wH L lA _ Nv Mc (by omega) (by simp only;omega) hI
   · by_cases hx : 0 ≤ jE B'.ks n
     · obtain⟨L,hL⟩:∃L:Nat,jE B'.ks n=(L:Int):=⟨(jE B'.ks n).toNat,by omega⟩
       have cj:L<B'.ks.length:=by
         unfold jE at hL
         split at hL
         · rename_i k' nV
           obtain⟨h3,_⟩:=List.findIdx?_eq_some_iff_getElem.1 nV
           omega
         · omega
       have hd:gZ b ⟨5,n,co,na,st⟩=b.del B'.m L:=by
         unfold gZ;simp[h1,nH,zB,hL]
       rw[hd]
       exact O6 hF b hle n hn _ h1 co na st B'.m yw hm _ B'.nd (by simp only;omega) wH L hL cj hD
     · have hL:jE B'.ks n= -1:=by
         unfold jE at hx ⊢
         split at hx
         · omega
         · rfl
       have hd:gZ b ⟨5,n,co,na,st⟩=b:=by
         unfold gZ;simp[h1,nH,zB,hL]
       rw[hd]
       exact MB hF b hle n hn _ h1 co na st B'.m yw hm _ B'.nd (by simp only;omega) wH hL
   · obtain⟨L,lA,cj,_⟩:=key (by omega)
     have hd:gZ b ⟨6,n,co,na,st⟩=(b.del B'.m L).ins B'.m L co:=by
       unfold gZ;simp[h1,nH,zB,lA]
     rw[hd]
     exact O7 hF b hle n hn _ h1 co na st B'.m yw hm _ B'.nd (by simp only;omega) wH L lA cj hD (by omega) (by simp only;omega) hI
 · have hd:gZ b ⟨7,n,co,na,st⟩=b.value n st:=by unfold gZ;simp[h1]
   rw[hd]
   exact O8 hF b hle n hn _ h1 co na st (by omega) hV
 · have hd:gZ b ⟨8,n,co,na,st⟩=b.name n na:=by unfold gZ;simp[h1]
   rw[hd]
   exact O9 hF b hle n hn _ h1 co na st
 · have hd:gZ b ⟨9,n,co,na,st⟩=b.attr n ⟨9,n,co,na,st⟩:=by unfold gZ;simp[h1]
   rw[hd]
   have:=sj y.attrs l n
   exact O' hF b hle n hn _ h1 co na st (by simp only;omega) (si Qm l n) Hs
 · have hd:gZ b ⟨10,n,co,na,st⟩=b.attr n ⟨10,n,co,na,st⟩:=by unfold gZ;simp[h1]
   rw[hd]
   have:=sj y.attrs l n
   exact MC hF b hle n hn _ h1 co na st (by simp only;omega) (si Qm l n) Hs
end
end Go.Am
