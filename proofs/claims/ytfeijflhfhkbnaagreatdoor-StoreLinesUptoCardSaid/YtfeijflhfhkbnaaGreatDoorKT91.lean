import Derived.Test.YtfeijflhfhkbnaaGreatDoorKT84
import Derived.Test.YtfeijflhfhkbnaaGreatDoorKAm34
import Derived.Test.YtfeijflhfhkbnaaGreatDoorKAm48
import Derived.Test.YtfeijflhfhkbnaaGreatDoorKP2
import Derived.Test.YtfeijflhfhkbnaaGreatDoorKAm25
import Derived.Test.YtfeijflhfhkbnaaGreatDoorKAm40
set_option linter.all false
/- Changes: all of them. -/
set_option maxRecDepth 20000
namespace Go.Am
open Go Go.RowKit
def SM {sz b d n:Nat} {l q:Lb} {els:List (List AV)} {cs:List AV} {H:Hp} (hl:H l= .live ⟨sz,els⟩) (hq:H q= .live ⟨sz,[cs]⟩) (ho:AV.oJ cs) (hn:els.length=n) (hb:(n+1)*b<=140737488355328) (h0:0<b)
  (hd:l≠l.app d) (hu:H (l.app d)= .unused):jN sz b d (.sl l sz 0 n) (.sl q sz 0 1) H=some (.sl (l.app d) sz 0 (n+1),bD (bD H l .dead) (l.app d) (.live ⟨sz,els++[cs]⟩)):=by
 subst hn;have hs:al_ sz (.sl q sz 0 1) H=some [cs]:=by simp[al_,hq]
 unfold jN;rw[hs];simp[hl,ho,hb,h0,hd,hu]
def YP (n:Nat):List Int:=List.replicate n 0
def aaQ (n:Nat):aB ((YP n).map xX)=List.replicate n [.int .i64 0]:=by simp[YP,aB,xX,IV.cells,IV.dQ]
def Yg (d:Doc) (i:Nat):Bn:=⟨i,d.take i,YP d.length,YP d.length⟩
def lc (p:Nat):Lb:= .nest (.loc 900) p 3
def aaL {p:Prop} (h:p:=by simp[lc]):p:=h
def XT {p q:Nat} (h:lc p=lc q):p=q:=by simpa[lc] using h
def W_ (p n:Nat):lc p≠ .loc n:=aaL
def Xg (p n:Nat):Lb.loc n≠lc p:=aaL
def acy (p:Nat):(lc p).iQ= .nest (.loc 900) 0 3:=rfl
def aba (p d:Nat):(lc p).app d= .loc d:=rfl
def aeZ (p:Nat):(lc p).fresh=true:=rfl
def aaR (p q:Nat):(lc p=lc q)=(p=q):=propext ⟨XT,λh=>by rw[h]⟩
def ZG:Nat->Lb
 |0=> .loc 32
 |1=> .loc 1001
 |2=> .loc 26
 |_=> .loc 30
def Yi (i:Nat) (A K:Lb) (p:Nat):Lb:=if p=1 then .loc 55 else if p=4+2*i then A else if p=5+2*i then K else lc p
def ae0 {d:Doc} {i:Nat} {y:Node} {A K:Lb} {H H1:Hp} (hy:d[i]?=some y) (hB:Oi lc (Yg d i) H) (hA:∀p,lc p≠A) (hK:∀p,lc p≠K) (hA5:A≠ .loc 55) (hK5:K≠ .loc 55) (hKA:K≠A)
  (h0:H1 (lc 0)= .live ⟨3,[[.sl (.loc 55) 5 0 (i+1),.sl (lc 2) 1 0 (YP d.length).length,.sl (lc 3) 1 0 (YP d.length).length]]⟩)
  (h1:H1 (.loc 55)= .live ⟨5,(Yg d i).nodes.mapIdx (NI i lc)++[[.bool y.text,.str y.s,.sl A 2 0 y.attrs.length,.int .i64 y.parent,.sl K 1 0 y.kids.length]]⟩)
  (h2:H1 A= .live ⟨2,aB (cD y.attrs)⟩) (h3:H1 K= .live ⟨1,aB (y.kids.map xX)⟩) (h4:∀p,p≠0->p≠1->H1 (lc p)=H (lc p)):Oi (Yi i A K) (Yg d (i+1)) H1:=by
 have bI:i<d.length:=(yY.1 hy).1;have E0:d.take (i+1)=d.take i++[y]:=Vl hy;have hl:(d.take i).length=i:=aak
 have hX:∀p,p≠1->p≠4+2*i->p≠5+2*i->Yi i A K p=lc p:=λp a b c=>by simp[Yi,a,b,c]
 have hX4:Yi i A K (4+2*i)=A:=by unfold Yi;rw[Ev sf,P8 rfl]
 have hX5:Yi i A K (5+2*i)=K:=by unfold Yi;rw[Ev sf,Ev sf,P8 rfl]
 have K0:∀j z,(Yg d i).nodes[j]?=some z->(Yg d (i+1)).nodes[j]?=some z:=λj z h=>by
  simp only[Yg] at h ⊢;rw[E0,bB (yY.1 h).1];exact h
 have Ht:(Yg d (i+1)).nodes[i]?=some y:=by simp only[Yg];rw[E0,b_ sf,hl];simp
 have hex:∀j,j<i->∃z,(Yg d i).nodes[j]?=some z:=λj hj=>⟨_,rX (show j<(d.take i).length by omega)⟩;refine Oi.mk' ?_ ?_ ?_ ?_ ?_ ?_ ?_
 ·intro p q hp hq e;have hX1:Yi i A K 1= .loc 55:=rfl;have hc:∀p,p=1\/p=4+2*i\/p=5+2*i\/(p≠1/\p≠4+2*i/\p≠5+2*i):=λp=>by omega
  rcases hc p with rfl|rfl|rfl|⟨a1,a2,a3⟩<;>rcases hc q with rfl|rfl|rfl|⟨b1,b2,b3⟩
  ·rfl
  ·rw[hX1,hX4] at e;exact absurd e.symm hA5
  ·rw[hX1,hX5] at e;exact absurd e.symm hK5
  ·rw[hX1,hX q b1 b2 b3] at e;exact absurd e.symm (W_ _ _)
  ·rw[hX1,hX4] at e;exact absurd e hA5
  ·rfl
  ·rw[hX4,hX5] at e;exact absurd e.symm hKA
  ·rw[hX4,hX q b1 b2 b3] at e;exact absurd e.symm (hA _)
  ·rw[hX1,hX5] at e;exact absurd e hK5
  ·rw[hX4,hX5] at e;exact absurd e hKA
  ·rfl
  ·rw[hX5,hX q b1 b2 b3] at e;exact absurd e.symm (hK _)
  ·rw[hX1,hX p a1 a2 a3] at e;exact absurd e (W_ _ _)
  ·rw[hX4,hX p a1 a2 a3] at e;exact absurd e (hA _)
  ·rw[hX5,hX p a1 a2 a3] at e;exact absurd e (hK _)
  rw[hX p a1 a2 a3,hX q b1 b2 b3] at e;exact XT e
 ·rw[hX 0 sf sf sf,hX 2 sf sf sf,hX 3 sf sf sf,h0];have:(Yg d (i+1)).nodes.length=i+1:=by simp[Yg];omega
  rw[this];rfl
 ·show H1 (.loc 55)=_;rw[h1];simp only[Slot.live.injEq,Row.mk.injEq,Su];show _=(d.take (i+1)).mapIdx (NI (i+1) (Yi i A K));rw[E0,YE,Z3,List.mapIdx_nil,hl,bM,Va sf,hX4,hX5];congr 1;refine fe λj=> ?_;rw[yW,yW];cases hz:(d.take i)[j]? with
  |none=>show Option.map _ ((d.take i)[j]?)=_;rw[hz];rfl
  |some z=>
  have hj:j<i:=by have:=(yY.1 hz).1;omega
  show Option.map _ ((d.take i)[j]?)=_;rw[hz,bT,bT,Va hj,Va (by omega:j<i+1),hX (4+2*j) sf sf sf,hX (5+2*j) sf sf sf]
 ·rw[hX 2 sf sf sf,h4 2 M3 M3];exact hB.f
 ·rw[hX 3 sf sf sf,h4 3 M3 M3];exact hB.a
 ·intro j hj;by_cases e:j=i
  ·subst e;rw[hX4,h2,Bn.SK Ht]
  have hj:j<i:=by have:j<i+1:=hj;omega
  obtain⟨z,hz⟩:=hex j hj;rw[hX (4+2*j) sf sf sf,h4 _ sf sf,hB.at' hj hz,Bn.SK (K0 j z hz)]
 intro j hj;by_cases e:j=i
 ·subst e;rw[hX5,h3,Bn.Ru Ht]
 have hj:j<i:=by have:j<i+1:=hj;omega
 obtain⟨z,hz⟩:=hex j hj;rw[hX (5+2*j) sf sf sf,h4 _ sf sf,hB.kd hj hz,Bn.Ru (K0 j z hz)]
section
variable {P:Program} {G:Nat->Option (List IV)}
def VV (asw iJ l4 akQ kX c7 nq Vj:Nat):AC:=
(aM [zzX 2 0,aQ 4 (.new [.nil0]),gH 5 0] (.seq (aM [gz 16 1 2,MR 17 1,aQ 18 (.call asw [(.t 16),(.t 17)]),MR 6 18] (aM [MR 19 6,eY 20 .neq 19 0] (.cond (.t 20) (aM [gz 21 1 2,MR 22 6,gg (.store 1 (.t 4) (.t 21)),MR 5 22] .ret) .skip))) (.seq (.VL [ep 23 2 0,fm 24 23,oy 25 24,aQ 26 (.tU (.t 25) (.t 25) 1 8 [(.int .i64 0)]),ep 27 2 0,fm 28 27,oy 29 28,aQ 30 (.tU (.t 29) (.t 29) 1 8 [(.int .i64 0)]),aQ 31 (.sg [.nil0,.nil0,.nil0] [(1,(1,(.t 26))),(2,(1,(.t 30)))]),zzX 32 31,MR 7 32] [[],[0],[1],[2,2],[],[4],[5],[6,6],[3,7],[8],[9,0,1,2,3,4,5,6,7,8,9]] [.no,(.rw [(.loc 2)] []),.no,(.rw [] [(.loc 26)]),.no,(.rw [(.loc 2)] []),.no,(.rw [] [(.loc 30)]),.no,.rw [] [.loc 32],.no]) (.seq (.gh .vk (aM [ep 33 2 0,fm 34 33,oy 35 34,gH 36 0] (.block 0 (.loop (aM [et 37 .lss 36 35] (.seq (.cond (.t 37) .skip (.exit 0)) (.seq (.block 1 (aM [jL 38 34 36 5,gz 39 5 38,aQ 9 (.new [(.bool false),(.str []),.nil0,(.int .i64 0),.nil0]),gg (.store 5 (.t 9) (.t 39))] (.seq (.VL [ep 40 9 2,fm 41 40,aQ 42 (.call iJ [(.t 41)]),ep 43 9 4,fm 44 43,aQ 45 (.call l4 [(.t 44)]),ep 46 9 2,gg (.store 1 (.t 46) (.t 42)),ep 47 9 4,gg (.store 1 (.t 47) (.t 45))] [[],[0],[1],[],[3],[4,2],[0,1,2,3,4],[6,2,5,0,1,2,3,4],[0,1,2,3,4,5,6,7],[8,5,7,0,1,2,3,4,5,6,7]] [.no,.rw [.loc 9] [],(.p_ [(.loc 9)]),.no,.rw [.loc 9] [],(.p_ []),.no,.rw [] [.loc 9],.no,.rw [] [.loc 9]]) (.VL [MR 48 7,MR 49 7,aQ 50 (.dp (.t 49)),ep 51 50 0,fm 52 51,gz 53 5 9,aQ 54 (.gG 5 [(.bool false),(.str []),.nil0,(.int .i64 0),.nil0] [(0,(.t 53))]),aQ 55 (.app (.t 52) (.t 54) 5 80),aQ 56 (.dp (.t 48)),ep 57 56 0,gg (.store 1 (.t 57) (.t 55))] [[],[],[1],[2],[3],[],[5],[4,6],[0,0,1,2,3,4,5,6,7],[8,0,1,2,3,4,5,6,7],[9,7,7,0,1,2,3,4,5,6,7]] [.no,.no,.no,.no,(.rw [(.nest (.loc 900) 0 3)] []),(.rw [(.loc 9)] []),(.rw [] [(.loc 54)]),(.rw [(.loc 54)] [(.nest (.loc 900) 0 3),(.loc 55)]),.no,.no,(.rw [] [(.nest (.loc 900) 0 3)])])))) (.cq [eY 58 .add 36 1,MR 36 58])))))))) (.seq (aM [gH 10 1] (.block 2 (.loop (.seq (aM [MR 59 10,eY 60 .leq 59 5] (.cond (.t 60) .skip (.exit 2))) (.seq (.block 3 (aM [MR 63 1,oy 64 63,gH 65 0] (.block 4 (.loop (aM [et 66 .lss 65 64] (.seq (.cond (.t 66) .skip (.exit 4)) (.seq (.block 5 (aM [jL 67 63 65 5,gz 68 5 67,aQ 12 (.new [(.int .i64 0),(.int .i64 0),.nil0,(.str []),(.str [])]),gg (.store 5 (.t 12) (.t 68))] (.seq (.VL [ep 69 12 0,fm 70 69,ep 71 2 0,fm 72 71,ep 73 12 1,fm 74 73,jL 75 72 74 5,ep 76 75 0,fm 77 76,aQ 78 (.call akQ [(.t 70),(.t 77)]),MR 79 10,et 80 .eql 78 79] [[],[0],[],[2],[],[4],[3,5],[6],[7],[1,8],[],[9,10]] [.no,.rw [.loc 12] [],.no,.rw [.loc 2] [],.no,.rw [.loc 12] [],.no,.no,.no,.no,.no,.no]) (.cond (.t 80) (.cq [MR 81 7,gz 82 5 12,aQ 83 (.call kX [(.t 81),(.t 82)])]) .skip)))) (.cq [eY 84 .add 65 1,MR 65 84])))))))) (.cq [MR 61 10,eY 62 .add 61 1,MR 10 62])))))) (.gh .vk (aM [MR 85 7,aQ 86 (.call c7 [(.t 85),(jS 0)]),aQ 13 (.new [(.bool false),(.str []),.nil0,.nil0]),gg (.store 4 (.t 13) (.t 86))] (aM [ep 87 13 3,fm 88 87,aQ 89 (.call nq [(.t 88)]),ep 90 13 3,gg (.store 1 (.t 90) (.t 89))] (aM [gz 92 4 13,aQ 93 (.call Vj [(.t 92)]),MR 91 93,ox 94 91 0,ox 95 91 1,aQ 14 (.new [.nil0]),gg (.store 1 (.t 14) (.t 94)),MR 15 95] (.seq (aM [MR 96 15,eY 97 .neq 96 0] (.cond (.t 97) (aM [gz 98 1 2,gg (.store 1 (.t 4) (.t 98)),gH 5 2] .ret) .skip)) (aM [gz 99 1 14,gg (.store 1 (.t 4) (.t 99)),gH 5 0] .ret)))))))))))
def af3 (d:Doc) (l:List Op) (i:Nat):List (Nat×AV):=
 [(1,.list (l.map Op.iv)),(2,.ptr (.loc 2) 1 0 0),(4,.ptr (.loc 4) 1 0 0),(7,.ptr (lc 0) 3 0 0),(34,.list (d.map Node.iv)),(35,.int .i64 d.length),(36,.int .i64 i)]
def XP (d:Doc):List (Lb×Row):=[(.loc 2,⟨1,[[.list (d.map Node.iv)]]⟩),(.loc 4,⟨1,[[.nil0]]⟩)]
def abd {p:Prop} (h:p:=by simp[ie,XP,kl,ae]):p:=h
theorem Sm {env:Env} {f:AV->AV}:∀{ps:List (Nat×AV)},(∀q∈ps,q.2=f (env q.1))->∀n,o9 ps n= .any\/o9 ps n=f (env n)
 |[],_,n=> .inl rfl
 |(m,x)::r,h,n=>by
  rw[xK];by_cases e:n=m
  ·subst e;right;rw[s9,P8 rfl];exact h (n,x) tM
  rw[s9,Ev e];exact Sm (λq hq=>h q (by simp[hq])) n
def US:Lb->Option Nat
 | .nest (.loc c) p k=>if c=900/\k=3 then some p else none
 |_=>none
def Zn (p:Nat):US (lc p)=some p:=by simp[US,lc]
def ae1 {l:Lb} {p:Nat} (h:US l=some p):l=lc p:=by
 unfold US at h;split at h
 ·split at h
  ·rename_i hc;cases h;obtain⟨rfl,rfl⟩:=hc;rfl
  cases h
 cases h
def UT (b:Bn) (p:Nat):Option (Nat×List IV):=
 if p=2 then some (1,b.fs.map xX) else if p=3 then some (1,b.az.map xX)
 else if 4<=p/\p<4+2*b.n0 then(if p%2=0 then some (2,cD (b.at ((p - 4)/2))) else some (1,(b.kd ((p - 5)/2)).map xX)) else none
def X1 (b:Bn) (l:Lb):Option (Nat×List IV):=(US l).bind (UT b)
def aiO (b:Bn) {i:Nat} (h:i<b.n0):X1 b (lc (4+2*i))=some (2,cD (b.at i)):=by
 unfold X1;rw[Zn,EF];unfold UT;rw[Ev sf,Ev sf,P8 sf,P8 sf];rw[show(4+2*i - 4)/2=i by omega]
def aiP (b:Bn) {i:Nat} (h:i<b.n0):X1 b (lc (5+2*i))=some (1,(b.kd i).map xX):=by
 unfold X1;rw[Zn,EF];unfold UT;rw[Ev sf,Ev sf,P8 sf,Ev sf];rw[show(5+2*i - 5)/2=i by omega]
def aiQ (b:Bn):X1 b (lc 2)=some (1,b.fs.map xX):=by unfold X1;rw[Zn];rfl
def ah5 (b:Bn):X1 b (lc 3)=some (1,b.az.map xX):=by unfold X1;rw[Zn];rfl
def aiR (b:Bn):X1 b (lc 0)=none:=by unfold X1;rw[Zn];rfl
def ah6 (b:Bn):X1 b (lc 1)=none:=by unfold X1;rw[Zn];rfl
def acz (b:Bn) (n:Nat):X1 b (.loc n)=none:=rfl
def ah7 {b:Bn} {H:Hp} (hB:Oi lc b H) (hn:b.n0<=b.nodes.length) (l:Lb) (sz:Nat) (xs:List IV) (h:X1 b l=some (sz,xs)):H l= .live ⟨sz,aB xs⟩/\l.fresh=true/\Flat xs:=by
 unfold X1 at h;obtain⟨p,hp,h'⟩:=yV.1 h;obtain rfl:=ae1 hp;clear h;have h:=h';clear h';refine⟨?_,rfl,?_⟩
 ·unfold UT at h;split at h
  ·rename_i e;subst e;cases h;exact hB.f
  split at h
  ·rename_i e;subst e;cases h;exact hB.a
  split at h
  ·rename_i hc;obtain⟨i,hi,e⟩:=Oi.lists hB hc.1 hc.2;obtain⟨x,hx⟩:∃x,b.nodes[i]?=some x:=⟨_,rX sf⟩;rcases e with rfl|rfl
   ·rw[P8 sf,show(4+2*i - 4)/2=i by omega] at h;cases h;rw[Bn.SK hx];exact hB.at' hi hx
   rw[Ev sf,show(5+2*i - 5)/2=i by omega] at h;cases h;rw[Bn.Ru hx];exact hB.kd hi hx
  cases h
 unfold UT at h;split at h
 ·cases h;exact XD _
 split at h
 ·cases h;exact XD _
 split at h
 ·split at h
  ·cases h;exact nW _
  cases h;exact XD _
 cases h
def X2 (d:Doc) (l:Lb):Option (Nat×List IV):=if l=lc 1 then some (5,d.map Node.iv) else none
def adJ (b:Bn) (H:Hp):Hp:=bD (Pz (X2 b.nodes) (Pz (X1 b) H)) (lc 0) .dead
def Zc {S:St} {env:Env} {b:Bn} {H:Hp} {c:List IV} (hB:Oi lc b H) (hn:b.n0<=b.nodes.length) (h7:env 7= .ptr (lc 0) 3 0 0) (h2:env 2= .ptr (.loc 2) 1 0 0) (h4:env 4= .ptr (.loc 4) 1 0 0)
  (a2:H (.loc 2)= .live ⟨1,[[.list c]]⟩) (a4:H (.loc 4)= .live ⟨1,[[.nil0]]⟩) (al:∀n,n≠2->n≠4->H (.loc n)= .unused) :
  nQ S env H (put (o9 [(7,.ptr (lc 0) 3 0 0),(2,.ptr (.loc 2) 1 0 0),(4,.ptr (.loc 4) 1 0 0)]) 7 (XO b.nodes b.fs b.az)) (adJ b H)/\adJ b H (.loc 2)= .live ⟨1,[[.list c]]⟩/\adJ b H (.loc 4)= .live ⟨1,[[.nil0]]⟩/\∀n,n≠2->n≠4->adJ b H (.loc n)= .unused:=by
 have w1:nQ S env H (o9 [(7,.ptr (lc 0) 3 0 0),(2,.ptr (.loc 2) 1 0 0),(4,.ptr (.loc 4) 1 0 0)]) (Pz (X1 b) H):=Rz (X1 b) (ah7 hB hn) (Sm (by simp[h7,h2,h4,Py]));have n1:Pz (X1 b) H (lc 1)= .live ⟨5,aB (b.nodes.map Node.iv)⟩:=by
  rw[PB (ah6 b) hB.n];simp only[Slot.live.injEq,Row.mk.injEq,Su];refine fe λi=> ?_;simp only[cn,yW,aB,Zr];cases hx:b.nodes[i]? with
  |none=>rfl
  |some x=>
  simp only[bT,di,Function.comp];by_cases hi:i<b.n0
  ·rw[Va hi];simp only[Ol,Py,aiO b hi,aiP b hi,Bn.SK hx,Bn.Ru hx,bp,G_,bM,PW,A5,Rc,tn];rw[P5 (by rw[bp];exact PW _),P5 (by rw[G_];exact PW _)];rfl
  rw[aaa sf];rfl
 have n0:Pz (X1 b) H (lc 0)= .live ⟨3,[[.sl (lc 1) 5 0 b.nodes.length,.list (b.fs.map xX),.list (b.az.map xX)]]⟩:=by
  rw[PB (aiR b) hB.s];simp only[Rj,Ww,Ol,Py,ah6,aiQ,ah5,G_,bM,PW,A5,Rc,tn];rw[P5 (by rw[G_];exact PW _),P5 (by rw[G_];exact PW _)]
 have hX2:∀l sz xs,X2 b.nodes l=some (sz,xs)->Pz (X1 b) H l= .live ⟨sz,aB xs⟩/\l.fresh=true/\Flat xs:=by
  intro l sz xs h;unfold X2 at h;split at h
  ·rename_i e;subst e;cases h;exact⟨n1,rfl,acH _⟩
  cases h
 have w2:nQ S (o9 [(7,.ptr (lc 0) 3 0 0),(2,.ptr (.loc 2) 1 0 0),(4,.ptr (.loc 4) 1 0 0)]) (Pz (X1 b) H) (o9 [(7,.ptr (lc 0) 3 0 0),(2,.ptr (.loc 2) 1 0 0),(4,.ptr (.loc 4) 1 0 0)]) (Pz (X2 b.nodes) (Pz (X1 b) H)):=
  Rz (X2 b.nodes) hX2 (Sm (by simp[o9,put,Py]))
 have m0:Pz (X2 b.nodes) (Pz (X1 b) H) (lc 0)= .live ⟨3,aB [.agg [.list (b.nodes.map Node.iv),.list (b.fs.map xX),.list (b.az.map xX)]]⟩:=by
  rw[PB (by simp[X2,aaR]) n0];simp only[Rj,Ww,Ol,Py,X2,Rc,G_,bM,PW,A5,tn];rw[P5 (by rw[G_];exact PW _)];rfl
 have w3:nQ S (o9 [(7,.ptr (lc 0) 3 0 0),(2,.ptr (.loc 2) 1 0 0),(4,.ptr (.loc 4) 1 0 0)]) (Pz (X2 b.nodes) (Pz (X1 b) H)) _ _:=Yv (d:=7) rfl m0 rfl (by
  intro y hy z hz cs;simp only[bY] at hy;subst hy;simp only[IV.cells,PY,QN,QV] at hz;rcases hz with rfl|rfl|rfl<;>simp)
 have aiS:∀n,H (.loc n)= .unused->bD (Pz (X2 b.nodes) (Pz (X1 b) H)) (lc 0) .dead (.loc n)= .unused:=λn h=>by
  rw[aq _ _ (Xg _ _)];simp[Pz,X2,Xg,acz,h]
 unfold adJ;refine⟨(w1.trans w2).trans w3,?_,?_,λn q1 q2=>aiS n (al n q1 q2)⟩
 ·rw[aq _ _ (Xg _ _)];simp[Pz,X2,Xg,acz,a2,Ol,Py]
 rw[aq _ _ (Xg _ _)];simp[Pz,X2,Xg,acz,a4,Ol,Py]
def abQ {b:Bn} {lab:Nat->Lb} {env:Env} {H:Hp} {ps:List (Nat×AV)} {d:Doc} (hB:Oi lab b H) (hl:∀p,p<4+2*b.n0->(lab p).fresh=true/\lab p≠ .loc 2/\lab p≠ .loc 4) (hE:∀l:Lb,l.entry=true->H l= .unused)
  (a2:H (.loc 2)= .live ⟨1,[[.list (d.map Node.iv)]]⟩) (a4:H (.loc 4)= .live ⟨1,[[.nil0]]⟩)
  (he:PM lc lab (Ut b) [] (lc 0)=lab 0->PM lc lab (Ut b) [] (.loc 2)= .loc 2->PM lc lab (Ut b) [] (.loc 4)= .loc 4->k_ (PM lc lab (Ut b) []) env ps) :
  WH lc (Ut b) [.loc 2,.loc 4] (λ_=>false) ps (XP d) env H lab []:=by
 refine⟨hB,?_,he (On (λp1 p2 _ _ e=>XT e) (OO.2 sf)) (OE aaL) (OE aaL),?_,aar,?_,aaY,?_⟩
 ·intro l' h1 hu;exact absurd (hE l' h1) hu
 ·intro z hz;simp only[XP,PY,QN,QV] at hz;rcases hz with rfl|rfl<;>simp[dn,dO,bu,bJ,a2,a4]
 ·intro l' kR p' BT;have:=hl p' (OO.1 BT);simp only[PY,QN,QV] at kR;rcases kR with rfl|rfl
  ·exact this.2.1
  exact this.2.2
 intro p' BT;exact⟨λ_=>(hl p' (OO.1 BT)).1,λh=>by simp[lc,Lb.entry] at h⟩
def aaf (l:List Op) (p:Nat):List (Nat×AV):=[(1,.list (l.map Op.iv)),(2,.ptr (.loc 2) 1 0 0),(4,.ptr (.loc 4) 1 0 0),(7,.ptr (lc 0) 3 0 0),(10,.int .i64 p)]
def adK (l:List Op) (p i:Nat):List (Nat×AV):=(63,.list (l.map Op.iv))::(64,.int .i64 l.length)::(65,.int .i64 i)::aaf l p
def ada {b:Bn} {d:Doc} (H0:Hp) (EY:H0=Lw lc (Ut b) (ie (λ_=>false) (XP d))):Oi lc b H0/\H0 (.loc 2)= .live ⟨1,[[.list (d.map Node.iv)]]⟩/\H0 (.loc 4)= .live ⟨1,[[.nil0]]⟩ /\
  (∀l':Lb,l'.entry=true->H0 l'= .unused)/\(∀c l',H0 (NW c l')= .unused)/\(∀n,n≠2->n≠4->H0 (.loc n)= .unused):=by
 have hO:∀l':Lb,(∀p',lc p'≠l')->H0 l'=ie (λ_=>false) (XP d) l':=λl' hl=>by rw[EY];exact Qa _ λp' _=>hl p'
 have hO2:∀l':Lb,(∀p',lc p'≠l')->l'≠ .loc 2->l'≠ .loc 4->H0 l'= .unused:=λl' h1 h2 h3=>(hO l' h1).trans (by simp[ie,XP,kl,ae,h2,h3,Hp.none]);refine⟨by rw[EY];exact Ed.R6 (λp1 p2 _ _ e=>XT e) _,(hO _ aaL).trans abd,(hO _ aaL).trans abd,?_,?_,?_⟩
 ·exactλl' he=>hO2 l' (by intro p' e;subst e;simp[lc,Lb.entry] at he) (by rintro rfl;simp[Lb.entry] at he) (by rintro rfl;simp[Lb.entry] at he)
 ·exactλc l'=>hO2 _ (by simp[lc,NW]) aaM aaM
 exactλn h1 h2=>hO2 _ aaL (by simpa using h1) (by simpa using h2)
def ae2 {akN asw iJ l4 akQ kX c7 nq Vj:Nat} (hF:aw P G akN=some (100,[((some (some 1)),4),(none,5)],(VV asw iJ l4 akQ kX c7 nq Vj).bare)) (d:Doc) (l:List Op) (x:Tree) (bt:Nat->Nat->Bn)
  (Lq:d.length<=2^20) (hl:l.length<=B) (adL:au P G asw [Doc.av d,.list (l.map Op.iv)] (.int .i64 (VU d l))) (h0:VU d l=0)
  (hCA:∀xs:List Attr,xs.length<=B->aa4 P G iJ [.list (cD xs)] 2 (cD xs)) (hCI:∀xs:List Int,xs.length<=B->aa4 P G l4 [.list (xs.map xX)] 1 (xs.map xX))
  (BY:∀y∈d,y.attrs.length<=B/\y.kids.length<=B) (oK:bt 1 0=Yg d d.length) (hbn:∀p i,(bt p i).n0=d.length) (hbt:∀p,bt (p+1) 0=bt p l.length) (J2:d.length<=(bt 6 0).nodes.length)
  (hph:∀o∈l,∃y:Node,0<=o.target/\d[o.target.toNat]?=some y/\au P G akQ [.int .i64 o.kind,.bool y.text] (.int .i64 (WL o.kind y.text)))
  (MF:∀(p i:Nat) o y,l[i]?=some o->d[o.target.toNat]?=some y->WL o.kind y.text≠(p:Int)->bt p (i+1)=bt p i)
  (hdo:∀(p i:Nat) o y,l[i]?=some o->d[o.target.toNat]?=some y->WL o.kind y.text=(p:Int)->Jg P G kX [.ptr (.par 0) 3 0 0,o.av] (Ut (bt p i)) [0,2,3] λX R2=>X=(λ_=> .gf [])/\R2=Ut (bt p (i+1)))
  (hT:au P G c7 [XO (bt 6 0).nodes (bt 6 0).fs (bt 6 0).az,.int .i64 0] x.av) (hJ:au P G nq [.list (dq x.kids)] (.list (dq (Wf x.kids))))
  (mk:Doc×Int) (hM:au P G Vj [(Tree.mk x.text x.s x.attrs (Wf x.kids)).av] (.gf [Doc.av mk.1,.int .i64 mk.2])) :
  au P G akN [Doc.av d,.list (l.map Op.iv)] (if mk.2=0 then .gf [Doc.av mk.1,.int .i64 0] else .gf [Doc.av d,.int .i64 2]):=by
 refine aR hF tM aa0 (by split<;>simp[AV.an,ah,Doc.av]) ?_;have zo:B=1073741824:=rfl;have G4:(2:Nat)^20=1048576:=M3
 unfold VV;simp only[↓aX,mX,seval,Doc.av];refine ay adL ?_;simp only[↓aX,mX,seval,h0,Int.reduceBNe,Doc.av,G_,acx];refine⟨rfl,?_⟩;rw[ac_ sf aat];simp only[↓aX,mX,seval,G_,acx];rw[ac_ sf aat];simp only[↓aX,mX,seval,G_,acx,Ox];refine⟨_,_,Pp (q:= .loc 32) (N:= .loc 1001) (i:=0) (j:=0) (sz:=5) (sq:=3) (els:=[[.nil0,.sl (.loc 26) 1 0 d.length,.sl (.loc 30) 1 0 d.length]]) aai rfl rfl aat M3,?_⟩;simp only[↓aX,mX,seval,G_];refine SJ (σ:={i:Nat // i<=d.length}) lc (λq=>Ut (Yg d q.1)) [.loc 2,.loc 4] (λ_=>false) (λq=>af3 d l q.1) (λ_=>XP d) (λq=>d.length - q.1) ⟨0,zd _⟩
  (λq p1 p2 _ _ e=>XT e) (λ_=>rfl) aaL ?_ ?_ ?_ ?_
 ·intro q l' kR;simp[ah,AV.an,af3] at kR;rcases kR with rfl|rfl|rfl
  ·simp
  ·simp
  right;exact⟨0,OO.2 sf,rfl⟩
 ·intro q z hz cs bV l' kR;simp only[XP,PY,QN,QV] at hz;rcases hz with rfl|rfl<;>(simp only[bY] at bV;subst bV;simp[ah,AV.an] at kR)
 ·refine⟨ZG,[],?_⟩;refine⟨?_,?_,?_,?_,aar,?_,aaY,?_⟩
  ·refine Oi.mk' ?_ ?_ ?_ ?_ ?_ ?_ ?_
   ·intro p q hp hq e;have hp:p<4:=(by simpa[Yg] using hp);have hq:q<4:=by simpa[Yg] using hq
    match p,hp,q,hq with
    |0,_,0,_|1,_,1,_|2,_,2,_|3,_,3,_=>rfl
    |0,_,1,_|0,_,2,_|0,_,3,_|1,_,0,_|1,_,2,_|1,_,3,_|2,_,0,_|2,_,1,_|2,_,3,_|3,_,0,_|3,_,1,_|3,_,2,_=>simp[ZG] at e
   ·simp[ZG,ae,Yg,YP]
   ·simp[ZG,ae,Yg]
   ·simp[ZG,ae,Yg,aaQ]
   ·simp[ZG,ae,Yg,aaQ]
   ·intro j hj;simp[Yg] at hj
   intro j hj;simp[Yg] at hj
  ·intro l' he hu;exfalso;apply hu;cases l'<;>simp_all[Lb.entry,ae,Hp.none]
  ·have r0:PM lc ZG (Ut (Yg d 0)) [] (lc 0)=ZG 0:=On (λp1 p2 _ _ e=>XT e) (OO.2 sf);have r2:PM lc ZG (Ut (Yg d 0)) [] (.loc 2)= .loc 2:=OE aaL;have r4:PM lc ZG (Ut (Yg d 0)) [] (.loc 4)= .loc 4:=OE aaL;simp[af3,k_,bJ,put,jP,r0,r2,r4];simp[ZG]
  ·intro z hz;simp only[XP,PY,QN,QV] at hz;rcases hz with rfl|rfl<;>simp[dn,ae,dO,bu,bJ]
  ·intro l' kR p' BT;have BT:p'<4:=(by simpa[Yg] using OO.1 BT);simp only[PY,QN,QV] at kR;rcases kR with rfl|rfl<;>(simp only[dn];match p',BT with|0,_|1,_|2,_|3,_=>simp[ZG])
  intro p' BT;have BT:p'<4:=by simpa[Yg] using OO.1 BT
  refine⟨λ_=> ?_,λh=>by simp[lc,Lb.entry] at h⟩
  match p',BT with|0,_|1,_|2,_|3,_=>rfl
 rintro⟨i,hi⟩;obtain⟨H0,EY⟩:∃H0,H0=Lw lc (Ut (Yg d i)) (ie (λ_=>false) (XP d)):=⟨_,rfl⟩;simp only;rw[<-EY];have hB:Oi lc (Yg d i) H0:=by rw[EY];exact Ed.R6 (λp1 p2 _ _ e=>XT e) _
 have hO:∀l':Lb,(∀p',lc p'≠l')->H0 l'=ie (λ_=>false) (XP d) l':=λl' hl=>by rw[EY];exact Qa _ λp' _=>hl p'
 have hO2:∀l':Lb,(∀p',lc p'≠l')->l'≠ .loc 2->l'≠ .loc 4->H0 l'= .unused:=λl' h1 h2 h3=>(hO l' h1).trans (by simp[ie,XP,kl,ae,h2,h3,Hp.none]);have a2:H0 (.loc 2)= .live ⟨1,[[.list (d.map Node.iv)]]⟩:=(hO _ aaL).trans abd;have a4:H0 (.loc 4)= .live ⟨1,[[.nil0]]⟩:=(hO _ aaL).trans abd;have hE:∀l':Lb,l'.entry=true->H0 l'= .unused:=λl' he=>hO2 l' (by intro p' e;subst e;simp[lc,Lb.entry] at he) (by rintro rfl;simp[Lb.entry] at he) (by rintro rfl;simp[Lb.entry] at he);have aN:∀c l',H0 (NW c l')= .unused:=λc l'=>hO2 _ (by simp[lc,NW]) aaM aaM;have al:∀n,n≠2->n≠4->H0 (.loc n)= .unused:=λn h1 h2=>hO2 _ aaL (by simpa using h1) (by simpa using h2);clear hO hO2 EY;have hs:H0 (lc 0)= .live ⟨3,[[.sl (lc 1) 5 0 (Yg d i).nodes.length,.sl (lc 2) 1 0 (YP d.length).length,.sl (lc 3) 1 0 (YP d.length).length]]⟩:=hB.s;have F2:H0 (lc 1)= .live ⟨5,(Yg d i).nodes.mapIdx (NI i lc)⟩:=hB.n;have I9:(Yg d i).nodes.length=i:=by simp[Yg];omega
 rw[I9] at hs;simp only[↓aX,mX,seval,af3];refine AU (λh=> ?_) (λh=> ?_)
 ·have bI:i<d.length:=by simpa using h
  obtain⟨y,hy⟩:∃y,d[i]?=some y:=⟨_,rX bI⟩;have hw:IntKind.i64.wrap ((i:Int)+1)=((i+1:Nat):Int):=wrap64 sf sf;have hgd:(d.map Node.iv)[i]?=some y.iv:=by rw[cn,hy];rfl
  obtain⟨hya,FP⟩:=BY y (PX hy);simp only[↓aX,mX,seval,hgd,Xx,Node.cJ,Node.cs,al 9 M3 M3];refine⟨rfl,?_⟩;refine ac' 901 (hCA y.attrs hya) aae (λl'=>by rw[aq _ _ aaM,aq _ _ aaM];exact aN _ _) tM λl1=> ?_;have nA:∀n,NW 901 l1≠ .loc n:=aaM
  have nA2:∀p,lc p≠NW 901 l1:=by simp[NW,lc]
  have uA:H0 (NW 901 l1)= .unused:=aN _ _;have fA:(NW 901 l1).fresh=true:=rfl;have eA:(NW 901 l1).entry=false:=rfl;have hAK:∀l2,NW 902 l2≠NW 901 l1:=aaM
  generalize NW 901 l1=A at *;have nA':∀n,Lb.loc n≠A:=λn=>Ss (nA n);simp only[↓aX,mX,seval,nA',bp];refine ac' 902 (hCI y.kids FP) aae (λl'=>by rw[aq _ _ (hAK l'),aq _ _ aaM,aq _ _ aaM];exact aN _ _) tM λl2=> ?_;have nK:∀n,NW 902 l2≠ .loc n:=aaM
  have nK2:∀p,lc p≠NW 902 l2:=by simp[NW,lc]
  have uK:H0 (NW 902 l2)= .unused:=aN _ _;have fK:(NW 902 l2).fresh=true:=rfl;have eK:(NW 902 l2).entry=false:=rfl;have hAK:=hAK l2;generalize NW 902 l2=Kd at *;have nK':∀n,Lb.loc n≠Kd:=λn=>Ss (nK n);have ae3:=Ss hAK;simp only[↓aX,mX,seval,nA',nK',G_,ae3];refine⟨rfl,?_⟩;simp only[↓aX,mX,seval,W_,Xg,nA2,nK2,hs,F2,acy,aba,nA',nK',ae3,aaR];have u54:=al 54 M3 M3;have u55:=al 55 M3 M3;rw[aaV (sz:=5) (d:=54) (cs:=[.bool y.text,.str y.s,.sl A 2 0 y.attrs.length,.int .i64 y.parent,.sl Kd 1 0 y.kids.length]) (by simp[fg,AV.cells,AV.sI,AV.one,bp]) (by simp[ae,nA',nK',u54]) rfl M3];simp only[↓aX,mX,seval,W_,Xg,nA2,nK2,hs,F2,acy,aba,nA',nK',ae3,aaR];rw[SM (l:=lc 1) (q:= .loc 54) (d:=55) (els:=(Yg d i).nodes.mapIdx (NI i lc)) (cs:=[.bool y.text,.str y.s,.sl A 2 0 y.attrs.length,.int .i64 y.parent,.sl Kd 1 0 y.kids.length]) (by simp[ae,W_,nA2,nK2,F2]) aai (by simp[AV.oJ,AV.one]) (by rw[pz,I9]) sf M3 (by simp[lc];rintro⟨⟩) (by simp[aba,ae,nA',nK',u55])];simp only[↓aX,mX,seval,W_,Xg,nA2,nK2,hs,F2,acy,aba,nA',nK',ae3,aaR,aeZ,hw,or_true,true_or];refine⟨by rintro l' (rfl|rfl)<;>simp[Lb.iQ,lc],?_⟩;refine⟨⟨i+1,bI⟩,aac,Yi i A Kd,[],?_⟩;have hX0:Yi i A Kd 0=lc 0:=by unfold Yi;rw[Ev sf,Ev sf,Ev sf]
  have r0:PM lc (Yi i A Kd) (Ut (Yg d (i+1))) [] (lc 0)=lc 0:=(On (λp1 p2 _ _ e=>XT e) (OO.2 sf)).trans hX0;have r2:PM lc (Yi i A Kd) (Ut (Yg d (i+1))) [] (.loc 2)= .loc 2:=OE aaL;have r4:PM lc (Yi i A Kd) (Ut (Yg d (i+1))) [] (.loc 4)= .loc 4:=OE aaL;have hXl:∀p n,n≠55->Yi i A Kd p≠ .loc n:=by
   intro p n hn;unfold Yi;split
   ·simpa using Ss hn
   split
   ·exact nA n
   split
   ·exact nK n
   exact W_ _ _
  refine⟨?_,?_,?_,?_,aar,?_,aaY,?_⟩
  ·refine ae0 hy hB nA2 nK2 (nA 55) (nK 55) hAK ?_ ?_ ?_ ?_ ?_
   ·simp[ae,aaR]
   ·simp[ae,Xg]
   ·simp[ae,Ss (nA2 _),nA,ae3]
   ·simp[ae,Ss (nK2 _),nK]
   intro p g1 g2;simp[ae,aaR,g1,g2,W_,nA2,nK2]
  ·intro l' he hu;exfalso;apply hu;have e1:∀p,l'≠lc p:=(by rintro p rfl;simp[lc,Lb.entry] at he);have e2:∀n,l'≠ .loc n:=(by rintro p rfl;simp[Lb.entry] at he);have e3:l'≠A:=(by rintro rfl;rw[eA] at he;cases he);have e4:l'≠Kd:=(by rintro rfl;rw[eK] at he;cases he);simp[ae,e1,e2,e3,e4,hE l' he]
  ·simp[k_,bJ,put,o9,r0,r2,r4]
  ·intro z hz;simp only[XP,PY,QN,QV] at hz;rcases hz with rfl|rfl<;>simp[dn,ae,dO,bu,bJ,Xg,nA',nK',a2,a4]
  ·intro l' kR p' BT;simp only[PY,QN,QV] at kR;rcases kR with rfl|rfl
   ·exact hXl _ _ M3
   exact hXl _ _ M3
  intro p' BT;refine⟨λ_=> ?_,λh=>by simp[lc,Lb.entry] at h⟩;unfold Yi;split
  ·rfl
  split
  ·exact fA
  split
  ·exact fK
  rfl
 have he:i=d.length:=by simp at h;omega
 clear hs F2 I9 al aN;subst he;simp only[↓aX,mX,seval];have af4:∀b:Bn,∀p,p<4+2*b.n0->(lc p).fresh=true/\lc p≠ .loc 2/\lc p≠ .loc 4:=λb p _=>⟨rfl,aaL,aaL⟩;refine SJ (σ:={p:Nat // 1<=p/\p<=6}) lc (λq=>Ut (bt q.1 0)) [.loc 2,.loc 4] (λ_=>false) (λq=>aaf l q.1) (λ_=>XP d) (λq=>6 - q.1) ⟨1,sf,sf⟩
  (λq p1 p2 _ _ e=>XT e) (λ_=>rfl) aaL ?_ ?_ ?_ ?_
 ·intro q l' kR;simp[ah,AV.an,aaf] at kR;rcases kR with rfl|rfl|rfl
  ·simp
  ·simp
  right;exact⟨0,OO.2 sf,rfl⟩
 ·intro q z hz cs bV l' kR;simp only[XP,PY,QN,QV] at hz;rcases hz with rfl|rfl<;>(simp only[bY] at bV;subst bV;simp[ah,AV.an] at kR)
 ·refine⟨lc,[],?_⟩;refine abQ (by simp only[oK];exact hB) (af4 _) hE a2 a4 λr0 r2 r4=> ?_;simp[aaf,k_,bJ,put,o9,r0,r2,r4]
 rintro⟨p,zQ,hp6⟩;obtain⟨H1,hH1⟩:∃H1,H1=Lw lc (Ut (bt p 0)) (ie (λ_=>false) (XP d)):=⟨_,rfl⟩;simp only;rw[<-hH1];obtain⟨L9,b2,b4,bE,bN,bl⟩:=ada H1 hH1;clear hH1;simp only[↓aX,mX,seval,aaf];refine AU (λh=> ?_) (λh=> ?_)
 ·have hp5:p<=5:=by simp at h;omega
  simp only[↓aX,mX,seval,G_];refine SJ (σ:={i:Nat // i<=l.length}) lc (λq=>Ut (bt p q.1)) [.loc 2,.loc 4] (λ_=>false) (λq=>adK l p q.1) (λ_=>XP d) (λq=>l.length - q.1) ⟨0,zd _⟩
   (λq p1 p2 _ _ e=>XT e) (λ_=>rfl) aaL ?_ ?_ ?_ ?_
  ·intro q l' kR;simp[ah,AV.an,aaf,adK] at kR;rcases kR with rfl|rfl|rfl
   ·simp
   ·simp
   right;exact⟨0,OO.2 sf,rfl⟩
  ·intro q z hz cs bV l' kR;simp only[XP,PY,QN,QV] at hz;rcases hz with rfl|rfl<;>(simp only[bY] at bV;subst bV;simp[ah,AV.an] at kR)
  ·refine⟨lc,[],?_⟩;refine abQ L9 (af4 _) bE b2 b4 λr0 r2 r4=> ?_;simp[aaf,adK,k_,bJ,put,o9,r0,r2,r4]
  rintro⟨j,hj⟩;obtain⟨H2,hH2⟩:∃H2,H2=Lw lc (Ut (bt p j)) (ie (λ_=>false) (XP d)):=⟨_,rfl⟩;simp only;rw[<-hH2];obtain⟨MQ,c2,c4,cE,cN,cl⟩:=ada H2 hH2;clear hH2;simp only[↓aX,mX,seval,aaf,adK];refine AU (λh=> ?_) (λh=> ?_)
  ·have bI:j<l.length:=(by simpa using h);obtain⟨o,ho⟩:∃o,l[j]?=some o:=⟨_,rX bI⟩;have hw:IntKind.i64.wrap ((j:Int)+1)=((j+1:Nat):Int):=wrap64 sf sf;obtain⟨y,HI,hy,hPh⟩:=hph o (PX ho);have hgd:(d.map Node.iv)[o.target.toNat]?=some y.iv:=(by rw[cn,hy];rfl);simp only[↓aX,mX,seval,YO,ho,bT,Ys,Op.cJ,Op.cs,cl 12 M3 M3,c2,HI,hgd,Xx,Node.cJ,Node.cs];refine⟨rfl,jw hPh ?_⟩;simp only[↓aX,mX,seval];refine AU (λh=> ?_) (λh=> ?_)
   ·simp only[↓aX,mX,seval];have LI:WL o.kind y.text=(p:Int):=(by simpa using h);refine WV (lab:=lc) (N:=NW 903) (hdo p j o y ho hy LI) (by simp[bu,bJ,S1,Op.av]) ((MQ.Yr (λp' _=>W_ _ _)).Yr (λp' _=>W_ _ _)) (λl'=>by rw[aq _ _ aaM,aq _ _ aaM];exact cN _ _) (aeH 903) (λ_ _=> .inr λp' _=>rfl) (λp' BT=>OO.2 (by simp at BT;omega)) ?_;rintro X R2 U9 H3 ⟨rfl,rfl⟩ g1 g2 g3 g4 g5 g6;simp only[↓aX,mX,seval,hw];have e0:U9 0=lc 0:=g2 0 tM;have g4':∀l':Lb,(∀p',l'≠lc p')->(∀q,l'≠NW 903 q)->l'≠ .loc 12->H3 l'=H2 l':=λl' q1 q2 q3=>(by rw[g4 l' (λp' _=>q1 p') q2,aq _ _ q3,aq _ _ q3]);refine⟨⟨j+1,bI⟩,aac,U9,[],?_⟩;refine abQ g1 (λp' BT=> ?_) (λl' he=> ?_) ?_ ?_ λr0 r2 r4=> ?_
    ·rcases g3 p' (OO.2 BT) with⟨p0,_,e⟩|⟨q,e⟩<;>rw[e]
     ·exact⟨rfl,W_ _ _,W_ _ _⟩
     exact⟨rfl,aaM,aaM⟩
    ·rw[g4' l' (by rintro p' rfl;simp[lc,Lb.entry] at he) (by rintro p' rfl;simp[NW,Lb.entry] at he) (by rintro rfl;simp[Lb.entry] at he)];exact cE l' he
    ·rw[g4' _ (λp'=>Xg _ _) aaM tM];exact c2
    ·rw[g4' _ (λp'=>Xg _ _) aaM tM];exact c4
    simp[aaf,adK,k_,bJ,put,o9,r0,r2,r4,e0]
   simp only[↓aX,mX,seval,hw];have LI:WL o.kind y.text≠(p:Int):=(by simpa using h);refine⟨⟨j+1,bI⟩,aac,lc,[],?_⟩;refine abQ (by rw[MF p j o y ho hy LI];exact(MQ.Yr (λp' _=>W_ _ _)).Yr (λp' _=>W_ _ _)) (af4 _) (λl' he=> ?_) ?_ ?_ λr0 r2 r4=> ?_
   ·have:l'≠ .loc 12:=(by rintro rfl;simp[Lb.entry] at he);simp[ae,this,cE l' he]
   ·simp[ae,c2]
   ·simp[ae,c4]
   simp[aaf,adK,k_,bJ,put,o9,r0,r2,r4]
  have he:j=l.length:=by simp at h;omega
  have hw:IntKind.i64.wrap ((p:Int)+1)=((p+1:Nat):Int):=wrap64 sf sf;simp only[↓aX,mX,seval,hw];refine⟨⟨p+1,sf,sf⟩,aac,lc,[],?_⟩;refine abQ (by simp only[hbt p,<-he];exact MQ) (af4 _) cE c2 c4 λr0 r2 r4=> ?_;simp[aaf,k_,bJ,put,o9,r0,r2,r4]
 have he:p=6:=by simp at h;omega
 subst he;simp only[↓aX,mX,seval,Ox];refine⟨_,adJ (bt 6 0) H1,(Zc L9 (by rw[hbn];exact J2) ?_ ?_ ?_ b2 b4 bl).1,?_⟩
 ·simp[put,o9]
 ·simp[put,o9]
 ·simp[put,o9]
 obtain⟨-,c2,c4,cl⟩:=Zc (S:=⟨P,G,100⟩) (env:=o9 [(7,.ptr (lc 0) 3 0 0),(2,.ptr (.loc 2) 1 0 0),(4,.ptr (.loc 4) 1 0 0)]) L9 (by rw[hbn];exact J2) rfl rfl rfl b2 b4 bl;simp only[↓aX,mX,seval];refine ay hT ?_;have c13:=cl 13 M3 M3;have c14:=cl 14 M3 M3;simp only[↓aX,mX,seval,Tree.av,c13];refine ay hJ ?_;simp only[↓aX,mX,seval,Tree.av,c13];have LZ:=hM;simp only[Tree.av,Tree.text,Tree.s,Tree.attrs,Tree.kids] at LZ;refine ay LZ ?_;simp only[↓aX,mX,seval,Doc.av,c14];by_cases hm:mk.2=0
 ·rw[P8 hm,show(mk.2 !=0)=false by simp[hm]];simp only[↓aX,mX,seval,c2,c4,c14,kq]
 rw[Ev hm,show(mk.2 !=0)=true by simpa using hm];simp only[↓aX,mX,seval,c2,c4,c14,kq]
end

structure aag (t:Tree) (pre:List Op) (o:Op):Prop where
 ex:∃n q y,Sub 0 (-1) t n q y/\o.target=(n:Int)/\1<=o.kind/\o.kind<=10/\(o.kind=1\/o.kind=2\/8<=o.kind->y.text=false)/\(3<=o.kind/\o.kind<=6->0<=q) /\
  (o.kind=1\/o.kind=2->VA pre 7 n=false)/\(o.kind=3\/o.kind=4\/o.kind=6->VA pre 7 q.toNat=false/\VA pre 6 n=false/\VA pre 5 n=false)
section
variable {t:Tree} {l:List Op} {b:Bn} {o:Op}
end
def Yx (L:List Tree):(news L).length=L.length:=by simp[news]
def cAt (l:List Op) (c:Op->Bool):Nat:=((l.filter c).map λo=>o.content.length).sum
def YI (l:List Op) (k:Int) (n:Nat):(asJ l k n).length=cAt l λo=>o.kind==k&&o.target==(n:Int):=by
 unfold asJ cAt ofK;rw[List.length_flatMap]
def acA (l:List Op) (c d:Op->Bool) (h:∀o∈l,¬(c o=true/\d o=true)):cAt l c+cAt l d=cAt l λo=>c o||d o:=by
 unfold cAt;induction l with
 |nil=>rfl
 |cons o r ih=>
 have ih:=ih λx hx=>h x (by simp[hx]);have h1:=h o tM;cases hc:c o<;>cases hd:d o<;>simp_all[zp]<;>omega
def adO (l:List Op) (k:Nat):(Vp l k).length<=1+cAt l λo=>decide (3<=o.kind/\o.kind<=6/\o.target=(k:Int)):=by
 have e:(asJ l 3 k).length+(asJ l 6 k).length+(asJ l 4 k).length<=cAt l λo=>decide (3<=o.kind/\o.kind<=6/\o.target=(k:Int)):=by
  rw[YI,YI,YI,acA,acA]
  ·unfold cAt;induction l with
   |nil=>simp
   |cons o r ih=>
   simp only[zp];split
   ·rename_i h;rw[P8 (by simp at h ⊢;omega)];simp only[Rj,YQ];omega
   split
   ·simp only[Rj,YQ];omega
   exact ih
  ·intro o _;simp;omega
  intro o _;simp;omega
 generalize (cAt l λo=>decide (3<=o.kind/\o.kind<=6/\o.target=(k:Int)))=C at *;unfold Vp;simp only[ko,Yx];split
 ·rw[Yx];omega
 split
 ·simp only[Rm];omega
 simp only[gL,Rm];omega
theorem j9 (l:List Op):∀ks:List Nat,ks.Nodup->(ks.flatMap (Vp l)).length<=ks.length+cAt l λo=>decide (3<=o.kind/\o.kind<=6)&&ks.any λk=>decide (o.target=(k:Int))
 |[],_=>by simp
 |k::r,h=>by
  have ih:=j9 l r (WQ.1 h).2;have h1:=adO l k;have h2:=acA l (λo=>decide (3<=o.kind/\o.kind<=6/\o.target=(k:Int))) (λo=>decide (3<=o.kind/\o.kind<=6)&&r.any λk=>decide (o.target=(k:Int))) (by
   rintro o _ ⟨e1,e2⟩;simp only[dj,QH,Z2] at e1 e2;obtain⟨_,k',vy,e3⟩:=e2;have:k=k':=sf;subst this;exact(WQ.1 h).1 vy)
  have h3:(cAt l λo=>decide (3<=o.kind/\o.kind<=6/\o.target=(k:Int))||(decide (3<=o.kind/\o.kind<=6)&&r.any λk=>decide (o.target=(k:Int))))=cAt l λo=>decide (3<=o.kind/\o.kind<=6)&&(k::r).any λk=>decide (o.target=(k:Int)):=by
   congr 1;funext o;rw[List.any_cons];by_cases q1:3<=o.kind/\o.kind<=6
   ·simp[q1]
   have e1:decide (3<=o.kind/\o.kind<=6)=false:=Uy q1;have e2:decide (3<=o.kind/\o.kind<=6/\o.target=(k:Int))=false:=Uy λh=>q1 ⟨h.1,h.2.1⟩;rw[e1,e2];rfl
  simp only[VQ,ko,gL];omega

def Zo {s:Bs} (h:plain s=true):s.length<=40:=by unfold plain at h;simp at h;omega
def Zp {s:Bs} (h:named s=true):1<=s.length/\s.length<=8:=by unfold named at h;simp at h;omega
theorem abS:∀{az:List Attr},(∀a∈az,named a.name=true/\plain a.val=true)->dX az<=49*az.length
 |[],_=>by simp[dX]
 |a::r,h=>by
  have h1:=h a tM;have h2:=abS (az:=r) λx hx=>h x (by simp[hx]);have:=Zp h1.1;have:=Zo h1.2;simp only[dX,Attr.wt,gL];omega
mutual
theorem ade:∀x:Tree,x.fu=true->x.wt<=240*x.jz
 | .mk t s az ks,h=>by
  simp only[Tree.fu] at h;simp only[Tree.wt,Tree.jz];cases t with
  |true=>
   simp only[Rc,QH,S',Rg] at h;obtain⟨h1,_,rfl,rfl⟩:=h;have:=Zo h1;simp[dX,dE,dP];omega
  |false=>
  simp only[jy,nX,QH] at h;obtain⟨h1,h2,h3⟩:=h;have h4:=Zp h1;obtain⟨g1,g2,g3⟩:=(iM az).1 h2;have h5:=abS g1;have h6:=aal none ks h3;omega
theorem aal:∀(p:Option Bool) (ks:List Tree),bQ p ks=true->dE ks<=240*dP ks
 |_,[],_=>by simp[dE]
 |p,x::r,h=>by
  simp only[bQ,QH] at h;have h1:=ade x h.1;have h2:=aal _ r h.2.2;simp only[dE,dP];omega
end
def acC {l:List Tree} (h:content l=true):dE l<=19200:=by
 unfold content at h;simp only[QH,dj] at h;have:=aal none l h.2.2;have:=h.2.1;omega
structure ae4 (t:Tree) (o:Op):Prop where
 ex:∃n q y,Sub 0 (-1) t n q y/\o.target=(n:Int)/\XS (y.node n q) o=0
 k1:1<=o.kind
 k10:o.kind<=10
theorem abT:∀{pre l:List Op},WM pre l=false->l.Pairwise (λa b=>as3 b a=false)/\∀a∈l,∀b∈pre,as3 a b=false
 |pre,[],_=>by simp
 |pre,a::r,h=>by
  simp only[WM,EI] at h;obtain⟨h1,h2⟩:=abT h.2;have h3:∀b∈pre,as3 a b=false:=λb hb=>by simpa using N6.1 h.1 b hb
  refine⟨XB.2 ⟨λb hb=>h2 b hb a tM,h1⟩,λx hx b hb=> ?_⟩;rcases PY.1 hx with rfl|hx
  ·exact h3 b hb
  exact h2 x hx b (by simp[hb])
theorem abU:∀{pre l:List Op},l.Pairwise (λa b=>as3 b a=false)->(∀a∈l,∀b∈pre,as3 a b=false)->WM pre l=false
 |pre,[],_,_=>rfl
 |pre,a::r,h,h2=>by
  rw[XB] at h;simp only[WM,EI];refine⟨N6.2 λb hb=>by simp[h2 a tM b hb],abU h.2 λx hx b hb=> ?_⟩;rcases QL.1 hb with hb|hb
  ·exact h2 x (by simp[hx]) b hb
  simp only[bY] at hb;subst hb;exact h.1 x hx
def abc {d:Doc} {o:Op} (h:U5 d o=0):Vo d=true/\1<=o.kind/\o.kind<=10/\0<=o.target/\∃x,d[o.target.toNat]?=some x/\XS x o=0:=by
 unfold U5 at h;split at h
 ·rename_i hd;split at h
  ·omega
  split at h
  ·omega
  split at h
  ·rename_i x hx;exact⟨hd,sf,sf,sf,x,hx,h⟩
  omega
 omega
def abV {t:Tree} (ht:t.d_=true) (o:Op):U5 (lW t) o=0↔ae4 t o:=by
 constructor
 ·intro h;obtain⟨_,k1,k10,h0,x,hx,hw⟩:=abc h;obtain⟨q,y,hl,hs⟩:=ZR (yY.1 hx).1;have:x=y.node o.target.toNat q:=by rw[hl.node] at hx;exact(Xy hx).symm
  subst this;exact⟨⟨_,q,y,hs,sf,hw⟩,k1,k10⟩
 rintro⟨⟨n,q,y,hs,ht',hw⟩,k1,k10⟩;have hl:=hs.Gv (lW t) ⟨[],aa'⟩;have bI:=(yY.1 hl.node).1;unfold U5;rw[P8 (Yj ht),Ev sf,Ev sf,ht',Qj,hl.node];exact hw
def aan {t:Tree} {l:List Op} (ht:t.d_=true):VU (lW t) l=0↔(∀o∈l,ae4 t o)/\l.length<=20/\l.Pairwise (λa b=>as3 b a=false):=by
 unfold VU;rw[P8 (Yj ht)];constructor
 ·intro h;split at h
  ·omega
  rename_i hl;split at h
  ·rename_i o ho;have:=List.find?_some ho;rw[h] at this;simp at this
  rename_i ho;split at h
  ·omega
  rename_i htw;rw[YF] at ho;exact⟨λo hm=>(abV ht o).1 (by simpa using ho o hm),sf,(abT (by simpa using htw)).1⟩
 rintro⟨h1,h2,h3⟩;rw[Ev sf,YF.2 λo ho=>by simp[(abV ht o).2 (h1 o ho)]];simp only;rw[abU h3 tM];rfl

mutual
theorem aap:∀x:Tree,x.dep<=x.jz
 | .mk _ _ _ ks=>by have:=ZC ks;simp only[Tree.dep,Tree.jz];omega
theorem ZC:∀xs:List Tree,fB xs<=dP xs
 |[]=>by simp[fB]
 |x::r=>by have:=aap x;have:=ZC r;simp only[fB,dP];omega
end
def Yc (t:Tree) (l:List Op):Tree:= .mk (t.V5 l 0).text (t.V5 l 0).s (t.V5 l 0).attrs (Wf (t.V5 l 0).kids)
noncomputable def XU (d:Doc) (l:List Op):Doc×Int:=
 if VU d l=0 then(let x:=Yc (uG d d.length 0) l;if x.d_=true then(lW x,0) else(d,2)) else(d,VU d l)
def abY {t:Tree} (ht:t.d_=true):uG (lW t) (lW t).length 0=t:=by
 refine Zw _ 0 (-1) t (.self _ _ _) ?_;have:=t.uE;rw[pf];exact aap t
def aaq {t:Tree} (ht:t.d_=true) {l:List Op} (h:VU (lW t) l=0):XU (lW t) l=if(Yc t l).d_=true then(lW (Yc t l),0) else(lW t,2):=by
 unfold XU;rw[P8 h,abY ht]
section
variable {P:Program} {G:Nat->Option (List IV)}
end

structure W1 (l l':List Op):Prop where
 k:∀k n,ofK l' k n=ofK l k n
 a:∀n az,l_ az=true->Vb l' n az=Vb l n az
def abZ {x:Tree} (h:x.fu=true):l_ x.attrs=true:=by
 cases hT:x.text with
 |true=>rw[(Tree.Zg h hT).2.1];rfl
 |false=>
 rw[Tree.Pa x hT] at h;simp only[QH] at h;exact((iM x.attrs).1 h.2.1).2.1
section
variable {l l':List Op} (h:W1 l l')
include h
def W1.asJ (k:Int) (n:Nat):asJ l' k n=Am.asJ l k n:=by unfold Am.asJ;rw[h.k]
def W1.VA (k:Int) (n:Nat):VA l' k n=Am.VA l k n:=by unfold Am.VA;rw[h.k]
def W1.Wi (n:Nat) (s:Bs):Wi l' n s=Am.Wi l n s:=by unfold Am.Wi;rw[h.k]
def W1.Wr (n:Nat) (s:Bs):Wr l' n s=Am.Wr l n s:=by unfold Am.Wr;rw[h.k]
end
mutual
theorem W1.YL {l l':List Op} (h:W1 l l'):∀(x:Tree) (off:Nat),x.fu=true->x.YL l' off=x.YL l off
 | .mk t s az ks,off,hf=>by
  have h1:=W1.turns h ks (off+1) λx hx=>pg (Tree.vH hf) x hx;have h2:=h.a off az (abZ hf);simp only[Tree.YL,h.asJ,h.VA,h.Wi,h.Wr,h1,h2]
theorem W1.turns {l l':List Op} (h:W1 l l'):∀(xs:List Tree) (off:Nat),(∀x∈xs,x.fu=true)->turns l' off xs=turns l off xs
 |[],_,_=>by simp[Am.turns]
 |x::r,off,hf=>by simp only[Am.turns,W1.YL h x off (hf x tM),W1.turns h r (off+x.jz) λz hz=>hf z (by simp[hz])]
end
def W1.V5 {l l':List Op} (h:W1 l l') {x:Tree} (hf:x.fu=true) (off:Nat):x.V5 l' off=x.V5 l off:=by
 have h1:=W1.turns h x.kids (off+1) λz hz=>pg (Tree.vH hf) z hz;have h2:=h.a off x.attrs (abZ hf);unfold Tree.V5;simp only[h.asJ,h.VA,h.Wi,h.Wr,h1,h2]
end Go.Am

set_option maxRecDepth 20000
namespace Go.Am
open Go Go.RowKit
def ahb (l:List Op):Prop:=l.length<=2^22/\∀o∈l,dE o.content<=2^22/\o.name.length<=2^22/\o.s.length<=2^22
section
variable {P:Program} {G:Nat->Option (List IV)}

def VG (ai6 akR:Nat) (sz bz:Nat) (z:List AV):AC:=
(.seq (.cq [⟨some 6,none,.iC (.c .nil0)⟩]) (.gh (.J6) (.seq (.cq [⟨some 10,none,.iC (.t 0)⟩,⟨some 11,none,.iC (.t 1)⟩,⟨some 12,none,.zr (.t 10) (some (.t 11)) none none sz⟩]) (.seq (.cq [⟨some 13,none,.iC (.t 2)⟩,⟨some 14,none,.len (.t 13)⟩,⟨some 7,none,.iC (.t 14)⟩]) (.seq (.seq (.cq [⟨some 15,none,.iC (.t 7)⟩,⟨some 16,none,.bin .eql (.t 15) (.c (.int .i64 0))⟩]) (.cond (.t 16) (.seq (.cq [⟨some 17,none,.iC (.t 0)⟩,⟨some 6,none,.iC (.t 17)⟩]) .ret) .skip)) (.seq (.cq [⟨some 18,none,.iC (.t 0)⟩,⟨some 19,none,.len (.t 18)⟩,⟨some 8,none,.iC (.t 19)⟩]) (.seq (.seq (.cq [⟨some 20,none,.iC (.t 1)⟩,⟨some 21,none,.iC (.t 8)⟩,⟨some 22,none,.bin .eql (.t 20) (.t 21)⟩]) (.cond (.t 22) (.seq (.cq [⟨some 23,none,.iC (.t 0)⟩,⟨some 24,none,.iC (.t 2)⟩,⟨some 25,none,.app (.t 23) (.t 24) sz bz⟩,⟨some 6,none,.iC (.t 25)⟩]) .ret) .skip)) (.seq (.seq (.cq [⟨some 26,none,.iC (.t 8)⟩,⟨some 27,none,.iC (.t 7)⟩,⟨some 28,none,.bin .add (.t 26) (.t 27)⟩,⟨some 29,none,.iC (.t 0)⟩,⟨some 30,none,.cap (.t 29)⟩,⟨some 31,none,.bin .gtr (.t 28) (.t 30)⟩]) (.cond (.t 31) (.seq (.cq [⟨some 32,none,.iC (.t 0)⟩,⟨some 33,none,.iC (.t 1)⟩,⟨some 34,none,.zr (.t 32) none (some (.t 33)) none sz⟩,⟨some 35,none,.iC (.t 8)⟩,⟨some 36,none,.iC (.t 7)⟩,⟨some 37,none,.bin .add (.t 35) (.t 36)⟩,⟨some 38,none,.iC (.t 1)⟩,⟨some 39,none,.bin .sub (.t 37) (.t 38)⟩,⟨some 40,none,.pP (.t 34) (.t 39) sz bz z⟩,⟨some 9,none,.iC (.t 40)⟩]) (.seq (.cq [⟨some 41,none,.iC (.t 9)⟩,⟨some 42,none,.iC (.t 1)⟩,⟨some 43,none,.zr (.t 41) (some (.t 42)) none none sz⟩,⟨some 44,none,.iC (.t 2)⟩,⟨some 45,none,.qL (.t 43) (.t 44) sz⟩]) (.seq (.VL [⟨some 46,none,.iC (.t 9)⟩,⟨some 47,none,.iC (.t 1)⟩,⟨some 48,none,.iC (.t 7)⟩,⟨some 49,none,.bin .add (.t 47) (.t 48)⟩,⟨some 50,none,.zr (.t 46) (some (.t 49)) none none sz⟩,⟨some 51,none,.iC (.t 0)⟩,⟨some 52,none,.iC (.t 1)⟩,⟨some 53,none,.zr (.t 51) (some (.t 52)) none none sz⟩,⟨some 54,none,.qL (.t 50) (.t 53) sz⟩] [[],[],[],[1,2],[0,3],[],[],[5,6],[4,7]] [.no,.no,.no,.no,.no,.no,.no,.no,(.rw [(.par 0)] [(.loc 40)])]) (.seq (.cq [⟨some 55,none,.iC (.t 9)⟩,⟨some 6,none,.iC (.t 55)⟩]) .ret)))) .skip)) (.seq (.cq [⟨some 56,none,.iC (.t 0)⟩,⟨some 57,none,.iC (.t 8)⟩,⟨some 58,none,.iC (.t 7)⟩,⟨some 59,none,.bin .add (.t 57) (.t 58)⟩,⟨some 60,none,.zr (.t 56) none (some (.t 59)) none sz⟩,⟨some 0,none,.iC (.t 60)⟩]) (.seq (.seq (.cq [⟨some 61,none,.iC (.t 2)⟩,⟨some 62,none,.iC (.t 0)⟩,⟨some 63,none,.iC (.t 1)⟩,⟨some 64,none,.iC (.t 7)⟩,⟨some 65,none,.bin .add (.t 63) (.t 64)⟩,⟨some 66,none,.zr (.t 62) (some (.t 65)) none none sz⟩,⟨some 67,none,.kE ai6 [(.t 61),(.t 66)]⟩,⟨some 68,none,.not (.t 67)⟩]) (.cond (.t 68) (.seq (.VL [⟨some 69,none,.iC (.t 0)⟩,⟨some 70,none,.iC (.t 1)⟩,⟨some 71,none,.iC (.t 7)⟩,⟨some 72,none,.bin .add (.t 70) (.t 71)⟩,⟨some 73,none,.zr (.t 69) (some (.t 72)) none none sz⟩,⟨some 74,none,.iC (.t 0)⟩,⟨some 75,none,.iC (.t 1)⟩,⟨some 76,none,.zr (.t 74) (some (.t 75)) none none sz⟩,⟨some 77,none,.qL (.t 73) (.t 76) sz⟩] [[],[],[],[1,2],[0,3],[],[],[5,6],[4,7]] [.no,.no,.no,.no,.no,.no,.no,.no,(.rw [] [(.par 0)])]) (.seq (.cq [⟨some 78,none,.iC (.t 0)⟩,⟨some 79,none,.iC (.t 1)⟩,⟨some 80,none,.zr (.t 78) (some (.t 79)) none none sz⟩,⟨some 81,none,.iC (.t 2)⟩,⟨some 82,none,.qL (.t 80) (.t 81) sz⟩]) (.seq (.cq [⟨some 83,none,.iC (.t 0)⟩,⟨some 6,none,.iC (.t 83)⟩]) .ret))) .skip)) (.seq (.cq [⟨some 84,none,.iC (.t 0)⟩,⟨some 85,none,.iC (.t 8)⟩,⟨some 86,none,.zr (.t 84) (some (.t 85)) none none sz⟩,⟨some 87,none,.iC (.t 2)⟩,⟨some 88,none,.qL (.t 86) (.t 87) sz⟩]) (.seq (.cq [⟨some 89,none,.iC (.t 0)⟩,⟨some 90,none,.iC (.t 1)⟩,⟨some 91,none,.zr (.t 89) (some (.t 90)) none none sz⟩,⟨some 92,none,.iC (.t 7)⟩,⟨some 93,none,.call akR [(.t 91),(.t 92)]⟩]) (.seq (.cq [⟨some 94,none,.iC (.t 0)⟩,⟨some 6,none,.iC (.t 94)⟩]) .ret)))))))))))))
set_option maxRecDepth 10000 in
def ab0 {gM ai6 akR:Nat} {sz bz:Nat} {z:List AV} (s0:0<sz) (b0:0<bz) (b1:bz<=32) (hF:aw P G gM=some (95,[(none,6)],(VG ai6 akR sz bz z).bare)) (xs vs:List IV) (i:Nat) (hi:i<=xs.length) (hb:xs.length+vs.length<=B)
  (ex:jV sz xs) (fx:Flat xs) (ev:jV sz vs) (fv:Flat vs)
  (hO:∀(N:Nat) (l:Lb) (sz j n c:Nat) (r:Row) (H:Hp),vs≠[]->H l= .live r->0<n->sZ ⟨P,G,N⟩ ai6 [.list vs,.slk l sz j n c] H (.bool false)) :
  tq P G sz gM [.sl (.par 0) sz 0 xs.length,.int .i64 i,.list vs] xs (xs.take i++vs++xs.drop i):=by
 refine Z9 hF tM aae ?_;have zo:B=1073741824:=rfl;have hm:∀m:Nat,m<=B->m*bz<=140737488355328:=λm h=>Nat.le_trans (Nat.mul_le_mul h b1) M3;unfold VG;simp only[↓aX,mX,seval];rw[ad4];refine⟨_,_,_,Z8 (d:=0) (l:= .par 0) (n:=xs.length) (els:=aB xs) rfl (by simp[df]),?_⟩;rintro⟨c,hc1,MH⟩;obtain⟨rest,kI⟩:∃rest,rest=List.replicate (c - (aB xs).length) (List.replicate sz AV.any):=⟨_,rfl⟩;have Jt:rest.length=c - xs.length:=by rw[kI,List.length_replicate,lQ]
 simp only[<-kI];have hz:∀(A D:List (List AV)),D=[]->A++D=A:=λA D h=>by rw[h,List.append_nil]
 have Ms:=lQ xs;have Hl:=lQ vs;have pU:IntKind.i64.wrap ((xs.length:Int)+(vs.length:Int))=((xs.length+vs.length:Nat):Int):=wrap64 sf sf;have wB:IntKind.i64.wrap (((xs.length+vs.length:Nat):Int) - (i:Int))=((xs.length+vs.length - i:Nat):Int):=by rw[wrap64 sf sf];omega
 have Es:IntKind.i64.wrap ((i:Int)+(vs.length:Int))=((i+vs.length:Nat):Int):=wrap64 sf sf;simp only[↓aX,mX,seval,df,Cs,sH,lk,Le,hi,Option.isSome_none,Int.natCast_nonneg,Int.toNat_natCast,and_self,true_and,Nat.zero_le,Nat.sub_zero];by_cases tY:vs.length=0
 ·have Gc:vs=[]:=List.length_eq_zero_iff.1 tY;rw[show(((vs.length:Nat):Int)==0)=true by simp[tY]];subst Gc;simp only[↓aX,mX,seval,List.append_nil,List.take_append_drop,YT];exact⟨.par 0,c,rest,.inr rfl,tM⟩
 rw[show(((vs.length:Nat):Int)==0)=false by simpa using tY];simp only[↓aX,mX,seval];have Iz:vs≠[]:=λe=>tY (by rw[e];rfl);by_cases qB:i=xs.length
 ·rw[show(((i:Nat):Int)==((xs.length:Nat):Int))=true by simp[qB]];simp only[↓aX,mX,seval];by_cases zD:xs.length+vs.length<=c
  ·rw[acp (els:=aB xs++rest) tM aak ev fv b0 tM zD aak];simp only[↓aX,mX,seval,YT];refine⟨.par 0,c,(aB xs++rest).drop (xs.length+vs.length),.inr ?_,?_⟩
   ·simp[qB]
   simp only[ae,if_true,Slot.live.injEq,Row.mk.injEq,true_and];rw[qB,List.take_of_length_le (Nat.le_refl _),List.drop_of_length_le (Nat.le_refl _),List.append_nil,Yp (Nat.le_refl _),List.take_of_length_le (Nat.le_refl _),lR]
  rw[abv (els:=aB xs++rest) tM aak ev fv b0 tM sf (hm _ sf) (by simp[Hp.none,ae])];simp only[↓aX,mX,seval,YT];subst qB;refine⟨.loc 25,0,[],tM,?_⟩;simp only[ae,if_true,Slot.live.injEq,Row.mk.injEq,true_and];rw[List.take_of_length_le (Nat.le_refl _),List.drop_of_length_le (Nat.le_refl _),List.append_nil,Yp (Nat.le_refl _),List.take_of_length_le (Nat.le_refl _)];simp[aB]
 rw[show(((i:Nat):Int)==((xs.length:Nat):Int))=false by simp;omega];simp only[↓aX,mX,seval,pU,ad6];intro _;have GN:aB (xs.take i)++aB vs++aB (xs.drop i)=aB (xs.take i++vs++xs.drop i):=by rw[lR,lR]
 have hlen:(xs.take i++vs++xs.drop i).length=xs.length+vs.length:=aak
 rw[hlen];have su:=lQ (xs.take i);rw[List.length_take,Nat.min_eq_left hi] at su;have hdi:=lQ (xs.drop i);rw[List.length_drop] at hdi;by_cases zD:c<xs.length+vs.length
 ·rw[show decide (((xs.length+vs.length:Nat):Int)>(c:Int))=true by simp;omega];simp only[↓aX,mX,seval,Cs,sH,lk,Le,hi,Option.isSome_none,Int.natCast_nonneg,Int.toNat_natCast,and_self,true_and,Nat.zero_le,Nat.sub_zero,pU,wB,show i<=c by omega];obtain⟨k,hk⟩:∃k,k=xs.length+vs.length - i:=⟨_,rfl⟩;rw[<-hk];have hik:i+k=xs.length+vs.length:=by omega
  rw[aeJ (els:=aB xs++rest) tM aak sf (hm _ sf) (by simp[Hp.none,ae]),Yp hi,hik];simp only[↓aX,mX,seval,Cs,nB,lk,Le,hi,Option.isSome_none,Int.natCast_nonneg,Int.toNat_natCast,and_self,true_and,Nat.zero_le,Nat.sub_zero,show i<=xs.length+vs.length by omega,Nat.zero_add,<-hk];rw[aa5 (news:=aB vs) (l:= .loc 40) (i:=i) (n:=k) (els:=aB (xs.take i)++List.replicate k z) (m:=vs.length) (o7 ev) rfl tM aak (by rw[Hl];exact(Nat.min_eq_left sf).symm) (λcs bV=>fv.one cs (List.mem_of_mem_take bV))];rw[List.take_left' su,List.take_of_length_le (Nat.le_of_eq Hl)];simp only[↓aX,mX,seval,Cs,nB,sH,lk,Le,hi,Option.isSome_none,Int.natCast_nonneg,Int.toNat_natCast,and_self,true_and,Nat.zero_le,Nat.sub_zero,show i+vs.length<=xs.length+vs.length by omega,Nat.zero_add,Es];refine⟨rfl,?_⟩;rw[aa5 (news:=aB (xs.drop i)) (l:= .loc 40) (i:=i+vs.length) (n:=xs.length+vs.length - (i+vs.length)) (els:=aB (xs.take i)++aB vs++(aB (xs.take i)++List.replicate k z).drop (i+vs.length)) (m:=xs.length - i)]
  ·simp only[↓aX,mX,seval,YT,eP,Lb.iQ];refine⟨.loc 40,0,[],tM,?_⟩;simp only[ae,if_true,Slot.live.injEq,Row.mk.injEq,true_and,List.append_nil];rw[<-GN,List.take_left' aak,List.take_of_length_le (Nat.le_of_eq hdi)];exact hz _ _ (List.drop_of_length_le aak)
  ·simp only[al_,ae,reduceCtorEq,if_false,if_true,true_and];rw[if_pos aak];congr 1;rw[Z' sf];congr 1;exact List.take_of_length_le tM
  ·rfl
  ·simp
  ·simp;omega
  ·rw[hdi];exact(Nat.min_eq_left sf).symm
  exactλcs bV=>(Flat.one (λy hy=>fx y (List.mem_of_mem_drop hy)):∀cs∈aB (xs.drop i),AV.oJ cs) cs (List.mem_of_mem_take bV)
 rw[show decide (((xs.length+vs.length:Nat):Int)>(c:Int))=false by simp;omega];simp only[↓aX,mX,seval,Cs,sH,lk,Le,hi,Option.isSome_none,Int.natCast_nonneg,Int.toNat_natCast,and_self,true_and,Nat.zero_le,Nat.sub_zero,pU,Es,show xs.length+vs.length<=c by omega,show i+vs.length<=xs.length+vs.length by omega,Nat.zero_add];refine DZ (hO _ (.par 0) _ _ _ _ ⟨sz,aB xs++rest⟩ _ Iz tM sf) ?_;simp only[↓aX,mX,seval,Cs,sH,lk,Le,hi,Option.isSome_none,Int.natCast_nonneg,Int.toNat_natCast,and_self,true_and,Nat.zero_le,Nat.sub_zero,pU,Es,show i<=xs.length+vs.length by omega,show i+vs.length<=xs.length+vs.length by omega,Nat.zero_add];refine⟨rfl,?_⟩;have hn:(((aB xs++rest).drop i).take (xs.length+vs.length - i)).take (xs.length - i)=aB (xs.drop i):=by rw[List.take_take,Nat.min_eq_left sf,Z' sf,List.take_of_length_le tM]
 have fd:∀cs∈aB (xs.drop i),AV.oJ cs:=Flat.one λy hy=>fx y (List.mem_of_mem_drop hy);rw[aa5 (news:=((aB xs++rest).drop i).take (xs.length+vs.length - i)) (l:= .par 0) (i:=i+vs.length) (n:=xs.length+vs.length - (i+vs.length)) (els:=aB xs++rest) (m:=xs.length - i)
  (by simp only[al_,ae,if_true,true_and];rw[if_pos aak]) rfl tM aak (by rw[List.length_take,List.length_drop,List.length_append,Ms,Jt];show _=min _ _;omega) (by rw[hn];exact fd)]
 rw[hn];simp only[↓aX,mX,seval,eP,Lb.iQ,Cs,sH,lk,Le,Option.isSome_none,Int.natCast_nonneg,Int.toNat_natCast,and_self,true_and,Nat.zero_le,Nat.sub_zero,show i<=xs.length+vs.length by omega,Nat.zero_add];rw[aa5 (news:=aB vs) (l:= .par 0) (i:=i) (n:=xs.length+vs.length - i) (els:=(aB xs++rest).take (i+vs.length)++aB (xs.drop i)++(aB xs++rest).drop (i+vs.length+(xs.length - i))) (m:=vs.length)
  (o7 ev) rfl tM aak (by rw[Hl];exact(Nat.min_eq_left sf).symm) (λcs bV=>fv.one cs (List.mem_of_mem_take bV))]
 simp only[↓aX,mX,seval,YT,or_true,true_and];refine⟨.par 0,c,(aB xs++rest).drop (xs.length+vs.length),.inr rfl,?_⟩;simp only[ae,if_true,Slot.live.injEq,Row.mk.injEq,true_and];have h1:((aB xs++rest).take (i+vs.length)).length=i+vs.length:=by rw[List.length_take,List.length_append,Ms,Jt];omega
 have e1:i+vs.length+(xs.length - i)=xs.length+vs.length:=sf
 have e2:((aB xs++rest).take (i+vs.length)++aB (xs.drop i)++(aB xs++rest).drop (xs.length+vs.length)).take i=aB (xs.take i):=by
  rw[List.append_assoc,List.take_append_of_le_length sf,List.take_take,Nat.min_eq_left sf,Yp hi]
 have e3:((aB xs++rest).take (i+vs.length)++aB (xs.drop i)++(aB xs++rest).drop (xs.length+vs.length)).drop (i+vs.length)=aB (xs.drop i)++(aB xs++rest).drop (xs.length+vs.length):=by
  rw[List.append_assoc,List.drop_left' h1]
 rw[e1,e2,e3,<-GN,List.take_of_length_le (Nat.le_of_eq Hl)];simp only[List.append_assoc]
def VH (sz bz:Nat) (z:List AV):AC:=
(.seq (.cq [⟨some 6,none,.iC (.c .nil0)⟩]) (.gh (.J6) (.seq (.cq [⟨some 8,none,.iC (.t 0)⟩,⟨some 9,none,.iC (.t 1)⟩,⟨some 10,none,.iC (.t 2)⟩,⟨some 11,none,.iC (.t 0)⟩,⟨some 12,none,.len (.t 11)⟩,⟨some 13,none,.zr (.t 8) (some (.t 9)) (some (.t 10)) (some (.t 12)) sz⟩]) (.seq (.seq (.cq [⟨some 14,none,.iC (.t 1)⟩,⟨some 15,none,.iC (.t 2)⟩,⟨some 16,none,.bin .eql (.t 14) (.t 15)⟩]) (.cond (.t 16) (.seq (.cq [⟨some 17,none,.iC (.t 0)⟩,⟨some 6,none,.iC (.t 17)⟩]) .ret) .skip)) (.seq (.cq [⟨some 18,none,.iC (.t 0)⟩,⟨some 19,none,.len (.t 18)⟩,⟨some 7,none,.iC (.t 19)⟩]) (.seq (.VL [⟨some 20,none,.iC (.t 0)⟩,⟨some 21,none,.iC (.t 1)⟩,⟨some 22,none,.zr (.t 20) none (some (.t 21)) none sz⟩,⟨some 23,none,.iC (.t 0)⟩,⟨some 24,none,.iC (.t 2)⟩,⟨some 25,none,.zr (.t 23) (some (.t 24)) none none sz⟩,⟨some 26,none,.app (.t 22) (.t 25) sz bz⟩,⟨some 0,none,.iC (.t 26)⟩] [[],[],[0,1],[],[],[3,4],[2,5],[6,6,0,1,2,3,4,5,6]] [.no,.no,.no,.no,.no,.no,(.rw [] [(.par 0),(.loc 26)]),.no]) (.seq (.cq [⟨some 27,none,.iC (.t 0)⟩,⟨some 28,none,.iC (.t 0)⟩,⟨some 29,none,.len (.t 28)⟩,⟨some 30,none,.iC (.t 7)⟩,⟨some 31,none,.zr (.t 27) (some (.t 29)) (some (.t 30)) none sz⟩,⟨none,none,.si (.t 31) sz z⟩]) (.seq (.cq [⟨some 32,none,.iC (.t 0)⟩,⟨some 6,none,.iC (.t 32)⟩]) .ret))))))))
def VJ (fo fr:Nat):AC:=VG fo fr 1 8 [.int .i64 0]
def afa {f fo fr:Nat} (hF:aw P G f=some (95,[(none,6)],(VJ fo fr).bare)) (xs vs:List IV) (i:Nat) (hi:i<=xs.length) (hb:xs.length+vs.length<=B)
  (ex:jV 1 xs) (fx:Flat xs) (ev:jV 1 vs) (fv:Flat vs)
  (hO:∀(N:Nat) (l:Lb) (sz j n c:Nat) (r:Row) (H:Hp),vs≠[]->H l= .live r->0<n->sZ ⟨P,G,N⟩ fo [.list vs,.slk l sz j n c] H (.bool false)) :
  tq P G 1 f [.sl (.par 0) 1 0 xs.length,.int .i64 i,.list vs] xs (xs.take i++vs++xs.drop i):=
 ab0 M3 M3 M3 hF xs vs i hi hb ex fx ev fv hO
def VK:AC:=VH 1 8 [.int .i64 0]
def Vx (fo fr:Nat):AC:=VG fo fr 2 32 [.str [],.str []]
def Vy:AC:=VH 2 32 [.str [],.str []]
end

section
variable {P:Program} {G:Nat->Option (List IV)}
def ah_ {gM ai6 akR:Nat} (hF:aw P G gM=some (95,[(none,6)],(VJ ai6 akR).bare))
  (hO:∀(N:Nat) (vs:List IV) (l:Lb) (sz j n c:Nat) (r:Row) (H:Hp),vs≠[]->H l= .live r->0<n->sZ ⟨P,G,N⟩ ai6 [.list vs,.slk l sz j n c] H (.bool false)):agY P G gM:=by
 intro xs vs i hi hb;have h:=afa hF (xs.map xX) (vs.map xX) i (by simpa using hi) (by simpa using hb) (YN _) (XD _) (YN _) (XD _) (λN l sz j n c r H h1 h2 h3=>hO N _ l sz j n c r H h1 h2 h3);rw[G_] at h;simpa only[BG,JD,Ny] using h
structure ChF (P:Program) (G:Nat->Option (List IV)) where
 akN:Nat
 asw:Nat
 ak3:Nat
 akT:Nat
 asX:Nat
 asF:Nat
 hQ:Nat
 akI:Nat
 akQ:Nat
 kX:Nat
 ej:Nat
 mU:Nat
 pr:Nat
 asx:Nat
 asz:Nat
 c7:Nat
 akK:Nat
 gM:Nat
 gN:Nat
 WW:Nat
 asH:Nat
 l5:Nat
 akM:Nat
 cC:Nat
 a6:Nat
 iJ:Nat
 l4:Nat
 ai6:Nat
 Vh:Nat
 akR:Nat
 Vz:Nat
 bq:Nat
 Vd:Nat
 No:Nat
 Vs:Nat
 Oo:Nat
 nq:Nat
 Vj:Nat
 afe:aw P G akN=some (100,[((some (some 1)),4),(none,5)],(VV asw iJ l4 akQ kX c7 nq Vj).bare)
 aff:aw P G asw=some (42,[(none,4)],(W9 Vd ak3 asF hQ).bare)
 acT:aw P G ak3=some (37,[(none,4)],(Xo Vd akT).bare)
 afg:aw P G akT=some (107,[(none,4)],(Wy No Vs Oo).bare)
 ab2:aw P G asX=some (54,[(none,4)],WA.bare)
 adg:aw P G asF=some (7,[(none,3)],(WB asX).bare)
 aaS:aw P G hQ=some (9,[(none,4)],(Vr akI).bare)
 adh:aw P G akI=some (19,[(none,4)],VF.bare)
 afh:aw P G akQ=some (17,[(none,4)],W7.bare)
 hDo:aw P G kX=some (194,[],(fO ej pr gN asx asz).bare)
 BC:aw P G ej=some (43,[],(VX mU gM).bare)
 hAdd:aw P G mU=some (58,[(none,6)],(VT iJ mU).bare)
 afi:aw P G pr=some (26,[(none,4),(none,5)],(V1 akM).bare)
 afj:aw P G asx=some (35,[],(V2 ej).bare)
 agy:aw P G asz=some (77,[],(V7 l5 akK asH WW).bare)
 agz:aw P G c7=some (40,[((some (some 4)),4)],(Vu c7).bare)
 afk:aw P G akK=some (9,[(none,4)],(VW cC).bare)
 agA:aw P G gM=some (95,[(none,6)],(VJ ai6 akR).bare)
 agB:aw P G gN=some (33,[(none,6)],VK.bare)
 agC:aw P G WW=some (95,[(none,6)],(Vx Vh Vz).bare)
 agD:aw P G asH=some (33,[(none,6)],Vy.bare)
 adi:aw P G l5=some (49,[(none,6),(none,7)],asS.bare)
 afl:aw P G akM=some (19,[(none,4)],VP.bare)
 y5:aw P G cC=some (8,[(none,4)],(fI a6).bare)
 aid:aw P G a6=some (8,[(none,4)],(cB bq).bare)
 Y5:aw P G iJ=some (8,[(none,2)],U8.bare)
 adj:aw P G l4=some (8,[(none,2)],Wd.bare)
 oI:∀(N:Nat) (vs:List IV) (l:Lb) (sz j n c:Nat) (r:Row) (H:Hp),vs≠[]->H l= .live r->0<n->sZ ⟨P,G,N⟩ ai6 [.list vs,.slk l sz j n c] H (.bool false)
 oA:∀(N:Nat) (vs:List IV) (l:Lb) (sz j n c:Nat) (r:Row) (H:Hp),vs≠[]->H l= .live r->0<n->sZ ⟨P,G,N⟩ Vh [.list vs,.slk l sz j n c] H (.bool false)
 aie:∀(N:Nat) (s t:Bs) (H:Hp),sZ ⟨P,G,N⟩ bq [.str s,.str t] H (.int .i64 (Lib.compareBytes s t))
 afm:fU P akK=true
 adk:fU P asF=true
 aaH:∀d:Doc,zn d<=B->au P G Vd [Doc.av d] (.bool (Vo d))
 Y6:∀l:List Tree,dE l<=B->au P G No [.list (dq l)] (.bool (content l))
 afn:∀s:Bs,s.length<=B->au P G Vs [.str s] (.bool (named s))
 afo:∀s:Bs,s.length<=B->au P G Oo [.str s] (.bool (plain s))
 adl:∀l:List Tree,dE l<=B->au P G nq [.list (dq l)] (.list (dq (Wf l)))
 acU:∀x:Tree,x.wt<=B->au P G Vj [x.av] (.gf [Doc.av (Wo x).1,.int .i64 (Wo x).2])
namespace ChF
variable (c:ChF P G)
def xW (d:Doc) (hd:zn d<=B) (o:Op) (ho:dE o.content<=B/\o.name.length<=B/\o.s.length<=B):au P G c.ak3 [Doc.av d,o.av] (.int .i64 (U5 d o)):=
 abN c.acT d o (c.aaH d hd) λx k1 k10=>ag7 c.afg x o k1 k10 (c.Y6 _ ho.1) (c.afn _ ho.2.1) (c.afo _ ho.2.2)
end ChF
end
end Go.Am
