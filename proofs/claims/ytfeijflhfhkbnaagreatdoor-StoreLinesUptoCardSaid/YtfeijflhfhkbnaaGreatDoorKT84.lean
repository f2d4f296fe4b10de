import Derived.Test.YtfeijflhfhkbnaaGreatDoorKAm40
import Derived.Test.YtfeijflhfhkbnaaGreatDoorKAm34
import Derived.Test.YtfeijflhfhkbnaaGreatDoorKT60
import Derived.Test.YtfeijflhfhkbnaaGreatDoorKT21
import Derived.Test.YtfeijflhfhkbnaaGreatDoorKAm47
set_option linter.all false
/- The bench: where a node stands; one tree more. -/
namespace Go.Am
open Go Go.RowKit
def Va {n0 i:Nat} {lab:Nat->Lb} {x:Node} (h:i<n0):NI n0 lab i x=[.bool x.text,.str x.s,.sl (lab (4+2*i)) 2 0 x.attrs.length,.int .i64 x.parent,.sl (lab (5+2*i)) 1 0 x.kids.length]:=by simp[NI,h]
def aaa {n0 i:Nat} {lab:Nat->Lb} {x:Node} (h:n0<=i):NI n0 lab i x=[.bool x.text,.str x.s,.list (cD x.attrs),.int .i64 x.parent,.list (x.kids.map xX)]:=by simp[NI,Nat.not_lt.2 h]
def Bn.all (b:Bn):List Nat:=List.range (4+2*b.n0)
section
variable {P:Program} {G:Nat->Option (List IV)}
def V1 (akM:Nat):AC:=
(aM [gH 4 0,gH 5 0] (aM [MR 7 0,aQ 8 (.dp (.t 7)),ep 9 8 0,fm 10 9,MR 11 1,jL 12 10 11 5,ep 13 12 3,fm 14 13,MR 6 14] (aM [MR 15 6,MR 16 0,aQ 17 (.dp (.t 16)),ep 18 17 0,fm 19 18,MR 20 6,jL 21 19 20 5,ep 22 21 4,fm 23 22,MR 24 1,aQ 25 (.call akM [(.t 23),(.t 24)]),MR 4 15,MR 5 25] .ret)))
def VT (iJ mU:Nat):AC:=
(aM [zzX 4 1,gH 6 0] (aM [MR 11 0,aQ 12 (.dp (.t 11)),ep 13 12 0,fm 14 13,oy 15 14,MR 7 15] (.seq (.VL [MR 16 0,MR 17 0,aQ 18 (.dp (.t 17)),ep 19 18 0,fm 20 19,ep 21 4 0,fm 22 21,ep 23 4 1,fm 24 23,ep 25 4 2,fm 26 25,aQ 27 (.call iJ [(.t 26)]),MR 28 2,aQ 29 (.sg [(.bool false),(.str []),.nil0,(.int .i64 0),.nil0] [(0,(1,(.t 22))),(1,(1,(.t 24))),(2,(1,(.t 27))),(3,(1,(.t 28)))]),aQ 30 (.lits 1 5 [(.bool false),(.str []),.nil0,(.int .i64 0),.nil0] [(0,(.t 29))]),aQ 31 (.app (.t 20) (.t 30) 5 80),aQ 32 (.dp (.t 16)),ep 33 32 0,gg (.store 1 (.t 33) (.t 31))] [[],[],[1],[2],[3],[],[5],[],[7],[],[9],[10],[],[6,8,11,12],[13],[4,14,11],[0,0,1,2,3,4,5,6,7,8,9,10,11,12,13,14,15],[16,0,1,2,3,4,5,6,7,8,9,10,11,12,13,14,15],[17,15,15,0,1,2,3,4,5,6,7,8,9,10,11,12,13,14,15]] [.no,.no,.no,.no,(.rw [(.par 0)] []),.no,.rw [.loc 4] [],.no,.rw [.loc 4] [],.no,.rw [.loc 4] [],.no,.no,.no,.no,(.rw [] [(.par 1),(.gen 31)]),.no,.no,(.rw [] [(.par 0)])]) (aM [zi 8] (.gh (.own 8 1) (.seq (aM [ep 34 4 3,fm 35 34,oy 36 35,gH 37 0] (.block 0 (.loop (aM [et 38 .lss 37 36] (.seq (.cond (.t 38) .skip (.exit 0)) (.seq (.block 1 (aM [jL 39 35 37 4,gz 40 4 39,aQ 10 (.new [(.bool false),(.str []),.nil0,.nil0]),gg (.store 4 (.t 10) (.t 40))] (.cq [MR 41 8,MR 42 0,gz 43 4 10,MR 44 7,aQ 45 (.call mU [(.t 42),(.t 43),(.t 44)]),aQ 46 (.lits 1 1 [(.int .i64 0)] [(0,(.t 45))]),aQ 47 (.app (.t 41) (.t 46) 1 8),MR 8 47]))) (.cq [eY 48 .add 37 1,MR 37 48]))))))) (.gh (.zS (.loc 8) 8) (aM [MR 49 0,aQ 50 (.dp (.t 49)),ep 51 50 0,fm 52 51,MR 53 7,MR 54 8,jL 55 52 53 5,ep 56 55 4,gg (.store 1 (.t 56) (.t 54))] (aM [MR 57 7,MR 6 57] .ret)))))))))
def Bn.add (b:Bn) (t:Tree) (p:Int):Bn:={b with nodes:=b.nodes++t.flat b.nodes.length p}
def Bn.WK (b:Bn) (t:Tree) (p:Int) (i:Nat):Bn:={b with nodes:=b.nodes++⟨t.text,t.s,t.attrs,p,[]⟩::akX (b.nodes.length+1) b.nodes.length (t.kids.take i)}
def Bn.but (b:Bn) (p:Nat):List Nat:=(List.range (4+2*b.n0)).filter (·≠p)
def Wp {b:Bn} {p q:Nat}:q∈b.but p↔q<4+2*b.n0/\q≠p:=by simp[Bn.but]
def akL (N:Lb):Nat->Lb:=λp=>if p=1 then N else .par p
def Xs {N:Lb} (h:∀p,p≠1->N≠ .par p) {p q:Nat} (e:akL N p=akL N q):p=q:=by
 unfold akL at e;split at e<;>split at e
 ·omega
 ·exact absurd e (h _ sf)
 ·exact absurd e.symm (h _ sf)
 simpa using e
structure UP (t:Tree) where
 i:Nat
 hi:i<=t.kids.length
def abz (b:Bn) (t:Tree) (q:UP t):List (Nat×AV):=
 [(0,.ptr (.par 0) 3 0 0),(7,.int .i64 b.nodes.length),(8,.sl (.loc 8) 1 0 q.i),(35,.list (dq t.kids)),(36,.int .i64 t.kids.length),(37,.int .i64 q.i)]
def Yq (b:Bn) (t:Tree) (q:UP t):List (Lb×Row):=
 [(.loc 8,⟨1,aB ((mw (b.nodes.length+1) (t.kids.take q.i)).map xX)⟩)]
def Ed.Yr {lab:Nat->Lb} {R:uR} {H:Hp} (h:Ed lab R H) {q:Lb} {s:Slot} (hq:∀p,R.ok p->lab p≠q):Ed lab R (bD H q s):=
 ⟨λp r hr=>by rw[aq _ _ (hq p ((R.Ec lab p).1 (by rw[hr];rfl)))];exact h.row p r hr,h.inj⟩
def ahR {mU iJ:Nat} (hF:aw P G mU=some (58,[(none,6)],(VT iJ mU).bare)) (b:Bn) (hn:b.n0<=b.nodes.length) (t:Tree) (p:Int) (hb:b.nodes.length+t.wt<=B)
  (hC:au P G iJ [.list (cD t.attrs)] (.list (cD t.attrs)))
  (hR:∀(b':Bn) (k:Tree),k∈t.kids->b'.n0=b.n0->b.n0<=b'.nodes.length->b'.nodes.length+k.wt<=B->Jg P G mU [.ptr (.par 0) 3 0 0,k.av,.int .i64 b.nodes.length] (Ut b') (b.but 1) λX R2=>X=(λ_=> .int .i64 b'.nodes.length)/\R2=Ut (b'.add k b.nodes.length)) :
  Jg P G mU [.ptr (.par 0) 3 0 0,t.av,.int .i64 p] (Ut b) (b.but 1) λX R2=>X=(λ_=> .int .i64 b.nodes.length)/\R2=Ut (b.add t p):=by
 refine VM hF tM abr ?_;have hA:Oi Lb.par b (Lx (Ut b)):=Xv _;have hU:∀q:Lb,(∀p,p<4+2*b.n0->q≠ .par p)->Lx (Ut b) q= .unused:=λq hq=>Qa _ λp hp e=>hq p (OO.1 hp) e.symm;have h4:Lx (Ut b) (.loc 4)= .unused:=hU _ tM;have h8:Lx (Ut b) (.loc 8)= .unused:=hU _ tM;have hg:Lx (Ut b) (.gen 31)= .unused:=hU _ tM;have MA:=t.gx;have Hm:=eZ t.kids;have zo:B=1073741824:=rfl;unfold VT;simp only[↓aX,mX,seval,Tree.av,hA.s,hA.n,h4,pz];refine⟨rfl,?_⟩;refine jw hC ?_;simp only[↓aX,mX,seval,Tree.av,hA.s,hA.n,h4];rw[s_ (l:= .par 1) (els:=b.nodes.mapIdx (NI b.n0 Lb.par)) (xs:=[.agg [.bool t.text,.str t.s,.list (cD t.attrs),.int .i64 p,.list []]]) (by simp[ae,hA.n]) tM (by simp[jV,IV.cells]) (by simp[Flat,IV.cells]) aak M3 aav (by simp[Lb.app,Lb.fresh,ae,hg])];simp only[↓aX,mX,seval,hA.s,h8,h4];refine⟨by rintro l (rfl|rfl)<;>simp[Lb.iQ],?_⟩;have ahS:∀H2:Hp,H2 (.par 0)= .live ⟨3,[[.sl (.gen 31) 5 0 (b.nodes.length+1),.sl (.par 2) 1 0 b.fs.length,.sl (.par 3) 1 0 b.az.length]]⟩ ->
   H2 (.gen 31)= .live ⟨5,b.nodes.mapIdx (NI b.n0 Lb.par)++[[.bool t.text,.str t.s,.list (cD t.attrs),.int .i64 p,.list []]]⟩->(∀q,q≠ .par 0->q≠ .par 1->q≠ .gen 31->q≠ .loc 4->q≠ .loc 8->H2 q=Lx (Ut b) q) ->
   Oi (akL (.gen 31)) (b.WK t p 0) H2:=by
  intro H2 e0 e1 e2;have:=Oi.push (H2:=λq=>if q= .loc 4\/q= .loc 8 then Lx (Ut b) q else H2 q) hA (y:=⟨t.text,t.s,t.attrs,p,[]⟩) (N:= .gen 31) hn (.inr tM) (by simp[e0]) (by simp[e1]) (by
   intro q g1 g2 g3;by_cases g4:q= .loc 4\/q= .loc 8
   ·simp[g4]
   simp only[g4,nX];exact e2 q g1 g2 g3 (λe=>g4 (.inl e)) (λe=>g4 (.inr e)))
  refine⟨λq r hr=> ?_,this.inj⟩;have h1:=this.row q r hr;have h2:¬(akL (.gen 31) q= .loc 4\/akL (.gen 31) q= .loc 8):=by unfold akL;split<;>simp
  exact(Ev h2).symm.trans h1
 have j4:∀q:UP t,∀p',(Ut (b.WK t p q.i)).ok p'↔p'<4+2*b.n0:=λq p'=>OO;have LS:∀p',p'≠1->Lb.gen 0≠ .par p':=tM
 refine SJ (σ:=UP t) (akL (.gen 0)) (λq=>Ut (b.WK t p q.i)) [.loc 8] (λl=>l== .par 1) (abz b t) (Yq b t) (λq=>t.kids.length - q.i) ⟨0,zd _⟩
  (λq p1 p2 _ _ e=>Xs LS e) (λ_=>rfl) (by simp[akL];intro _ p' _;split<;>simp) ?_ ?_ ?_ ?_
 ·intro q l hl;simp[ah,AV.an,abz] at hl;rcases hl with rfl|rfl
  ·right;exact⟨0,(j4 _ _).2 sf,by simp[akL]⟩
  left;simp
 ·intro q z hz cs bV l hl;simp only[Yq,bY] at hz;subst hz;rw[bU bV] at hl;simp at hl
 ·refine⟨akL (.gen 31),[],?_⟩;have r0:PM (akL (.gen 0)) (akL (.gen 31)) (Ut (b.WK t p 0)) [] (.par 0)= .par 0:=
   On (labC:=akL (.gen 0)) (λp1 p2 _ _ e=>Xs LS e) (p:=0) (OO.2 sf)
  have r8:PM (akL (.gen 0)) (akL (.gen 31)) (Ut (b.WK t p 0)) [] (.loc 8)= .loc 8:=OE (by intro p' _;simp[akL];split<;>simp);refine⟨ahS _ aai (by simp[ae,aB,IV.cells,IV.dQ,P5]) (by intro q g1 g2 g3 g4 g5;simp[ae,g1,g2,g3,g4,g5]),?_,?_,?_,aar,?_,aaY,?_⟩
  ·intro l he hu;cases l with
   |par k=>
    by_cases h1:k=1
    ·subst h1;right;right;rfl
    left;refine⟨k,OO.2 ?_,by simp[akL,h1]⟩;refine V4 λhk=>hu ?_;by_cases h0:k=0
    ·subst h0;exact absurd (by simp[Bn.WK];omega) hk
    simp only[ae,Lb.par.injEq,h0,h1,reduceCtorEq,nX];exact hU _ λp' BT e=>hk (by simp only[Lb.par.injEq] at e;subst e;exact BT)
   |_=>simp[Lb.entry] at he
  ·simp[abz,k_,bJ,put,jP,r0,r8,bF]
  ·intro z hz;simp only[Yq,bY] at hz;subst hz;simp[dn,ae,dy];simp[mw,aB]
  ·intro l hl p' BT;simp only[bY] at hl;subst hl;simp[dn,akL];split<;>simp
  intro p' BT;refine⟨by simp[akL];split<;>simp[Lb.fresh],?_⟩;unfold akL;split<;>simp[Lb.entry]
 intro q;obtain⟨H0,EY⟩:∃H0,H0=Lw (akL (.gen 0)) (Ut (b.WK t p q.i)) (ie (λl=>l== .par 1) (Yq b t q)):=⟨_,rfl⟩;rw[<-EY];have hB:Oi (akL (.gen 0)) (b.WK t p q.i) H0:=by rw[EY];exact Ed.R6 (λp1 p2 _ _ e=>Xs LS e) _
 have hO:∀l:Lb,(∀p',akL (.gen 0) p'≠l)->H0 l=ie (λl=>l== .par 1) (Yq b t q) l:=λl hl=>by rw[EY];exact Qa _ λp' _=>hl p'
 have a8:H0 (.loc 8)= .live ⟨1,aB ((mw (b.nodes.length+1) (t.kids.take q.i)).map xX)⟩:=(hO _ (by intro p';simp[akL];split<;>simp)).trans (by simp[ie,Yq,kl,bD]);have a10:H0 (.loc 10)= .unused:=(hO _ (by intro p';simp[akL];split<;>simp)).trans (by simp[ie,Yq,kl,bD,Hp.none]);have a47:H0 (.loc 47)= .unused:=(hO _ (by intro p';simp[akL];split<;>simp)).trans (by simp[ie,Yq,kl,bD,Hp.none]);have aN:∀l,H0 (NC 9 l)= .unused:=λl=>(hO _ (by intro p';simp[akL,NC];split<;>simp)).trans (by simp[ie,Yq,kl,bD,Hp.none,NC]);have anf:∀k,H0 (.par k)≠ .unused->k<4+2*b.n0:=by
  intro k hu;refine V4 λhk=>hu ?_;rw[EY,Qa _ λp' BT e=> ?_]
  ·have:k≠1:=sf;simp[ie,Yq,kl,bD,Hp.none,this]
  have h2:=OO.1 BT;unfold akL at e;split at e<;>simp at e;subst e;exact hk h2
 clear EY hO;have hi:=q.hi;have JV:(mw (b.nodes.length+1) (t.kids.take q.i)).length=q.i:=by rw[VS,tp];omega
 have Lp:=ql (t.kids.take q.i);have LG:=lV t.kids q.i;simp only[↓aX,mX,seval,abz];refine AU (λh=> ?_) (λh=> ?_)
 ·have bI:q.i<t.kids.length:=by simpa using h
  obtain⟨k,HA⟩:∃k,t.kids[q.i]?=some k:=⟨_,rX bI⟩;have hw:IntKind.i64.wrap ((q.i:Int)+1)=((q.i+1:Nat):Int):=wrap64 sf sf;have E0:t.kids.take (q.i+1)=t.kids.take q.i++[k]:=Vl HA;have ME:dE (t.kids.take q.i)+k.wt<=dE t.kids:=by
   have:=lV t.kids (q.i+1);rw[E0,kn] at this;simp only[dE] at this;omega
  simp only[↓aX,mX,seval,iy,HA,lT,Tree.cJ,Tree.cs,a10];have aa6:(b.WK t p q.i).nodes.length=b.nodes.length+1+dP (t.kids.take q.i):=by simp[Bn.WK,my];omega
  refine WV (lab:=akL (.gen 0)) (N:=NC 9) (hR (b.WK t p q.i) k (PX HA) rfl (by rw[aa6];omega) (by rw[aa6];omega)) ?_ ?_ ?_ (Yo 9) (λl h=> .inl h) (λp' BT=>OO.2 (Wp.1 BT).1) ?_
  ·simp[bu,bJ,S1,akL,Tree.av]
  ·exact(hB.Yr (by intro p' _;simp[akL];split<;>simp)).Yr (by intro p' _;simp[akL];split<;>simp)
  ·intro l;rw[aq _ _ aa8,aq _ _ aa8];exact aN l
  rintro X R2 U9 H2 ⟨rfl,rfl⟩ g1 g2 g3 g4 g5 g6;have IB:∀n:Nat,n≠10->H2 (.loc n)=H0 (.loc n):=λn hn=>by
   rw[g4 (.loc n) (by intro p' _;simp[akL];split<;>simp) aa8,aq _ _ (by simpa using hn),aq _ _ (by simpa using hn)]
  have II:∀p':Nat,(Ut ((b.WK t p q.i).add k b.nodes.length)).ok p'->∀n,U9 p'≠ .loc n:=by
   intro p' BT n;rcases g3 p' BT with⟨p0,_,e⟩|⟨l,e⟩<;>rw[e]
   ·simp[akL];split<;>simp
   simp[NC]
  have MI:∀p',p'<4+2*b.n0->p'≠1->U9 p'= .par p':=λp' h1 h2=>by rw[g2 p' (Wp.2 ⟨h1,h2⟩)];simp[akL,h2]
  simp only[↓aX,mX,seval];rw[qg 1 8 47 8 ((mw (b.nodes.length+1) (t.kids.take q.i)).map xX) (.int .i64 (b.WK t p q.i).nodes.length) (by rw[IB 8 M3,a8]) (by rw[G_,JV]) rfl aaw sf M3 M3 (by rw[IB 47 M3,a47])];simp only[↓aX,mX,seval,hw];have acd:mw (b.nodes.length+1) (t.kids.take (q.i+1))=mw (b.nodes.length+1) (t.kids.take q.i)++[((b.WK t p q.i).nodes.length:Int)]:=by
   rw[E0,WZ,aa6];simp[mw]
  have hbn:(b.WK t p q.i).add k b.nodes.length=b.WK t p (q.i+1):=by
   show({(b.WK t p q.i) with nodes:=(b.WK t p q.i).nodes++k.flat (b.WK t p q.i).nodes.length b.nodes.length}:Bn)=_;rw[aa6];simp[Bn.WK,E0,pd,akX]
  rw[hbn] at g1 II;refine⟨⟨q.i+1,bI⟩,aac,U9,[(.loc 8,.loc 47)],?_⟩;have r0:PM (akL (.gen 0)) U9 (Ut (b.WK t p (q.i+1))) [(.loc 8,.loc 47)] (.par 0)= .par 0:=
   (On (labC:=akL (.gen 0)) (λp1 p2 _ _ e=>Xs LS e) (p:=0) (OO.2 sf)).trans (MI 0 sf M3)
  have r8:PM (akL (.gen 0)) U9 (Ut (b.WK t p (q.i+1))) [(.loc 8,.loc 47)] (.loc 8)= .loc 47:=(OE (by intro p' _;simp[akL];split<;>simp)).trans aar;refine⟨(g1.Yr λp' BT=>II p' BT 8).Yr λp' BT=>II p' BT 47,?_,?_,?_,aar,?_,aaY,?_⟩
  ·intro l he hu;cases l with
   |par k'=>
    by_cases h1:k'=1
    ·subst h1;right;right;rfl
    left;refine⟨k',OO.2 ?_,by simp[akL,h1]⟩;refine V4 λvy=>vy ?_;refine anf k' ?_;rw[aq _ _ tM,aq _ _ tM,g4 (.par k') ?_ aa8,aq _ _ tM,aq _ _ tM] at hu
    ·exact hu
    intro p' BT e;simp only[akL] at e;split at e<;>simp at e;subst e;exact vy ((OO (b:=b.WK t p q.i)).1 BT)
   |_=>simp[Lb.entry] at he
  ·simp[abz,k_,bJ,put,o9,r0,r8]
  ·intro z hz;simp only[Yq,bY] at hz;subst hz;simp[dn,ae,dy];rw[acd];simp[aB,xX]
  ·intro l hl p' BT;simp only[bY] at hl;subst hl;simpa[dn] using II p' BT 47
  intro p' BT;refine⟨by simp[akL];split<;>simp[Lb.fresh],?_⟩;unfold akL;split
  ·simp[Lb.entry]
  rename_i h1;intro _;exact MI p' ((OO (b:=b.WK t p (q.i+1))).1 BT) h1
 have he:q.i=t.kids.length:=by simp at h;omega
 have hs:H0 (.par 0)= .live ⟨3,[[.sl (.gen 0) 5 0 (b.WK t p q.i).nodes.length,.sl (.par 2) 1 0 b.fs.length,.sl (.par 3) 1 0 b.az.length]]⟩:=hB.s;have F2:H0 (.gen 0)= .live ⟨5,(b.WK t p q.i).nodes.mapIdx (NI b.n0 (akL (.gen 0)))⟩:=hB.n;have E0:t.kids.take q.i=t.kids:=by rw[he];simp
 rw[E0] at a8 JV;have hx:(b.WK t p q.i).nodes[b.nodes.length]?=some ⟨t.text,t.s,t.attrs,p,[]⟩:=by simp[Bn.WK]
 have hlen:b.nodes.length<(b.WK t p q.i).nodes.length:=(yY.1 hx).1;simp only[↓aX,mX,seval];refine⟨1,(mw (b.nodes.length+1) t.kids).map xX,0,q.i,rfl,a8,by rw[G_,JV];omega,XD _,?_⟩;simp only[↓aX,mX,seval,hs,F2,pz,hlen,QJ,Qj,A5,Su,bM,hB.get hx,aaa hn];have jY:((b.WK t p q.i).nodes.mapIdx (NI b.n0 (akL (.gen 0))))[b.nodes.length]?=some [.bool t.text,.str t.s,.list (cD t.attrs),.int .i64 p,.list []]:=by
  have:=hB.get hx;rw[show(b.WK t p q.i).n0=b.n0 from rfl,aaa hn] at this;exact this
 have hkt:((mw (b.nodes.length+1) t.kids).map xX).take q.i=(mw (b.nodes.length+1) t.kids).map xX:=P5 (by rw[G_,JV];omega);simp only[↓aX,mX,seval,jY,hkt];have aiy:(b.WK t p q.i).set b.nodes.length {(⟨t.text,t.s,t.attrs,p,[]⟩:Node) with kids:=mw (b.nodes.length+1) t.kids}=b.add t p:=by
  unfold Bn.set Bn.WK Bn.add;simp only[E0,Tree.qm,Tree.node];rw[Vq _ _ (PW _)];simp
 refine⟨⟨λ_=> .int .i64 b.nodes.length,Ut (b.add t p),akL (.gen 0)⟩,⟨rfl,rfl⟩,λρ=>rfl,aad,rfl,?_,?_⟩
 ·rw[<-aiy];refine Oi.aiw (H:=bD H0 (.loc 8) .dead) (hB.Yr (by intro p' _;simp[akL];split<;>simp)) (i:=b.nodes.length) hn hx ?_ ?_
  ·show bD _ _ _ (Lb.gen 0)=_;simp[ae];rfl
  intro l hl;have:l≠ .gen 0:=hl;simp[ae,this]
 intro p' BT;have:=(Wp.1 BT).2;simp[akL,this]
theorem aab:∀{l:List Tree} {k:Tree},k∈l->k.jz<=dP l
 |x::r,k,h=>by
  rcases PY.1 h with rfl|h
  ·simp only[dP];omega
  have:=aab h;simp only[dP];omega
def agX (P:Program) (G:Nat->Option (List IV)) (f:Nat):Prop:=∀xs:List Attr,xs.length<=B->au P G f [.list (cD xs)] (.list (cD xs))
theorem ahT {mU iJ:Nat} (hF:aw P G mU=some (58,[(none,6)],(VT iJ mU).bare)) (hC:agX P G iJ):∀(m:Nat) (t:Tree),t.jz<=m->∀(b:Bn),b.n0<=b.nodes.length->∀(p:Int),b.nodes.length+t.wt<=B ->
  Jg P G mU [.ptr (.par 0) 3 0 0,t.av,.int .i64 p] (Ut b) (b.but 1) λX R2=>X=(λ_=> .int .i64 b.nodes.length)/\R2=Ut (b.add t p)
 |0,t,h,_,_,_,_=>by have:=t.uE;omega
 |m+1,t,h,b,hn,p,hb=>by
  have hw:=t.gx;have hl:=iz t.attrs;refine ahR hF b hn t p hb (hC _ sf) λb' k hk h0 h1 h2=> ?_;have h3:b'.but 1=b.but 1:=by unfold Bn.but;rw[h0]
  rw[<-h3];obtain⟨i,hi⟩:=Sw hk;have:=aab hk;exact ahT hF hC m k (by rw[t.n8] at h;omega) b' sf _ h2
end

def Bn.Uf (b:Bn) (p:Nat) (l:List Tree):Bn:={b with nodes:=b.nodes++akX b.nodes.length p l}
def Bn.ins (b:Bn) (p pl:Nat) (l:List Tree):Bn:=match b.nodes[p]? with
 |some x=>(b.Uf p l).set p {x with kids:=x.kids.take pl++mw b.nodes.length l++x.kids.drop pl}
 |none=>b
def Bn.acr (b:Bn) (p q:Nat):List Nat:=(List.range (4+2*b.n0)).filter λi=>i≠p/\i≠q
def ajq {b:Bn} {p q i:Nat}:i∈b.acr p q↔i<4+2*b.n0/\i≠p/\i≠q:=by simp[Bn.acr]
def agY (P:Program) (G:Nat->Option (List IV)) (f:Nat):Prop:=∀(xs vs:List Int) (i:Nat),i<=xs.length->xs.length+vs.length<=B ->
 tq P G 1 f [.sl (.par 0) 1 0 xs.length,.int .i64 i,.list (vs.map xX)] (xs.map xX) ((xs.take i++vs++xs.drop i).map xX)
def aiz (P:Program) (G:Nat->Option (List IV)) (f:Nat):Prop:=∀(t:Tree) (b:Bn),b.n0<=b.nodes.length->∀(p:Int),b.nodes.length+t.wt<=B ->
 Jg P G f [.ptr (.par 0) 3 0 0,t.av,.int .i64 p] (Ut b) (b.but 1) λX R2=>X=(λ_=> .int .i64 b.nodes.length)/\R2=Ut (b.add t p)
section
variable {P:Program} {G:Nat->Option (List IV)}
def VX (mU gM:Nat):AC:=
(aM [zi 8] (.gh (.own 8 1) (.seq (aM [MR 11 3,oy 12 11,gH 13 0] (.block 0 (.loop (aM [et 14 .lss 13 12] (.seq (.cond (.t 14) .skip (.exit 0)) (.seq (.block 1 (aM [jL 15 11 13 4,gz 16 4 15,aQ 10 (.new [(.bool false),(.str []),.nil0,.nil0]),gg (.store 4 (.t 10) (.t 16))] (.cq [MR 17 8,MR 18 0,gz 19 4 10,MR 20 1,aQ 21 (.call mU [(.t 18),(.t 19),(.t 20)]),aQ 22 (.lits 1 1 [(.int .i64 0)] [(0,(.t 21))]),aQ 23 (.app (.t 17) (.t 22) 1 8),MR 8 23]))) (.cq [eY 24 .add 13 1,MR 13 24]))))))) (.gh (.zS (.loc 8) 8) (.VL [MR 25 0,aQ 26 (.dp (.t 25)),ep 27 26 0,fm 28 27,MR 29 1,MR 30 0,aQ 31 (.dp (.t 30)),ep 32 31 0,fm 33 32,MR 34 1,jL 35 33 34 5,ep 36 35 4,fm 37 36,MR 38 2,MR 39 8,aQ 40 (.call gM [(.t 37),(.t 38),(.t 39)]),jL 41 28 29 5,ep 42 41 4,gg (.store 1 (.t 42) (.t 40))] [[],[0],[1],[2],[],[],[5],[6],[7],[],[8,9],[10],[11],[],[],[12,13,14],[3,4,0,1,2,3,4,5,6,7,8,9,10,11,12,13,14,15],[16,0,1,2,3,4,5,6,7,8,9,10,11,12,13,14,15],[17,15,15,0,1,2,3,4,5,6,7,8,9,10,11,12,13,14,15]] [.no,.no,.no,(.rw [(.par 0)] []),.no,.no,.no,.no,(.rw [(.par 0)] []),.no,.no,.no,(.rw [(.gen 0)] []),.no,.no,(.p_ [(.par 0)]),.no,.no,(.rw [] [(.gen 0)])])))))
structure UQ (l:List Tree) where
 i:Nat
 hi:i<=l.length
def abA (b:Bn) (p pl:Nat) (l:List Tree) (q:UQ l):List (Nat×AV):=
 [(0,.ptr (.par 0) 3 0 0),(1,.int .i64 p),(2,.int .i64 pl),(8,.sl (.loc 8) 1 0 q.i),(11,.list (dq l)),(12,.int .i64 l.length),(13,.int .i64 q.i)]
def Yf (b:Bn) (l:List Tree) (q:UQ l):List (Lb×Row):=
 [(.loc 8,⟨1,aB ((mw b.nodes.length (l.take q.i)).map xX)⟩)]
def aa_ {p:Prop} (h:p:=by simp[ie,Yf,kl,bD,Hp.none]):p:=h
def afU {ej mU gM:Nat} (hF:aw P G ej=some (43,[],(VX mU gM).bare)) (b:Bn) (hn:b.n0<=b.nodes.length) (p pl:Nat) (hp:p<b.n0) (x:Node) (hx:b.nodes[p]?=some x) (BS:pl<=x.kids.length)
  (l:List Tree) (hb:b.nodes.length+dE l<=B) (UX:x.kids.length+l.length<=B) (hA:aiz P G mU) (hI:agY P G gM) :
  Jg P G ej [.ptr (.par 0) 3 0 0,.int .i64 p,.int .i64 pl,.list (dq l)] (Ut b) (b.acr 1 (5+2*p)) λX R2=>X=(λ_=> .gf [])/\R2=Ut (b.ins p pl l):=by
 refine VM hF tM abr ?_;have VB:Oi Lb.par b (Lx (Ut b)):=Xv _;have hU:∀q:Lb,(∀p,p<4+2*b.n0->q≠ .par p)->Lx (Ut b) q= .unused:=λq hq=>Qa _ λp hp e=>hq p (OO.1 hp) e.symm;have h8:Lx (Ut b) (.loc 8)= .unused:=hU _ tM;have Hm:=eZ l;have zo:B=1073741824:=rfl;have LS:∀p',p'≠1->Lb.gen 0≠ .par p':=tM
 have hI0:∀q:UQ l,Ut (b.Uf p (l.take q.i))=Ut (b.Uf p (l.take q.i)):=λ_=>rfl;unfold VX;simp only[↓aX,mX,seval,h8];refine SJ (σ:=UQ l) (akL (.gen 0)) (λq=>Ut (b.Uf p (l.take q.i))) [.loc 8] (λl=>l== .par 1) (abA b p pl l) (Yf b l) (λq=>l.length - q.i) ⟨0,zd _⟩
  (λq p1 p2 _ _ e=>Xs LS e) (λ_=>rfl) (by simp[akL];intro _ p' _;split<;>simp) ?_ ?_ ?_ ?_
 ·intro q l' hl;simp[ah,AV.an,abA] at hl;rcases hl with rfl|rfl
  ·right;exact⟨0,OO.2 sf,by simp[akL]⟩
  left;simp
 ·intro q z hz cs bV l' hl;simp only[Yf,bY] at hz;subst hz;rw[bU bV] at hl;simp at hl
 ·have oK:b.Uf p (l.take 0)=b:=by simp[Bn.Uf,akX]
  refine⟨Lb.par,[],?_⟩;have r0:PM (akL (.gen 0)) Lb.par (Ut (b.Uf p (l.take 0))) [] (.par 0)= .par 0:=
   On (labC:=akL (.gen 0)) (λp1 p2 _ _ e=>Xs LS e) (p:=0) (OO.2 sf)
  have r8:PM (akL (.gen 0)) Lb.par (Ut (b.Uf p (l.take 0))) [] (.loc 8)= .loc 8:=OE (by intro p' _;simp[akL];split<;>simp);refine⟨?_,?_,?_,?_,aar,?_,aaY,?_⟩
  ·simp only[oK];exact VB.Yr tM
  ·intro l' he hu;cases l' with
   |par k=>
    by_cases h1:k=1
    ·subst h1;right;right;rfl
    left;refine⟨k,OO.2 ?_,by simp[akL,h1]⟩;refine V4 λhk=>hu ?_;simp only[ae,reduceCtorEq,nX];exact hU _ λp' BT e=>hk (by simp only[Lb.par.injEq] at e;subst e;exact BT)
   |_=>simp[Lb.entry] at he
  ·simp[abA,k_,bJ,put,jP,bF];exact⟨r0.symm,r8.symm⟩
  ·intro z hz;simp only[Yf,bY] at hz;subst hz;simp[dn,ae,dy];simp[mw,aB]
  ·intro l' hl p' BT;simp only[bY] at hl;subst hl;simp[dn]
  intro p' BT;refine⟨by simp[akL];split<;>simp[Lb.fresh],?_⟩;unfold akL;split<;>simp[Lb.entry]
 intro q;obtain⟨H0,EY⟩:∃H0,H0=Lw (akL (.gen 0)) (Ut (b.Uf p (l.take q.i))) (ie (λl=>l== .par 1) (Yf b l q)):=⟨_,rfl⟩;rw[<-EY];have hB:Oi (akL (.gen 0)) (b.Uf p (l.take q.i)) H0:=by rw[EY];exact Ed.R6 (λp1 p2 _ _ e=>Xs LS e) _
 have hO:∀l':Lb,(∀p',akL (.gen 0) p'≠l')->H0 l'=ie (λl=>l== .par 1) (Yf b l q) l':=λl' hl=>by rw[EY];exact Qa _ λp' _=>hl p'
 have a8:H0 (.loc 8)= .live ⟨1,aB ((mw b.nodes.length (l.take q.i)).map xX)⟩:=(hO _ (by intro p';simp[akL];split<;>simp)).trans (by simp[ie,Yf,kl,bD]);have a10:H0 (.loc 10)= .unused:=(hO _ (by intro p';simp[akL];split<;>simp)).trans aa_;have a23:H0 (.loc 23)= .unused:=(hO _ (by intro p';simp[akL];split<;>simp)).trans aa_;have ag:H0 (.gen 40)= .unused:=(hO _ (by intro p';simp[akL];split<;>simp)).trans aa_;have aN:∀l,H0 (NC 9 l)= .unused:=λl'=>(hO _ (by intro p';simp[akL,NC];split<;>simp)).trans (by simp[ie,Yf,kl,bD,Hp.none,NC]);have anf:∀k,H0 (.par k)≠ .unused->k<4+2*b.n0:=by
  intro k hu;refine V4 λhk=>hu ?_;rw[EY,Qa _ λp' BT e=> ?_]
  ·have:k≠1:=sf;simp[ie,Yf,kl,bD,Hp.none,this]
  have h2:=(OO (b:=b.Uf p (l.take q.i))).1 BT;unfold akL at e;split at e<;>simp at e;subst e;exact hk h2
 clear EY hO;have hi:=q.hi;have JV:(mw b.nodes.length (l.take q.i)).length=q.i:=by rw[VS,tp];omega
 have Lp:=ql (l.take q.i);have LG:=lV l q.i;simp only[↓aX,mX,seval,abA];refine AU (λh=> ?_) (λh=> ?_)
 ·have bI:q.i<l.length:=by simpa using h
  obtain⟨k,HA⟩:∃k,l[q.i]?=some k:=⟨_,rX bI⟩;have hw:IntKind.i64.wrap ((q.i:Int)+1)=((q.i+1:Nat):Int):=wrap64 sf sf;have E0:l.take (q.i+1)=l.take q.i++[k]:=Vl HA;have ME:dE (l.take q.i)+k.wt<=dE l:=by
   have:=lV l (q.i+1);rw[E0,kn] at this;simp only[dE] at this;omega
  simp only[↓aX,mX,seval,iy,HA,lT,Tree.cJ,Tree.cs,a10];have aa6:(b.Uf p (l.take q.i)).nodes.length=b.nodes.length+dP (l.take q.i):=by simp[Bn.Uf,my]
  refine WV (lab:=akL (.gen 0)) (N:=NC 9) (hA k (b.Uf p (l.take q.i)) (by rw[aa6];show b.n0<=_;omega) p (by rw[aa6];omega)) ?_ ?_ ?_ (Yo 9) (λl h=> .inl h) (λp' BT=>OO.2 (Wp.1 BT).1) ?_
  ·simp[bu,bJ,S1,akL,Tree.av]
  ·exact(hB.Yr (by intro p' _;simp[akL];split<;>simp)).Yr (by intro p' _;simp[akL];split<;>simp)
  ·intro l';rw[aq _ _ aa8,aq _ _ aa8];exact aN l'
  rintro X R2 U9 H2 ⟨rfl,rfl⟩ g1 g2 g3 g4 g5 g6;have IB:∀n:Nat,n≠10->H2 (.loc n)=H0 (.loc n):=λn hn=>by
   rw[g4 (.loc n) (by intro p' _;simp[akL];split<;>simp) aa8,aq _ _ (by simpa using hn),aq _ _ (by simpa using hn)]
  have II:∀p':Nat,(Ut ((b.Uf p (l.take q.i)).add k p)).ok p'->∀n,U9 p'≠ .loc n:=by
   intro p' BT n;rcases g3 p' BT with⟨p0,_,e⟩|⟨l,e⟩<;>rw[e]
   ·simp[akL];split<;>simp
   simp[NC]
  have MI:∀p',p'<4+2*b.n0->p'≠1->U9 p'= .par p':=λp' h1 h2=>by rw[g2 p' (Wp.2 ⟨h1,h2⟩)];simp[akL,h2]
  simp only[↓aX,mX,seval];rw[qg 1 8 23 8 ((mw b.nodes.length (l.take q.i)).map xX) (.int .i64 (b.Uf p (l.take q.i)).nodes.length) (by rw[IB 8 M3,a8]) (by rw[G_,JV]) rfl aaw sf M3 M3 (by rw[IB 23 M3,a23])];simp only[↓aX,mX,seval,hw];have acd:mw b.nodes.length (l.take (q.i+1))=mw b.nodes.length (l.take q.i)++[((b.Uf p (l.take q.i)).nodes.length:Int)]:=by
   rw[E0,WZ,aa6];simp[mw]
  have hbn:(b.Uf p (l.take q.i)).add k p=b.Uf p (l.take (q.i+1)):=by
   show({(b.Uf p (l.take q.i)) with nodes:=(b.Uf p (l.take q.i)).nodes++k.flat (b.Uf p (l.take q.i)).nodes.length p}:Bn)=_;rw[aa6];simp[Bn.Uf,E0,pd,akX]
  rw[hbn] at g1 II;refine⟨⟨q.i+1,bI⟩,aac,U9,[(.loc 8,.loc 23)],?_⟩;have r0:PM (akL (.gen 0)) U9 (Ut (b.Uf p (l.take (q.i+1)))) [(.loc 8,.loc 23)] (.par 0)= .par 0:=
   (On (labC:=akL (.gen 0)) (λp1 p2 _ _ e=>Xs LS e) (p:=0) (OO.2 sf)).trans (MI 0 sf M3)
  have r8:PM (akL (.gen 0)) U9 (Ut (b.Uf p (l.take (q.i+1)))) [(.loc 8,.loc 23)] (.loc 8)= .loc 23:=(OE (by intro p' _;simp[akL];split<;>simp)).trans aar;refine⟨(g1.Yr λp' BT=>II p' BT 8).Yr λp' BT=>II p' BT 23,?_,?_,?_,aar,?_,aaY,?_⟩
  ·intro l' he hu;cases l' with
   |par k'=>
    by_cases h1:k'=1
    ·subst h1;right;right;rfl
    left;refine⟨k',OO.2 ?_,by simp[akL,h1]⟩;refine V4 λvy=>vy ?_;refine anf k' ?_;rw[aq _ _ tM,aq _ _ tM,g4 (.par k') ?_ aa8,aq _ _ tM,aq _ _ tM] at hu
    ·exact hu
    intro p' BT e;simp only[akL] at e;split at e<;>simp at e;subst e;exact vy ((OO (b:=b.Uf p (l.take q.i))).1 BT)
   |_=>simp[Lb.entry] at he
  ·simp[abA,k_,bJ,put,o9,r0,r8]
  ·intro z hz;simp only[Yf,bY] at hz;subst hz;simp[dn,ae,dy];rw[acd];simp[aB,xX]
  ·intro l' hl p' BT;simp only[bY] at hl;subst hl;simpa[dn] using II p' BT 23
  intro p' BT;refine⟨by simp[akL];split<;>simp[Lb.fresh],?_⟩;unfold akL;split
  ·simp[Lb.entry]
  rename_i h1;intro _;exact MI p' ((OO (b:=b.Uf p (l.take (q.i+1)))).1 BT) h1
 have he:q.i=l.length:=by simp at h;omega
 have E0:l.take q.i=l:=by rw[he];simp
 rw[E0] at a8 JV hB;have hs:H0 (.par 0)= .live ⟨3,[[.sl (.gen 0) 5 0 (b.Uf p l).nodes.length,.sl (.par 2) 1 0 b.fs.length,.sl (.par 3) 1 0 b.az.length]]⟩:=hB.s;have F2:H0 (.gen 0)= .live ⟨5,(b.Uf p l).nodes.mapIdx (NI b.n0 (akL (.gen 0)))⟩:=hB.n;have hlp:p<b.nodes.length:=sf
 have T8:(b.Uf p l).nodes[p]?=some x:=by simp only[Bn.Uf];rw[bB hlp];exact hx
 have hlen:p<(b.Uf p l).nodes.length:=(yY.1 T8).1;have h5:¬5+2*p=1:=sf
 have K2:H0 (.par (5+2*p))= .live ⟨1,aB (x.kids.map xX)⟩:=by
  have:=hB.kd hp T8;simpa[akL,h5] using this
 have jY:((b.Uf p l).nodes.mapIdx (NI b.n0 (akL (.gen 0))))[p]?=some [.bool x.text,.str x.s,.sl (.par (4+2*p)) 2 0 x.attrs.length,.int .i64 x.parent,.sl (.par (5+2*p)) 1 0 x.kids.length]:=by
  have:=hB.get T8;rw[show(b.Uf p l).n0=b.n0 from rfl,Va hp] at this;rw[this];have h4:¬4+2*p=1:=sf
  simp[akL,h4,h5]
 have hkt:((mw b.nodes.length l).map xX).take q.i=(mw b.nodes.length l).map xX:=P5 (by rw[G_,JV];omega);simp only[↓aX,mX,seval];refine⟨1,(mw b.nodes.length l).map xX,0,q.i,rfl,a8,by rw[G_,JV];omega,XD _,?_⟩;simp only[↓aX,mX,seval,hs,F2,pz,hlen,QJ,Qj,A5,Su,bM,jY,hkt];refine⟨rfl,?_⟩;have agZ:(mw b.nodes.length l).length=l.length:=VS _ _;have Tg:b.ins p pl l=(b.Uf p l).set p {x with kids:=x.kids.take pl++mw b.nodes.length l++x.kids.drop pl}:=by unfold Bn.ins;rw[hx]
 have aiA:∀k,akL (.gen 0) k≠ .loc 8:=by intro p';simp[akL];split<;>simp
 have hB':Oi (akL (.gen 0)) (b.Uf p l) (bD H0 (.loc 8) .dead):=hB.Yr λp' _=>aiA p';have key:∀N:Lb,(N= .par (5+2*p)\/N= .gen 40)->∀H2:Hp,H2 (.gen 0)= .live ⟨5,((b.Uf p l).nodes.mapIdx (NI b.n0 (akL (.gen 0)))).set p [.bool x.text,.str x.s,.sl (.par (4+2*p)) 2 0 x.attrs.length,.int .i64 x.parent,.sl N 1 0 (x.kids.take pl++mw b.nodes.length l++x.kids.drop pl).length]⟩ ->
   H2 N= .live ⟨1,aB ((x.kids.take pl++mw b.nodes.length l++x.kids.drop pl).map xX)⟩->(∀q,q≠ .gen 0->q≠N->q≠ .par (5+2*p)->H2 q=bD H0 (.loc 8) .dead q) ->
   ∃t:((Nat->Lb)->AV)×uR×(Nat->Lb),(t.1=(λ_=> .gf [])/\t.2.1=Ut (b.ins p pl l))/\(∀ρ,bJ ρ (t.1 t.2.2)=t.1 λi=>ρ (t.2.2 i))/\(∀l∈(AV.gf []).an,∃p,t.2.1.ok p/\l=t.2.2 p)/\AV.gf []=t.1 t.2.2/\Ed t.2.2 t.2.1 H2/\∀p'∈b.acr 1 (5+2*p),t.2.2 p'= .par p':=by
  intro N hN H2 e1 e2 e3;refine⟨⟨λ_=> .gf [],Ut (b.ins p pl l),λp'=>if p'=5+2*p then N else akL (.gen 0) p'⟩,⟨rfl,rfl⟩,λρ=>by simp[bJ,bu],aao,rfl,?_,?_⟩
  ·rw[Tg];have h4:¬4+2*p=1:=sf;refine Oi.afQ hB' hp T8 ?_ (by rw[show akL (.gen 0) (4+2*p)= .par (4+2*p) by simp[akL,h4]];exact e1) e2 (λq g1 g2 g3=>e3 q g1 g2 (by simpa[akL,h5] using g3));rcases hN with rfl|rfl
   ·left;simp[akL,h5]
   right;intro p' _;simp[akL];split<;>simp
  intro p' BT;obtain⟨_,q1,q2⟩:=ajq.1 BT;simp[q1,q2,akL]
 refine Bg (l:= .par (5+2*p)) (N:= .gen 40) (hI x.kids (mw b.nodes.length l) pl BS (by rw[agZ];exact UX)) rfl (by rw[aq _ _ tM];exact K2) (by rw[aq _ _ tM];exact ag) abm (by simp[Lb.iQ]) (by simp[Lb.iQ]) ?_ ?_
 ·simp only[↓aX,mX,seval,hs,F2,pz,hlen,QJ,Qj,A5,Su,bM,jY,G_];rw[lM];refine⟨[],rfl,key (.gen 40) (.inr rfl) _ aai aai ?_⟩;intro q g1 g2 g3;simp[ae,g1,g2,g3]
 simp only[↓aX,mX,seval,hs,F2,pz,hlen,QJ,Qj,A5,Su,bM,jY,G_];rw[lM];refine⟨[],rfl,key (.par (5+2*p)) (.inl rfl) _ aai aai ?_⟩;intro q g1 g2 g3;simp[ae,g1,g2,g3]
end

structure Op where
 kind:Int
 target:Int
 content:List Tree
 name:Bs
 s:Bs
def Op.cs (x:Op):List IV:=[.int .i64 x.kind,.int .i64 x.target,.list (dq x.content),.str x.name,.str x.s]
def Op.iv (x:Op):IV:= .agg x.cs
def Op.av (x:Op):AV:= .agg [.int .i64 x.kind,.int .i64 x.target,.list (dq x.content),.str x.name,.str x.s]
def abD {p:Prop} (h:p:=by simp[ah,AV.an,Op.av,Doc.av]):p:=h
def Op.cJ (x:Op):x.iv.cells=x.cs:=rfl
def Ys (xs:List Op):jV 5 (xs.map Op.iv):=ZO Op.iv 5 (λ_=>rfl) xs
def YO (l:List Op) (i:Nat):(l.map Op.iv)[i]?=(l[i]?).map Op.iv:=cn ..
def Op.uy (x:Op):∀z∈x.cs,∀cs,z≠ .agg cs:=by
 intro z hz cs;simp only[Op.cs,PY,QN,QV] at hz;rcases hz with rfl|rfl|rfl|rfl|rfl<;>simp
def agu (xs:List Op):Flat (xs.map Op.iv):=YY _ (λx=>x.uy) _
def WL (k:Int) (t:Bool):Int:=if k=3 then 2 else if k=4 then 2 else if k=6 then 3 else if k=7 then(if t then 1 else 4) else if k=5 then 5 else 1
def W7:AC:=
(aM [gH 4 0] (.seq (aM [MR 5 0] (.block 0 (.seq (aM [eY 7 .eql 5 3,MR 6 7] (.cond (.t 6) .skip (.cq [eY 8 .eql 5 4,MR 6 8]))) (.cond (.t 6) (aM [gH 4 2] .ret) (aM [eY 10 .eql 5 6,MR 9 10] (.cond (.t 9) (aM [gH 4 3] .ret) (aM [eY 12 .eql 5 7,MR 11 12] (.cond (.t 11) (aM [MR 13 1,sB 14 13] (.cond (.t 14) (aM [gH 4 4] .ret) .skip)) (aM [eY 16 .eql 5 5,MR 15 16] (.cond (.t 15) (aM [gH 4 5] .ret) .skip)))))))))) (aM [gH 4 1] .ret)))
def ag0 {P:Program} {G:Nat->Option (List IV)} {akQ:Nat} (hF:aw P G akQ=some (17,[(none,4)],W7.bare)) (k:Int) (t:Bool):au P G akQ [.int .i64 k,.bool t] (.int .i64 (WL k t)):=by
 refine aR hF tM aae aad ?_;unfold W7;by_cases h3:k=3
 ·subst h3;simp only[↓aX,mX,seval,Int.reduceBEq];rfl
 by_cases h4:k=4
 ·subst h4;simp only[↓aX,mX,seval,Int.reduceBEq];rfl
 by_cases h6:k=6
 ·subst h6;simp only[↓aX,mX,seval,Int.reduceBEq];rfl
 by_cases h7:k=7
 ·subst h7;cases t
  ·simp only[↓aX,mX,seval,Int.reduceBEq,QI];rfl
  simp only[↓aX,mX,seval,Int.reduceBEq,QK];rfl
 by_cases h5:k=5
 ·subst h5;simp only[↓aX,mX,seval,Int.reduceBEq];rfl
 simp only[↓aX,mX,seval,SV.2 h3,SV.2 h4,SV.2 h6,SV.2 h7,SV.2 h5];simp only[WL,h3,h4,h5,h6,h7,nX]
def auN (k:Int):Bool:=k==9||k==10
def as3 (a b:Op):Bool:=a.target==b.target&&((auN a.kind&&auN b.kind&&a.name==b.name)||(a.kind==b.kind&&decide (6<=a.kind)&&decide (a.kind<=8)))
def WA:AC:=
(aM [zzX 2 0,zzX 3 1,jM 4 false] (.seq (aM [ep 6 2 1,fm 7 6,ep 8 3 1,fm 9 8,et 10 .neq 7 9] (.cond (.t 10) (aM [jM 4 false] .ret) .skip)) (aM [ep 11 2 0,fm 12 11,eY 13 .eql 12 9,MR 14 13,oH 15 14 2 0,oG 16 14 15,iR 17 14 (.bin .eql (.t 16) (jS 10)),sj 18 14 17,MR 19 18,Wb 20 19 3 0,jm 21 19 20,dW 22 19 (.bin .eql (.t 21) (jS 9)),cU 23 19 22,oH 24 23 3 0,oG 25 23 24,iR 26 23 (.bin .eql (.t 25) (jS 10)),dW 27 19 (.pick (.t 23) (me true) (.t 26)),jT 28 19 27,MR 5 28] (aM [MR 29 5,MR 30 29,Wb 31 30 2 3,jm 32 30 31,Wb 33 30 3 3,jm 34 30 33,dW 35 30 (.bin .eql (.t 32) (.t 34)),jT 36 30 35,MR 37 36,oH 38 37 2 0,oG 39 37 38,oH 40 37 3 0,oG 41 37 40,iR 42 37 (.bin .eql (.t 39) (.t 41)),gV 43 37 42,Wb 44 43 2 0,jm 45 43 44,dW 46 43 (.bin .geq (.t 45) (jS 6)),iR 47 37 (.pick (.t 43) (.t 46) (me false)),gV 48 37 47,Wb 49 48 2 0,jm 50 48 49,dW 51 48 (.bin .leq (.t 50) (jS 8)),iR 52 37 (.pick (.t 48) (.t 51) (me false)),sj 53 37 52,MR 4 53] .ret))))

def TV (az:List Attr) (o:Op):List Attr:=
 if o.kind=10 then(if TU az o.name then az.take (RT az o.name)++az.drop (RT az o.name+1) else az)
 else if TU az o.name then az.set (RT az o.name) ⟨o.name,o.s⟩ else az.take (RT az o.name)++[⟨o.name,o.s⟩]++az.drop (RT az o.name)
def Bn.attr (b:Bn) (n:Nat) (o:Op):Bn:=match b.nodes[n]? with
 |some x=>b.set n {x with attrs:=TV x.attrs o}
 |none=>b
section
variable {P:Program} {G:Nat->Option (List IV)}
def V7 (l5 akK asH WW:Nat):AC:=
(aM [zzX 3 1] (.seq (.VL [MR 7 0,aQ 8 (.dp (.t 7)),ep 9 8 0,fm 10 9,ep 11 3 1,fm 12 11,jL 13 10 12 5,MR 4 13] [[],[0],[1],[2],[],[4],[3,5],[6,0,1,2,3,4,5,6]] [.no,.no,.no,(.rw [(.par 0)] []),.no,.rw [.loc 3] [],.no,.no]) (.seq (.VL [MR 15 4,aQ 16 (.dp (.t 15)),ep 17 16 2,fm 18 17,ep 19 3 3,fm 20 19,aQ 21 (.call l5 [(.t 18),(.t 20),(.c (.fn akK [] []))]),MR 14 21,ox 22 14 0,ox 23 14 1,MR 5 22,MR 6 23] [[],[0],[1],[2],[],[4],[3,5],[6],[7],[7],[8,6,0,1,2,3,4,5,6,7,8],[9,10,0,1,2,3,4,5,6,7,8,9,10]] [.no,.no,.no,(.rw [(.par 1)] []),.no,.rw [.loc 3] [],(.p_ []),.no,.no,.no,.no,.no]) (.block 0 (aM [ep 25 3 0,fm 26 25,eY 27 .eql 26 10,MR 28 27,cU 29 28 6,jT 30 28 29,MR 24 30] (.cond (.t 24) (.cq [MR 31 4,MR 32 4,aQ 33 (.dp (.t 32)),ep 34 33 2,fm 35 34,MR 36 5,MR 37 5,eY 38 .add 37 1,aQ 39 (.call asH [(.t 35),(.t 36),(.t 38)]),aQ 40 (.dp (.t 31)),ep 41 40 2,gg (.store 1 (.t 41) (.t 39))]) (aM [ep 43 3 0,fm 44 43,eY 45 .eql 44 9,MR 46 45,cU 47 46 6,jT 48 46 47,MR 42 48] (.cond (.t 42) (.VL [MR 49 4,aQ 50 (.dp (.t 49)),ep 51 50 2,fm 52 51,MR 53 5,ep 54 3 4,fm 55 54,jL 56 52 53 2,ep 57 56 1,gg (.store 1 (.t 57) (.t 55))] [[],[0],[1],[2],[],[],[5],[3,4,0,1,2,3,4,5,6],[7,0,1,2,3,4,5,6],[8,6,0,1,2,3,4,5,6]] [.no,.no,.no,(.rw [(.par 1)] []),.no,.no,.rw [.loc 3] [],.no,.no,.all]) (aM [ep 59 3 0,fm 60 59,eY 61 .eql 60 9,MR 58 61] (.cond (.t 58) (.VL [MR 62 4,MR 63 4,aQ 64 (.dp (.t 63)),ep 65 64 2,fm 66 65,MR 67 5,ep 68 3 3,fm 69 68,ep 70 3 4,fm 71 70,aQ 72 (.sg [(.str []),(.str [])] [(0,(1,(.t 69))),(1,(1,(.t 71)))]),aQ 73 (.lits 1 2 [(.str []),(.str [])] [(0,(.t 72))]),aQ 74 (.call WW [(.t 66),(.t 67),(.t 73)]),aQ 75 (.dp (.t 62)),ep 76 75 2,gg (.store 1 (.t 76) (.t 74))] [[],[],[1],[2],[3],[],[],[6],[],[8],[7,9],[10],[4,5,11],[0,0,1,2,3,4,5,6,7,8,9,10,11,12],[13,0,1,2,3,4,5,6,7,8,9,10,11,12],[14,12,12,0,1,2,3,4,5,6,7,8,9,10,11,12]] [.no,.no,.no,.no,(.rw [(.par 1)] []),.no,.no,.rw [.loc 3] [],.no,.rw [.loc 3] [],.no,.no,(.p_ []),.no,.no,(.rw [] [(.par 1)])]) .skip))))))))))
end

def Pp {S:St} {env:Env} {H:Hp} {q N:Lb} {sq i j sz:Nat} {els:List (List AV)} {cs:List AV} (g1:H q= .live ⟨sq,els⟩) (g0:els[i]?=some cs) (g2:cs[j]?=some .nil0) (g3:H N= .unused) (g4:0<sz) :
  nQ S env H env (bD (bD H N (.live ⟨sz,[]⟩)) q (.live ⟨sq,els.set i (cs.set j (.sl N sz 0 0))⟩)):=by
 intro K β a w IJ hS hr;have hk:=hr.OI N g3 (r:=⟨sz,[]⟩) (Below.refl _ _) none tM tM ⟨g4,tM,tM⟩;have TF:q≠N:=by rintro rfl;rw[g1] at g3;cases g3
 have hq:bD H N (.live ⟨sz,[]⟩) q= .live ⟨sq,els⟩:=by rw[aq _ _ TF];exact g1
 have hlen:=(hr.rows q _ g1).2.1;have TG:bD β N none q=β q:=aq _ _ TF;have XV:i<els.length:=(yY.1 g0).1;cases hb:β q with
 |none=>
  have:=(hr.rows q _ g1).2.2;simp only[hb] at this;rw[this] at XV;simp at XV
 |some g=>
 obtain⟨cur,e0,cap,k1,k2,k3,k4,k5⟩:=(hk.rows q _ hq).block (TG.trans hb);have zk:j<cs.length:=(yY.1 g2).1;have vf:=hk.setRow q (r':=⟨sq,els.set i (cs.set j (.sl N sz 0 0))⟩) (cur':=cur) (cap:=cap) hq (TG.trans hb) k1 rfl rfl k2 k3 (by simpa using k4) (by
   intro ds ua;rcases Vg ua with h|rfl
   ·exact hlen ds h
   simpa using hlen cs (PX g0))
  (by
   intro ds ua p hp;rcases Vg ua with h|rfl
   ·exact hk.cH q _ hq ds h p hp
   obtain⟨y,hy,J'⟩:=Px hp;rcases Vg hy with hy|rfl
   ·obtain⟨m,hm⟩:=Sw hy;exact hk.cH q _ hq cs (PX g0) p (cW _ _ _ hm p J')
   simp only[AV.an,bY] at J';subst J';simp)
  (by
   intro i' j' ds x0 ed iX;by_cases ei:i'=i
   ·subst ei;simp only at ed;rw[Wj XV] at ed;cases ed;by_cases e:j'=j
    ·subst e;rw[Wj zk] at iX;cases iX;obtain⟨v,q1,q2⟩:=k5 i' j' cs _ g0 g2;simp only[RV] at q2;obtain⟨ad,rfl⟩:=q2;refine⟨_,q1,?_⟩;simp only[RV];exact⟨ad,0,rfl,PW _,by simp[maxLen],tM,λ_=> .inl rfl⟩
    rw[Bd (Ss e)] at iX;exact k5 i' j' cs x0 g0 iX
   simp only at ed;rw[Bd (Ss ei)] at ed;exact k5 i' j' ds x0 ed iX)
 have j0:w.setRow g cur=w:=setRow_self w g cur e0 (0,0) k1;rw[j0] at vf;exact⟨_,vf⟩

def UR (s:Bs):Tree:= .mk true s [] []
def Bn.value (b:Bn) (n:Nat) (s:Bs):Bn:=match b.nodes[n]? with
 |some x=>if x.text then b.set n {x with s:=s} else(b.set n {x with kids:=[]}).ins n 0 [UR s]
 |none=>b
def aau (P:Program) (G:Nat->Option (List IV)) (f:Nat):Prop:=∀(b:Bn),b.n0<=b.nodes.length->∀(p pl:Nat),p<b.n0->∀(x:Node),b.nodes[p]?=some x->pl<=x.kids.length ->
 ∀(l:List Tree),b.nodes.length+dE l<=B->x.kids.length+l.length<=B ->
 Jg P G f [.ptr (.par 0) 3 0 0,.int .i64 p,.int .i64 pl,.list (dq l)] (Ut b) (b.acr 1 (5+2*p)) λX R2=>X=(λ_=> .gf [])/\R2=Ut (b.ins p pl l)
section
variable {P:Program} {G:Nat->Option (List IV)}
def V2 (ej:Nat):AC:=
(.seq (aM [MR 6 0,aQ 7 (.dp (.t 6)),ep 8 7 0,fm 9 8,MR 10 1,jL 11 9 10 5,ep 12 11 0,fm 13 12] (.cond (.t 13) (aM [MR 14 0,aQ 15 (.dp (.t 14)),ep 16 15 0,fm 17 16,MR 18 1,MR 19 2,jL 20 17 18 5,ep 21 20 1,gg (.store 1 (.t 21) (.t 19))] .ret) .skip)) (aM [MR 22 0,aQ 23 (.dp (.t 22)),ep 24 23 0,fm 25 24,MR 26 1,jL 27 25 26 5,ep 28 27 4,gg (.store 1 (.t 28) (.c .nil0))] (.gh .vk (.cq [MR 29 0,MR 30 1,MR 31 2,aQ 32 (.sg [(.bool false),(.str []),.nil0,.nil0] [(0,(1,(me true))),(1,(1,(.t 31)))]),aQ 33 (.lits 1 4 [(.bool false),(.str []),.nil0,.nil0] [(0,(.t 32))]),aQ 34 (.call ej [(.t 29),(.t 30),(jS 0),(.t 33)])]))))
end
end Go.Am

set_option maxRecDepth 20000
namespace Go.Am
open Go Go.RowKit
def uR.congr (R:uR) {lab Qi:Nat->Lb} (h:∀p,R.ok p->lab p=Qi p) (p:Nat):R.row lab p=R.row Qi p:=by
 have e1:R.row lab p=(R.row Lb.par p).map (dO (S1 lab)):=R.nat Lb.par (S1 lab) p;have e2:R.row Qi p=(R.row Lb.par p).map (dO (S1 Qi)):=R.nat Lb.par (S1 Qi) p;rw[e1,e2];cases hr:R.row Lb.par p with
 |none=>rfl
 |some r=>
 simp only[bT,dO,di,Row.mk.injEq,Su];refine SW λcs bV=>NZ cs λq hq=> ?_;obtain⟨p',BT,rfl⟩:=R.an Lb.par p r hr cs bV q hq;exact h p' BT
def Ed.congr {R:uR} {lab Qi:Nat->Lb} {H:Hp} (hs:Ed lab R H) (h:∀p,R.ok p->lab p=Qi p):Ed Qi R H:=by
 refine⟨λp r hr=> ?_,λp q hp hq e=>hs.inj p q hp hq (by rw[h p hp,h q hq,e])⟩;have hp:R.ok p:=(R.Ec Qi p).1 (by rw[hr];rfl);rw[<-h p hp];exact hs.row p r (by rw[R.congr h];exact hr)
def Bn.name (b:Bn) (n:Nat) (s:Bs):Bn:=match b.nodes[n]? with
 |some x=>b.set n {x with s:=s}
 |none=>b
def ag2 (b:Bn) (p pl:Nat) (l:List Tree):(b.ins p pl l).n0=b.n0:=by unfold Bn.ins;split<;>rfl
section
variable {S:St} {b:Bn} {lab:Nat->Lb} {H:Hp} {k:AV->Hp->Prop} {u:Tw k}
def XA {f:Nat} {L0:Lb} (hI:aau S.P S.G f) (hB:Oi lab b H) (h0:lab 0=L0) (hn:b.n0<=b.nodes.length) {p pl:Nat} (hp:p<b.n0) {x:Node} (hx:b.nodes[p]?=some x) (BS:pl<=x.kids.length)
  {l:List Tree} (hb:b.nodes.length+dE l<=B) (UX:x.kids.length+l.length<=B) (c:Nat) (hN:∀l,H (NC c l)= .unused)
  (hk:∀U9 H2,Oi U9 (b.ins p pl l) H2->(∀p',p'<4+2*b.n0->p'≠1->p'≠5+2*p->U9 p'=lab p') ->
   (∀q,(∀p',p'<4+2*b.n0->q≠lab p')->(∀l,q≠NC c l)->H2 q=H q)->(∀p',p'<4+2*b.n0->(∃p0,p0<4+2*b.n0/\U9 p'=lab p0)\/∃l,U9 p'=NC c l)->k (.gf []) H2) :
  C7 S f [.ptr L0 3 0 0,.int .i64 p,.int .i64 pl,.list (dq l)] H k u:=by
 subst h0;refine WV (lab:=lab) (N:=NC c) (hI b hn p pl hp x hx BS l hb UX) (by simp[bu,bJ,S1]) hB hN (Yo c) (λl h=> .inl h) (λp' BT=>OO.2 (ajq.1 BT).1) ?_;rintro X R2 U9 H2 ⟨rfl,rfl⟩ g1 g2 g3 g4 g5 g6;refine hk U9 H2 g1 (λp' h1 h2 h3=>g2 p' (ajq.2 ⟨h1,h2,h3⟩)) (λq h1 h2=>g4 q (λp' BT=>h1 p' (OO.1 BT)) h2) λp' BT=> ?_;rcases g3 p' (OO.2 (by rw[ag2];exact BT)) with⟨p0,h1,h2⟩|h
 ·exact .inl ⟨p0,OO.1 h1,h2⟩
 exact .inr h
end
def XK {b:Bn} {n:Nat} {x:Node} (hx:b.nodes[n]?=some x):Oi Lb.par b (Lx (Ut b))/\(∀q:Lb,(∀p,p<4+2*b.n0->q≠ .par p)->Lx (Ut b) q= .unused)/\Lx (Ut b) (.loc 3)= .unused/\(∀c l,Lx (Ut b) (NC c l)= .unused)/\n<b.nodes.length /\
  ∀cs,Oi Lb.par b (bD (Lx (Ut b)) (.loc 3) cs):=by
 have VB:Oi Lb.par b (Lx (Ut b)):=Xv _;have hU:∀q:Lb,(∀p,p<4+2*b.n0->q≠ .par p)->Lx (Ut b) q= .unused:=λq hq=>Qa _ λp hp e=>hq p (OO.1 hp) e.symm;exact⟨VB,hU,hU _ tM,λc l=>hU _ aa8,(yY.1 hx).1,λcs=>VB.Yr tM⟩
section
variable {P:Program} {G:Nat->Option (List IV)}
def fO (ej pr gN asx asz:Nat):AC:=
(aM [zzX 3 1] (aM [ep 13 3 1,fm 14 13,MR 4 14] (aM [ep 15 3 0,fm 16 15] (.block 0 (aM [eY 18 .eql 16 1,MR 17 18] (.cond (.t 17) (.seq (.VL [MR 19 0,MR 20 4,MR 21 0,aQ 22 (.dp (.t 21)),ep 23 22 1,fm 24 23,MR 25 4,jL 26 24 25 1,fm 27 26,ep 28 3 2,fm 29 28,aQ 30 (.call ej [(.t 19),(.t 20),(.t 27),(.t 29)])] [[],[],[],[2],[3],[4],[],[5,6],[7],[],[9],[0,1,8,10]] [.no,.no,.no,.no,.no,(.rw [(.par 0)] []),.no,.no,(.rw [(.par 2)] []),.no,.rw [.loc 3] [],.all]) (.VL [MR 31 0,aQ 32 (.dp (.t 31)),ep 33 32 1,fm 34 33,MR 35 4,jL 36 34 35 1,fm 37 36,ep 38 3 2,fm 39 38,oy 40 39,et 41 .add 37 40,jL 42 34 35 1,gg (.store 1 (.t 42) (.t 41))] [[],[0],[1],[2],[],[3,4],[5],[],[7],[8],[6,9],[3,4,0,1,2,3,4,5,6,7,8,9,10],[11,10,0,1,2,3,4,5,6,7,8,9,10]] [.no,.no,.no,(.rw [(.par 0)] []),.no,.no,(.rw [(.par 2)] []),.no,.rw [.loc 3] [],.no,.no,.no,(.rw [] [(.par 2)])])) (aM [eY 44 .eql 16 2,MR 43 44] (.cond (.t 43) (.VL [MR 45 0,MR 46 4,MR 47 0,aQ 48 (.dp (.t 47)),ep 49 48 0,fm 50 49,MR 51 4,jL 52 50 51 5,ep 53 52 4,fm 54 53,oy 55 54,ep 56 3 2,fm 57 56,aQ 58 (.call ej [(.t 45),(.t 46),(.t 55),(.t 57)])] [[],[],[],[2],[3],[4],[],[5,6],[7],[8],[9],[],[11],[0,1,10,12]] [.no,.no,.no,.no,.no,(.rw [(.par 0)] []),.no,.no,.no,(.rw [(.par 1)] []),.no,.no,.rw [.loc 3] [],.all]) (aM [eY 60 .eql 16 3,MR 59 60] (.cond (.t 59) (aM [MR 62 0,MR 63 4,aQ 64 (.call pr [(.t 62),(.t 63)]),MR 61 64,ox 65 61 0,ox 66 61 1,MR 5 65,MR 6 66] (.cq [MR 67 0,MR 68 5,MR 69 6,ep 70 3 2,fm 71 70,aQ 72 (.call ej [(.t 67),(.t 68),(.t 69),(.t 71)])])) (aM [eY 74 .eql 16 4,MR 73 74] (.cond (.t 73) (aM [MR 76 0,MR 77 4,aQ 78 (.call pr [(.t 76),(.t 77)]),MR 75 78,ox 79 75 0,ox 80 75 1,MR 7 79,MR 8 80] (.seq (.VL [MR 81 0,MR 82 7,MR 83 8,eY 84 .add 83 1,MR 85 0,aQ 86 (.dp (.t 85)),ep 87 86 2,fm 88 87,MR 89 4,jL 90 88 89 1,fm 91 90,et 92 .add 84 91,ep 93 3 2,fm 94 93,aQ 95 (.call ej [(.t 81),(.t 82),(.t 92),(.t 94)])] [[],[],[],[2],[],[4],[5],[6],[],[7,8],[9],[3,10],[],[12],[0,1,11,13]] [.no,.no,.no,.no,.no,.no,.no,(.rw [(.par 0)] []),.no,.no,(.rw [(.par 3)] []),.no,.no,.rw [.loc 3] [],.all]) (.VL [MR 96 0,aQ 97 (.dp (.t 96)),ep 98 97 2,fm 99 98,MR 100 4,jL 101 99 100 1,fm 102 101,ep 103 3 2,fm 104 103,oy 105 104,et 106 .add 102 105,jL 107 99 100 1,gg (.store 1 (.t 107) (.t 106))] [[],[0],[1],[2],[],[3,4],[5],[],[7],[8],[6,9],[3,4,0,1,2,3,4,5,6,7,8,9,10],[11,10,0,1,2,3,4,5,6,7,8,9,10]] [.no,.no,.no,(.rw [(.par 0)] []),.no,.no,(.rw [(.par 3)] []),.no,.rw [.loc 3] [],.no,.no,.no,(.rw [] [(.par 3)])]))) (aM [eY 109 .eql 16 5,MR 108 109] (.cond (.t 108) (aM [MR 111 0,MR 112 4,aQ 113 (.call pr [(.t 111),(.t 112)]),MR 110 113,ox 114 110 0,ox 115 110 1,MR 9 114,MR 10 115] (aM [MR 116 10,eY 117 .geq 116 0] (.cond (.t 117) (.VL [MR 118 0,aQ 119 (.dp (.t 118)),ep 120 119 0,fm 121 120,MR 122 9,MR 123 0,aQ 124 (.dp (.t 123)),ep 125 124 0,fm 126 125,MR 127 9,jL 128 126 127 5,ep 129 128 4,fm 130 129,MR 131 10,MR 132 10,eY 133 .add 132 1,aQ 134 (.call gN [(.t 130),(.t 131),(.t 133)]),jL 135 121 122 5,ep 136 135 4,gg (.store 1 (.t 136) (.t 134))] [[],[0],[1],[2],[],[],[5],[6],[7],[],[8,9],[10],[11],[],[],[14],[12,13,15],[3,4,0,1,2,3,4,5,6,7,8,9,10,11,12,13,14,15,16],[17,0,1,2,3,4,5,6,7,8,9,10,11,12,13,14,15,16],[18,16,16,0,1,2,3,4,5,6,7,8,9,10,11,12,13,14,15,16]] [.no,.no,.no,(.rw [(.par 0)] []),.no,.no,.no,.no,(.rw [(.par 0)] []),.no,.no,.no,(.rw [(.par 1)] []),.no,.no,.no,(.p_ [(.par 0)]),.no,.no,(.rw [] [(.par 1)])]) .skip))) (aM [eY 138 .eql 16 6,MR 137 138] (.cond (.t 137) (aM [MR 140 0,MR 141 4,aQ 142 (.call pr [(.t 140),(.t 141)]),MR 139 142,ox 143 139 0,ox 144 139 1,MR 11 143,MR 12 144] (.seq (.VL [MR 145 0,aQ 146 (.dp (.t 145)),ep 147 146 0,fm 148 147,MR 149 11,MR 150 0,aQ 151 (.dp (.t 150)),ep 152 151 0,fm 153 152,MR 154 11,jL 155 153 154 5,ep 156 155 4,fm 157 156,MR 158 12,MR 159 12,eY 160 .add 159 1,aQ 161 (.call gN [(.t 157),(.t 158),(.t 160)]),jL 162 148 149 5,ep 163 162 4,gg (.store 1 (.t 163) (.t 161))] [[],[0],[1],[2],[],[],[5],[6],[7],[],[8,9],[10],[11],[],[],[14],[12,13,15],[3,4,0,1,2,3,4,5,6,7,8,9,10,11,12,13,14,15,16],[17,0,1,2,3,4,5,6,7,8,9,10,11,12,13,14,15,16],[18,16,16,0,1,2,3,4,5,6,7,8,9,10,11,12,13,14,15,16]] [.no,.no,.no,(.rw [(.par 0)] []),.no,.no,.no,.no,(.rw [(.par 0)] []),.no,.no,.no,(.rw [(.par 1)] []),.no,.no,.no,(.p_ [(.par 0)]),.no,.no,(.rw [] [(.par 1)])]) (.cq [MR 164 0,MR 165 11,MR 166 12,ep 167 3 2,fm 168 167,aQ 169 (.call ej [(.t 164),(.t 165),(.t 166),(.t 168)])]))) (aM [eY 171 .eql 16 7,MR 170 171] (.cond (.t 170) (.cq [MR 172 0,MR 173 4,ep 174 3 4,fm 175 174,aQ 176 (.call asx [(.t 172),(.t 173),(.t 175)])]) (aM [eY 178 .eql 16 8,MR 177 178] (.cond (.t 177) (.VL [MR 179 0,aQ 180 (.dp (.t 179)),ep 181 180 0,fm 182 181,MR 183 4,ep 184 3 3,fm 185 184,jL 186 182 183 5,ep 187 186 1,gg (.store 1 (.t 187) (.t 185))] [[],[0],[1],[2],[],[],[5],[3,4,0,1,2,3,4,5,6],[7,0,1,2,3,4,5,6],[8,6,0,1,2,3,4,5,6]] [.no,.no,.no,(.rw [(.par 0)] []),.no,.no,.rw [.loc 3] [],.no,.no,(.rw [] [(.par 1)])]) (.seq (aM [eY 189 .eql 16 9,MR 188 189] (.cond (.t 188) .skip (.cq [eY 190 .eql 16 10,MR 188 190]))) (.cond (.t 188) (.cq [MR 191 0,gz 192 5 3,aQ 193 (.call asz [(.t 191),(.t 192)])]) .skip))))))))))))))))))))))
def aiF {kX ej pr gN asx asz:Nat} (hF:aw P G kX=some (194,[],(fO ej pr gN asx asz).bare)) (b:Bn) (hn:b.n0<=b.nodes.length) (n:Nat) (hp:n<b.n0) (x:Node) (hx:b.nodes[n]?=some x)
  (co:List Tree) (na st:Bs) (hb:b.nodes.length+dE co<=B) (UX:x.kids.length+co.length<=B) (hI:aau P G ej) :
  Jg P G kX [.ptr (.par 0) 3 0 0,(⟨2,n,co,na,st⟩:Op).av] (Ut b) [0,2,3] λX R2=>X=(λ_=> .gf [])/\R2=Ut (b.ins n x.kids.length co):=by
 refine VM hF tM (by simp[ah,AV.an,OO,Op.av];omega) ?_;obtain⟨VB,hU,h3,hN,hlen,hA3⟩:=XK (b:=b) hx;have zo:B=1073741824:=rfl;have jY:=VB.get hx;rw[Va (n0:=b.n0) (lab:=Lb.par) (x:=x) hp] at jY;unfold fO;simp only[↓aX,mX,seval,Op.av,h3,Int.reduceBEq]
 try simp only[↓aX,mX,seval,Op.av,h3,VB.s,VB.n,VB.f,VB.a,hlen,pz,QJ,Qj,A5,Su,bM,jY,bF]
 refine⟨rfl,?_⟩;refine XA hI (hA3 _) rfl hn hp hx (PW _) hb UX 9 (λl=>by rw[aq _ _ aa8];exact hN 9 l) ?_;intro U9 H2 g1 g2 g4 g5;simp only[↓aX,mX,seval];rw[lM];refine⟨[],rfl,⟨λ_=> .gf [],_,U9⟩,⟨rfl,rfl⟩,λρ=>by simp[bJ,bu],by simp[gD,AV.an,ah],rfl,g1,?_⟩;rintro p' (rfl|rfl|rfl)
 ·exact g2 0 sf sf sf
 ·exact g2 2 sf sf sf
 exact g2 3 sf sf sf
end

def ofK (l:List Op) (k:Int) (n:Nat):List Op:=l.filter λo=>o.kind==k&&o.target==(n:Int)
def asJ (l:List Op) (k:Int) (n:Nat):List Tree:=(ofK l k n).flatMap Op.content
def VA (l:List Op) (k:Int) (n:Nat):Bool:= !(ofK l k n).isEmpty
def Wi (l:List Op) (n:Nat) (s:Bs):Bs:=match(ofK l 7 n).getLast? with|some o=>o.s|none=>s
def Wr (l:List Op) (n:Nat) (s:Bs):Bs:=match(ofK l 8 n).getLast? with|some o=>o.name|none=>s
def X4 (n:Nat) (az:List Attr) (o:Op):List Attr:=if o.target=(n:Int)/\(o.kind=9\/o.kind=10) then TV az o else az
def Vb (l:List Op) (n:Nat) (az:List Attr):List Attr:=l.foldl (X4 n) az
mutual
def Tree.YL (l:List Op) (off:Nat):Tree->List Tree
 | .mk t s az ks=>asJ l 3 off++(if VA l 6 off then asJ l 6 off else if VA l 5 off then [] else
  [.mk t (if t then Wi l off s else Wr l off s) (Vb l off az) (if t then [] else if VA l 7 off then [UR (Wi l off [])] else asJ l 1 off++turns l (off+1) ks++asJ l 2 off)])++asJ l 4 off
def turns (l:List Op) (off:Nat):List Tree->List Tree
 |[]=>[]
 |k::r=>k.YL l off++turns l (off+k.jz) r
end
def Tree.V5 (l:List Op) (off:Nat) (x:Tree):Tree:=
 .mk x.text (if x.text then Wi l off x.s else Wr l off x.s) (Vb l off x.attrs) (if x.text then [] else if VA l 7 off then [UR (Wi l off [])] else asJ l 1 off++turns l (off+1) x.kids++asJ l 2 off)
def Tree.afW (l:List Op) (off:Nat) (x:Tree):x.YL l off=asJ l 3 off++(if VA l 6 off then asJ l 6 off else if VA l 5 off then [] else [x.V5 l off])++asJ l 4 off:=by
 cases x with|mk t s az ks=>rw[Tree.YL];rfl
inductive Itm where
 |old (k:Nat)
 |new (t:Tree)
def Rp (b:Bn) (k:Int):Itm->Prop
 | .old j=>k=(j:Int)
 | .new t=>∃m:Nat,k=(m:Int)/\b.n0<=m/\∃q,oc b.nodes m q t
def news (l:List Tree):List Itm:=l.map .new
def Vp (l:List Op) (k:Nat):List Itm:=news (asJ l 3 k)++(if VA l 6 k then news (asJ l 6 k) else if VA l 5 k then [] else [.old k])++news (asJ l 4 k)
def Vm (l:List Op) (i:Nat) (y:Tree):List Itm:=
 if y.text then [] else if VA l 7 i then [.new (UR (Wi l i []))] else news (asJ l 1 i)++(S6 (i+1) y.kids).flatMap (Vp l)++news (asJ l 2 i)
structure Ze (t:Tree) (l:List Op) (b:Bn):Prop where
 n0:b.n0=t.jz
 le:b.n0<=b.nodes.length
 nd:∀i q y,Sub 0 (-1) t i q y->∃ks,b.nodes[i]?=some ⟨y.text,if y.text then Wi l i y.s else Wr l i y.s,Vb l i y.attrs,q,ks⟩/\iF (Rp b) ks (Vm l i y)
 fs:b.fs.length=t.jz/\∀i,i<t.jz->b.fs[i]?=some ((asJ l 1 i).length:Int)
 az:b.az.length=t.jz/\∀i,i<t.jz->b.az[i]?=some ((asJ l 4 i).length:Int)
def Ext (b b':Bn):Prop:=b'.n0=b.n0/\b.nodes.length<=b'.nodes.length/\∀m q tr,b.n0<=m->oc b.nodes m q tr->oc b'.nodes m q tr
theorem Rp.ext {b b':Bn} (h:Ext b b') {k:Int}:∀{x:Itm},Rp b k x->Rp b' k x
 | .old j,hx=>hx
 | .new t,⟨m,h1,h2,q,h3⟩=>⟨m,h1,by rw[h.1];exact h2,q,h.2.2 m q t h2 h3⟩
theorem W8 {α γ:Type} {R:α->γ->Prop}:∀{l:List α} {m:List γ} {l':List α} {m':List γ},iF R l m->iF R l' m'->iF R (l++l') (m++m')
 |_,_,_,_,.nil,h=>h
 |_,_,_,_,.cons h1 h2,h=> .cons h1 (W8 h2 h)

def Ext.refl (b:Bn):Ext b b:=⟨rfl,PW _,λ_ _ _ _ h=>h⟩
def Ext.trans {a b c:Bn} (h1:Ext a b) (h2:Ext b c):Ext a c:=
 ⟨h2.1.trans h1.1,U' h1.2.1 h2.2.1,λm q tr hm h=>h2.2.2 m q tr (by rw[h1.1];exact hm) (h1.2.2 m q tr hm h)⟩
section
variable {b:Bn} {p:Nat} {x:Node}
def Th (hx:b.nodes[p]?=some x) (y:Node):(b.set p y).nodes[p]?=some y:=Wj (yY.1 hx).1
end
theorem aaN:∀(off:Nat) (a b:List Tree),S6 off (a++b)=S6 off a++S6 (off+dP a) b
 |off,[],b=>by simp[S6,dP]
 |off,x::r,b=>by simp[S6,dP,aaN (off+x.jz) r b,ze]
theorem Zz:∀(off:Nat) (xs:List Tree) (k:Nat),k∈S6 off xs->k<off+dP xs
 |off,[],k,h=>by simp[S6] at h
 |off,x::r,k,h=>by
  have:=x.uE;simp only[S6,PY] at h;rcases h with rfl|h
  ·simp only[dP];omega
  have:=Zz (off+x.jz) r k h;simp only[dP];omega
def abH {t:Tree} {m n:Nat} {r:Int} {z y:Tree} {a c:List Tree} (h1:z.kids=a++y::c) (h2:n=m+1+dP a):S6 (m+1) z.kids=S6 (m+1) a++n::S6 (n+y.jz) c/\(∀k∈S6 (m+1) a,k<n)/\∀k∈S6 (n+y.jz) c,n<k:=by
 have:=y.uE;refine⟨by rw[h1,aaN,h2];simp[S6],λk hk=>by have:=Zz _ _ _ hk;omega,λk hk=>by have:=Y1 _ _ k hk;omega⟩
section
variable {t:Tree} {l:List Op} {b:Bn} {o:Op} {n:Nat} {q:Int} {y:Tree}
structure VY (t:Tree) (l:List Op) (b:Bn) (n:Nat) (y:Tree) where
 m:Nat
 z:Tree
 r:Int
 a:List Tree
 c:List Tree
 ks:List Int
 hz:Sub 0 (-1) t m r z
 hk:z.kids=a++y::c
 hn:n=m+1+dP a
 nd:b.nodes[m]?=some ⟨z.text,if z.text then Wi l m z.s else Wr l m z.s,Vb l m z.attrs,r,ks⟩
 rp:iF (Rp b) ks (Vm l m z)
 zt:z.text=false
variable {n:Nat}
def VY.A (B:VY t l b n y):List Itm:=news (asJ l 1 B.m)++(S6 (B.m+1) B.a).flatMap (Vp l)
def VY.C (B:VY t l b n y):List Itm:=(S6 (n+y.jz) B.c).flatMap (Vp l)++news (asJ l 2 B.m)
def VY.split (B:VY t l b n y):S6 (B.m+1) B.z.kids=S6 (B.m+1) B.a++n::S6 (n+y.jz) B.c/\(∀k∈S6 (B.m+1) B.a,k<n)/\∀k∈S6 (n+y.jz) B.c,n<k:=
 abH (t:=t) (r:=B.r) B.hk B.hn
def VY.items (B:VY t l b n y) (hv:VA l 7 B.m=false):Vm l B.m B.z=B.A++Vp l n++B.C:=by
 unfold Vm;rw[B.zt,hv,B.split.1];simp[VY.A,VY.C]
end

mutual
def Tree.rep (d:Doc) (n:Nat):Tree->Prop
 | .mk t s az ks=>∃p kd,d[n]?=some ⟨t,s,az,p,kd⟩/\Yt d kd ks
def Yt (d:Doc):List Int->List Tree->Prop
 |[],[]=>True
 |k::r,x::xs=>(∃m:Nat,k=m/\x.rep d m)/\Yt d r xs
 |[],_::_=>False
 |_::_,[]=>False
end
theorem abJ {d:Doc}:∀{ks:List Int} {xs:List Tree},Yt d ks xs->ks.length=xs.length
 |[],[],_=>rfl
 |k::r,x::xs,h=>by simp only[Yt] at h;simp[abJ h.2]
 |[],_::_,h=>by simp[Yt] at h
 |_::_,[],h=>by simp[Yt] at h
theorem abK {d:Doc}:∀{ks:List Int} {xs:List Tree},Yt d ks xs->∀{i:Nat} {x:Tree},xs[i]?=some x->∃m:Nat,ks[i]?=some (m:Int)/\x.rep d m
 |[],[],_,i,x,hx=>by simp at hx
 |k::r,y::xs,h,0,x,hx=>by
  simp only[Yt] at h;obtain⟨⟨m,rfl,hm⟩,_⟩:=h;simp at hx;subst hx;exact⟨m,rfl,hm⟩
 |k::r,y::xs,h,i+1,x,hx=>by
  simp only[Yt] at h;obtain⟨m,h1,h2⟩:=abK h.2 (i:=i) (x:=x) (by simpa using hx);exact⟨m,by simpa using h1,h2⟩
 |[],_::_,h,i,x,hx=>by simp[Yt] at h
 |_::_,[],h,i,x,hx=>by simp[Yt] at h
def XO (d:Doc) (fs az:List Int):AV:= .lptr [.list (d.map Node.iv),.list (fs.map xX),.list (az.map xX)]
section
variable {P:Program} {G:Nat->Option (List IV)}
def Vu (c7:Nat):AC:=
(aM [aQ 4 (.new [(.bool false),(.str []),.nil0,.nil0])] (aM [MR 9 0,aQ 10 (.dp (.t 9)),ep 11 10 0,fm 12 11,MR 13 1,jL 14 12 13 5,gz 15 5 14,aQ 5 (.new [(.bool false),(.str []),.nil0,(.int .i64 0),.nil0]),gg (.store 5 (.t 5) (.t 15))] (aM [ep 16 5 0,fm 17 16,ep 18 5 1,fm 19 18,ep 20 5 2,fm 21 20,aQ 22 (.sg [(.bool false),(.str []),.nil0,.nil0] [(0,(1,(.t 17))),(1,(1,(.t 19))),(2,(1,(.t 21)))]),aQ 6 (.new [(.bool false),(.str []),.nil0,.nil0]),gg (.store 4 (.t 6) (.t 22))] (.seq (.gh .vk (aM [ep 23 5 4,fm 24 23,oy 25 24,gH 26 0] (.block 0 (.loop (aM [et 27 .lss 26 25] (.seq (.cond (.t 27) .skip (.exit 0)) (.seq (.block 1 (aM [jL 28 24 26 1,fm 29 28,MR 8 29] (.VL [ep 30 6 3,fm 31 30,MR 32 0,MR 33 8,aQ 34 (.call c7 [(.t 32),(.t 33)]),aQ 35 (.lits 1 4 [(.bool false),(.str []),.nil0,.nil0] [(0,(.t 34))]),aQ 36 (.app (.t 31) (.t 35) 4 72),ep 37 6 3,gg (.store 1 (.t 37) (.t 36))] [[],[0],[],[],[2,3],[4],[1,5,4],[0,1,2,3,4,5,6],[7,6,6,0,1,2,3,4,5,6]] [.no,.rw [.loc 6] [],.no,.no,.no,.no,(.rw [] [(.loc 50),(.loc 36)]),.no,.rw [] [.loc 6]]))) (.cq [eY 38 .add 26 1,MR 26 38])))))))) (.gh (.xd (.loc 50) (.loc 6) 3) (aM [gz 39 4 6,gg (.store 4 (.t 4) (.t 39))] .ret))))))
def afY {c7:Nat} (hF:aw P G c7=some (40,[((some (some 4)),4)],(Vu c7).bare)) (d:Doc) (fs az:List Int) (hd:d.length<=B) (n:Nat) (x:Tree) (hL:x.rep d n) (hx:x.wt<=B)
  (hK:∀k∈x.kids,∀(m:Nat),k.rep d m->au P G c7 [XO d fs az,.int .i64 m] k.av):au P G c7 [XO d fs az,.int .i64 n] x.av:=by
 refine Ws hF tM (by simp[ah,AV.an,XO]) (by simp[AV.an,Tree.av,ah]) ?_;obtain⟨tt,ss,aa,kk⟩:=x;simp only[Tree.rep] at hL;obtain⟨p,kd,Zs,agw⟩:=hL;have bI:=(yY.1 Zs).1;have hwx:=(Tree.mk tt ss aa kk).gx;simp only[Tree.kids,Tree.s,Tree.attrs] at hwx;have Hm:=eZ kk;have JV:=abJ agw;have hgd:(d.map Node.iv)[n]?=some (⟨tt,ss,aa,p,kd⟩:Node).iv:=by rw[cn,Zs];rfl
 unfold Vu;simp only[↓aX,mX,seval,XO,G_,hgd,Xx,Node.cJ,Node.cs];rw[Ox];refine⟨_,_,Qm (q:= .loc 6) (cs:=[.bool tt,.str ss,.list (cD aa),.nil0]) (j:=3) (d:=50) (sz:=4) rfl rfl aat M3,?_⟩;simp only[↓aX,mX,seval];refine pe (σ:={i:Nat // i<=kk.length}) (λ_=>[.loc 4,.loc 6,.loc 50]) (λ_ _=>false)
  (λq=>[(0,XO d fs az),(4,.ptr (.loc 4) 4 0 0),(6,.ptr (.loc 6) 4 0 0),(24,.list (kd.map xX)),(25,.int .i64 kk.length),(26,.int .i64 q.1)])
  (λq=>[(.loc 4,⟨4,[[.bool false,.str [],.nil0,.nil0]]⟩),(.loc 6,⟨4,[[.bool tt,.str ss,.list (cD aa),.sl (.loc 50) 4 0 q.1]]⟩),(.loc 50,⟨4,aB (dq (kk.take q.1))⟩)])
  (λq=>kk.length - q.1) ⟨0,zd _⟩ (λ_=>rfl) (λq=>by simp[ah,AV.an,XO]) ?_ ⟨[],?_⟩ ?_
 ·rintro q r hr cs bV l hl;simp only[PY,QN,QV] at hr;rcases hr with rfl|rfl|rfl
  ·simp only[bY] at bV;subst bV;simp[ah,AV.an] at hl
  ·simp only[bY] at bV;subst bV;simp[ah,AV.an] at hl;subst hl;simp
  rw[bU bV] at hl;simp at hl
 ·refine⟨?_,?_,?_,aar,λl _=>⟨id,λ_=>rfl⟩⟩
  ·intro l hf hu;exfalso;apply hu;cases l<;>simp_all[Lb.fresh,ae,Hp.none]
  ·simp[k_,dn,bJ,put,JV,XO,jP]
  simp[tc,dn,ae,dO,bu,bJ,aB,dq]
 rintro⟨i,hi⟩;rw[Cf];simp only[↓aX,mX,seval,cF,bW];by_cases bI:i<kk.length
 ·rw[show decide ((i:Int)<(kk.length:Int))=true by simpa using bI];obtain⟨k,HA⟩:∃k,kk[i]?=some k:=⟨_,rX bI⟩;have hw:IntKind.i64.wrap ((i:Int)+1)=((i+1:Nat):Int):=wrap64 sf (by unfold B at hx;omega);obtain⟨m,hg,hm⟩:=abK agw HA;simp only[↓aX,mX,seval,aaX,hg,YN,G_,bT,xX,IV.cells];have hkm:=PX HA;have MG:(dq (kk.take i)).length=i:=by rw[bF,tp];omega
  have zB:dq (kk.take (i+1))=dq (kk.take i)++[.agg [.bool k.text,.str k.s,.list (cD k.attrs),.list (dq k.kids)]]:=by rw[Vl HA,qh];simp[dq,Tree.o_,Tree.cs]
  refine⟨rfl,jw (hK k hkm m hm) ?_⟩;simp only[↓aX,mX,seval,Tree.av];rw[qg 4 72 36 50 (dq (kk.take i)) (.agg [.bool k.text,.str k.s,.list (cD k.attrs),.list (dq k.kids)]) aai MG rfl aaw (by unfold B at hx;omega) M3 M3 aat];simp only[↓aX,mX,seval,hw];refine⟨by rintro l (rfl|rfl)<;>simp[Lb.iQ],?_⟩;refine⟨⟨i+1,bI⟩,aac,[(.loc 50,.loc 36)],?_⟩;refine⟨?_,?_,?_,aar,?_⟩
  ·intro l hf hu;exfalso;apply hu;cases l<;>simp_all[Lb.fresh,ae,Hp.none]
  ·simp[k_,dn,bJ,put,XO,o9]
  ·have hr:∀xs:List IV,dO (dn [(.loc 50,.loc 36)]) ⟨4,aB xs⟩=⟨4,aB xs⟩:=λxs=>dy _ _ _;simp[tc,dn,ae,dO,bu,bJ,zB];simp[aB,nT]
  intro l hl;simp only[PY,QN,QV] at hl;rcases hl with rfl|rfl|rfl
  ·exact⟨λ_=>rfl,λ_=>rfl⟩
  ·exact⟨λ_=>rfl,λ_=>rfl⟩
  exact⟨λ_=>rfl,λh=>by simp[Lb.fresh] at h⟩
 have XV:i=kk.length:=sf
 subst XV;rw[show decide ((kk.length:Int)<(kk.length:Int))=false by simp];simp only[↓aX,mX,seval,Rk];refine⟨4,dq kk,0,kk.length,[.bool tt,.str ss,.list (cD aa),.sl (.loc 50) 4 0 kk.length],rfl,rfl,rfl,tM,by rw[bF];omega,pa _,?_⟩;simp only[↓aX,mX,seval,tn,P5 (show(dq kk).length<=kk.length by rw[bF];exact PW _)];rfl
theorem aeX {c7:Nat} (hF:aw P G c7=some (40,[((some (some 4)),4)],(Vu c7).bare)) (d:Doc) (fs az:List Int) (hd:d.length<=B):∀(m:Nat) (x:Tree),x.jz<=m->∀(n:Nat),x.rep d n->x.wt<=B->au P G c7 [XO d fs az,.int .i64 n] x.av
 |0,x,h,_,_,_=>by have:=x.uE;omega
 |m+1,x,h,n,hL,hx=>by
  have hw:=x.gx;refine afY hF d fs az hd n x hL hx λk hk n' hr=> ?_;have h1:=aab hk;obtain⟨i,hi⟩:=Sw hk;have h2:=jx _ _ _ hi;exact aeX hF d fs az hd m k (by rw[x.n8] at h;omega) n' hr sf
end

mutual
theorem oc.rep {d:Doc}:∀(x:Tree) (n:Nat) (q:Int),oc d n q x->x.rep d n
 | .mk t s az ks,n,q,h=>by
  simp only[Tree.rep];exact⟨q,mw (n+1) ks,h.node,aaO n q (.mk t s az ks) h ks [] abL⟩
theorem aaO {d:Doc} (n:Nat) (q:Int) (x:Tree) (h:oc d n q x):∀(ks pre:List Tree),x.kids=pre++ks->Yt d (mw (n+1+dP pre) ks) ks
 |[],_,_=>by simp[mw,Yt]
 |k::r,pre,e=>by
  simp only[mw,Yt];refine⟨⟨_,rfl,oc.rep k _ _ (h.Ce pre r k e)⟩,?_⟩;have:=aaO n q x h r (pre++[k]) (by rw[e];simp);rw[lU] at this;simpa[dP,ze] using this
end
def Rt (d:Doc):Itm->Tree->Prop
 | .old k,x=>x.rep d k
 | .new t,x=>x=t
theorem ac8 {b:Bn}:∀{ks:List Int} {its:List Itm} {xs:List Tree},iF (Rp b) ks its->iF (Rt b.nodes) its xs->Yt b.nodes ks xs
 |_,_,_,.nil,.nil=>by simp[Yt]
 |_,_,_,.cons (b:=i) h1 h2,.cons (b:=x) g1 g2=>by
  simp only[Yt];refine⟨?_,ac8 h2 g2⟩;cases i with
  |old j=>exact⟨j,h1,g1⟩
  |new t=>
  obtain⟨m,e,_,q,hl⟩:=h1;have g1:x=t:=g1;subst g1;exact⟨m,e,oc.rep _ _ _ hl⟩
theorem YH (d:Doc):∀L:List Tree,iF (Rt d) (news L) L
 |[]=> .nil
 |x::r=>by simp only[news,Rj];exact .cons rfl (YH d r)
def ag6 {d:Doc} {l:List Op} {k:Nat} {x:Tree} (h:(x.V5 l k).rep d k):iF (Rt d) (Vp l k) (x.YL l k):=by
 rw[Tree.afW];unfold Vp;refine W8 (W8 (YH d _) ?_) (YH d _);split
 ·exact YH d _
 split
 ·exact .nil
 exact .cons h .nil
theorem ac9 {d:Doc} {l:List Op}:∀(off:Nat) (ks:List Tree),(∀a x c,ks=a++x::c->(x.V5 l (off+dP a)).rep d (off+dP a))->iF (Rt d) ((S6 off ks).flatMap (Vp l)) (turns l off ks)
 |_,[],_=>by simp[S6,turns];exact .nil
 |off,x::r,h=>by
  simp only[S6,turns,VQ];refine W8 (ag6 (by simpa[dP] using h [] x r rfl)) (ac9 _ r λa z c e=> ?_);have:=h (x::a) z c (by rw[e];rfl);simp only[dP] at this;rw[ze];exact this
theorem Ze.rep {t:Tree} {l:List Op} {b:Bn} (h:Ze t l b):∀(m i:Nat) (q:Int) (y:Tree),y.jz<=m->Sub 0 (-1) t i q y->(y.V5 l i).rep b.nodes i
 |0,_,_,y,hm,_=>by have:=y.uE;omega
 |m+1,i,q,y,hm,hy=>by
  obtain⟨ks,h1,h2⟩:=h.nd i q y hy;unfold Tree.V5;simp only[Tree.rep];refine⟨q,ks,h1,ac8 h2 ?_⟩;unfold Vm;split
  ·exact .nil
  split
  ·exact .cons rfl .nil
  refine W8 (W8 (YH _ _) (ac9 _ _ λa x c e=> ?_)) (YH _ _);have hc:=y.n8;rw[e,lU] at hc;simp only[dP] at hc;exact Ze.rep h m _ i x sf (hy.trans (.Ce a c x e (.self _ _ _)))
def adG (n:Nat) (o:Op):Bool:=decide (o.target=(n:Int)/\(o.kind=9\/o.kind=10))
def aaP (l:List Op) (n:Nat) (az:List Attr):Vb l n az=(l.filter (adG n)).foldl TV az:=by
 unfold Vb;induction l generalizing az with
 |nil=>rfl
 |cons o r ih=>
 rw[Bw,ih,zp];by_cases h:o.target=(n:Int)/\(o.kind=9\/o.kind=10)
 ·rw[P8 (by simp[adG,h]),Bw,X4,P8 h]
 rw[Ev (by simpa[adG] using h),X4,Ev h]
structure Alike (l l':List Op):Prop where
 k:∀k n,ofK l' k n=ofK l k n
 a:∀n,l'.filter (adG n)=l.filter (adG n)
section
variable {l l':List Op} (h:Alike l l')
include h
def Alike.asJ (k:Int) (n:Nat):asJ l' k n=Am.asJ l k n:=by unfold Am.asJ;rw[h.k]
def Alike.VA (k:Int) (n:Nat):VA l' k n=Am.VA l k n:=by unfold Am.VA;rw[h.k]
def Alike.Wi (n:Nat) (s:Bs):Wi l' n s=Am.Wi l n s:=by unfold Am.Wi;rw[h.k]
def Alike.Wr (n:Nat) (s:Bs):Wr l' n s=Am.Wr l n s:=by unfold Am.Wr;rw[h.k]
def Alike.Vb (n:Nat) (az:List Attr):Vb l' n az=Am.Vb l n az:=by rw[aaP,aaP,h.a]
end
mutual
theorem Alike.YL {l l':List Op} (h:Alike l l'):∀(x:Tree) (off:Nat),x.YL l' off=x.YL l off
 | .mk t s az ks,off=>by simp only[Tree.YL,h.asJ,h.VA,h.Wi,h.Wr,h.Vb,Alike.turns h ks (off+1)]
theorem Alike.turns {l l':List Op} (h:Alike l l'):∀(xs:List Tree) (off:Nat),turns l' off xs=turns l off xs
 |[],_=>by simp[Am.turns]
 |x::r,off=>by simp only[Am.turns,Alike.YL h x off,Alike.turns h r (off+x.jz)]
end
def Alike.V5 {l l':List Op} (h:Alike l l') (x:Tree) (off:Nat):x.V5 l' off=x.V5 l off:=by
 unfold Tree.V5;simp only[h.asJ,h.VA,h.Wi,h.Wr,h.Vb,h.turns]

def kC (k:Int):Bool:=decide (k<=4)||k==6
def kN (k:Int):Bool:=decide (8<=k)
def kT (k:Int):Bool:=k==7||k==9
def kB (k:Int):Bool:=decide (3<=k)&&decide (k<=6)
def XS (x:Node) (o:Op):Int:=
 if(if kC o.kind then !content o.content else decide ((o.content.length:Int)>0)) then 1
 else if(if kN o.kind then !named o.name else o.name !=[]) then 1
 else if(if kT o.kind then !plain o.s else o.s !=[]) then 1
 else if kB o.kind&&decide (x.parent<0) then 6
 else if x.text&&(!kB o.kind&&o.kind !=7) then 4 else 0
def tQ:=And.intro @ge_iff_le.{0} (And.intro @gt_iff_lt.{0} (And.intro Ts (And.intro XG (And.intro @bF (And.intro Op.av.eq_1 (And.intro Node.av.eq_1 (And.intro @List.length_cons.{0} (And.intro @List.length_nil.{0} (And.intro QK QI)))))))))
def Wy (No Vs Oo:Nat):AC:=
(aM [zzX 2 0,zzX 3 1,gH 4 0] (aM [ep 9 3 0,fm 10 9,eY 11 .leq 10 4,MR 12 11,oH 13 12 3 0,oG 14 12 13,iR 15 12 (.bin .eql (.t 14) (jS 6)),sj 16 12 15,MR 5 16] (aM [ep 17 3 0,fm 18 17,eY 19 .geq 18 8,MR 6 19] (aM [ep 20 3 0,fm 21 20,eY 22 .eql 21 7,MR 23 22,oH 24 23 3 0,oG 25 23 24,iR 26 23 (.bin .eql (.t 25) (jS 9)),sj 27 23 26,MR 7 27] (aM [ep 28 3 0,fm 29 28,eY 30 .geq 29 3,MR 31 30,Wb 32 31 3 0,jm 33 31 32,dW 34 31 (.bin .leq (.t 33) (jS 6)),jT 35 31 34,MR 8 35] (.seq (.block 0 (aM [MR 37 5,MR 38 37,Wb 39 38 3 2,jm 40 38 39,dW 41 38 (.call No [(.t 40)]),dW 42 38 (.not (.t 41)),jT 43 38 42,MR 44 43,gV 45 44 5,iR 46 44 (.not (.t 45)),gV 47 44 46,Wb 48 47 3 2,jm 49 47 48,dW 50 47 (.len (.t 49)),dW 51 47 (.bin .gtr (.t 50) (jS 0)),iR 52 44 (.pick (.t 47) (.t 51) (me false)),sj 53 44 52,MR 36 53] (.cond (.t 36) (aM [gH 4 1] .ret) (aM [MR 55 6,MR 56 55,Wb 57 56 3 3,jm 58 56 57,dW 59 56 (.call Vs [(.t 58)]),dW 60 56 (.not (.t 59)),jT 61 56 60,MR 62 61,gV 63 62 6,iR 64 62 (.not (.t 63)),gV 65 62 64,Wb 66 65 3 3,jm 67 65 66,dW 68 65 (.bin .neq (.t 67) (.c (.str []))),iR 69 62 (.pick (.t 65) (.t 68) (me false)),sj 70 62 69,MR 54 70] (.cond (.t 54) (aM [gH 4 1] .ret) (aM [MR 72 7,MR 73 72,Wb 74 73 3 4,jm 75 73 74,dW 76 73 (.call Oo [(.t 75)]),dW 77 73 (.not (.t 76)),jT 78 73 77,MR 79 78,gV 80 79 7,iR 81 79 (.not (.t 80)),gV 82 79 81,Wb 83 82 3 4,jm 84 82 83,dW 85 82 (.bin .neq (.t 84) (.c (.str []))),iR 86 79 (.pick (.t 82) (.t 85) (me false)),sj 87 79 86,MR 71 87] (.cond (.t 71) (aM [gH 4 1] .ret) (aM [MR 89 8,MR 90 89,Wb 91 90 2 3,jm 92 90 91,dW 93 90 (.bin .lss (.t 92) (jS 0)),jT 94 90 93,MR 88 94] (.cond (.t 88) (aM [gH 4 6] .ret) (aM [ep 96 2 0,fm 97 96,MR 98 97,cU 99 98 8,dW 100 98 (.not (.t 99)),jT 101 98 100,MR 102 101,Wb 103 102 3 0,jm 104 102 103,dW 105 102 (.bin .neq (.t 104) (jS 7)),jT 106 102 105,MR 95 106] (.cond (.t 95) (aM [gH 4 4] .ret) .skip))))))))))) (aM [gH 4 0] .ret)))))))
set_option maxHeartbeats 4000000 in
def afZ {P:Program} {G:Nat->Option (List IV)} {akT No Vs Oo:Nat} (hF:aw P G akT=some (107,[(none,4)],(Wy No Vs Oo).bare)) (x:Node) (k ta:Int) (co:List Tree) (na st:Bs)
  (hC:au P G No [.list (dq co)] (.bool (content co))) (hN:au P G Vs [.str na] (.bool (named na))) (hP:au P G Oo [.str st] (.bool (plain st)))
  (hk:k=1\/k=2\/k=3\/k=4\/k=5\/k=6\/k=7\/k=8\/k=9\/k=10) :
  au P G akT [x.av,(⟨k,ta,co,na,st⟩:Op).av] (.int .i64 (XS x ⟨k,ta,co,na,st⟩)):=by
 refine aR hF tM (by simp[ah,AV.an,Op.av,Node.av]) aad ?_;unfold Wy;clear hF;rcases hk with rfl|rfl|rfl|rfl|rfl|rfl|rfl|rfl|rfl|rfl
 all_goals
  simp only[↓aX,mX,seval,Int.reduceBEq,Int.reduceBNe,tQ]
  repeat' (first
   |(refine ay hC ?_;simp only[↓aX,mX,seval,Int.reduceBEq,Int.reduceBNe,tQ])
   |(refine ay hN ?_;simp only[↓aX,mX,seval,Int.reduceBEq,Int.reduceBNe,tQ])
   |(refine ay hP ?_;simp only[↓aX,mX,seval,Int.reduceBEq,Int.reduceBNe,tQ])
   |(refine AU (λh=> ?_) (λh=> ?_)<;>try simp only[h,↓aX,mX,seval,Int.reduceBEq,Int.reduceBNe,tQ])
   |(refine ahq (λh=> ?_) (λh=> ?_)<;>try simp only[h,↓aX,mX,seval,Int.reduceBEq,Int.reduceBNe,tQ]))
  all_goals simp_all[XS,kC,kN,kT,kB]
def ag7 {P:Program} {G:Nat->Option (List IV)} {akT No Vs Oo:Nat} (hF:aw P G akT=some (107,[(none,4)],(Wy No Vs Oo).bare)) (x:Node) (o:Op) (h1:1<=o.kind) (h2:o.kind<=10)
  (hC:au P G No [.list (dq o.content)] (.bool (content o.content))) (hN:au P G Vs [.str o.name] (.bool (named o.name))) (hP:au P G Oo [.str o.s] (.bool (plain o.s))) :
  au P G akT [x.av,o.av] (.int .i64 (XS x o)):=by
 obtain⟨k,ta,co,na,st⟩:=o;simp only at h1 h2 hC hN hP;have h:k=1\/k=2\/k=3\/k=4\/k=5\/k=6\/k=7\/k=8\/k=9\/k=10:=sf
 exact afZ hF x k ta co na st hC hN hP h

section
variable {K:Kx} {β:Lb->Option Nat} {env:Env} {H:Hp} {a:Act} {w:World}
def af0 (hr:aH K β env H a w) {l:Lb} {sz:Nat} {y:IV} {v:Value} (hl:H l= .live ⟨sz,aB [y]⟩) (hf:l.fresh=true) (FO:Flat [y])
  (hv:RV w β H (Im K β H) (.ptr l sz 0 0) v):RV w β (bD H l .dead) (Im K β (bD H l .dead)) (.lptr y.cells) v:=by
 have aK:∀q,live (bD H l .dead) q->live H q/\q≠l:=by
  rintro q ⟨r,h⟩;by_cases e:q=l
  ·subst e;simp at h
  rw[aq _ _ e] at h;exact⟨⟨r,h⟩,e⟩
 have hk:W4 w w (Im K β H) (Im K β (bD H l .dead)):=⟨λk hk hs=>⟨⟨hk.1,λq hq=>hk.2 q (aK q hq).1⟩,hs,rfl⟩⟩;simp only[RV] at hv;obtain⟨ad,rfl,h5⟩:=hv;obtain⟨g,e1,e2⟩:=h5 ⟨_,hl⟩;simp only[V9,kf] at e2;obtain⟨cur,e0,cap,k1,k2,k3,k4,k5⟩:=(hr.rows l _ hl).block e1;have EN:Im K β (bD H l .dead) g:=⟨.inr (hr.fr l g ⟨_,hl⟩ hf e1),λq hq hb=>(aK q hq).2 (hr.inj q l g (aK q hq).1 ⟨_,hl⟩ hb e1)⟩;simp only[RV];refine⟨g,0,by rw[e2],EN,(Rv.1 k1).1,Xz _ _ _ (λj z hz=> ?_)⟩;obtain⟨u,q1,q2⟩:=k5 0 j (y.cells.map IV.dQ) z.dQ abk (by simp[hz]);refine⟨u,?_,pX hk (FO y tM z (PX hz)) q2⟩;rw[cell_of_row w g _ cur e0 (0,0) k1,<-q1];congr 1;omega
end
def Yv {S:St} {env:Env} {H:Hp} {l:Lb} {sz d:Nat} {y:IV} (hd:env d= .ptr l sz 0 0) (hl:H l= .live ⟨sz,aB [y]⟩) (hf:l.fresh=true) (FO:Flat [y]) :
  nQ S env H (put env d (.lptr y.cells)) (bD H l .dead):=by
 intro K β a w _ _ hr;have hv:=hr.N8 d;rw[hd] at hv;exact⟨β,um (hr.kill l (by rw[hl];simp)) d (af0 hr hl hf FO hv) aad⟩
end Go.Am

set_option maxRecDepth 20000
namespace Go.Am
open Go Go.RowKit
noncomputable def U5 (d:Doc) (o:Op):Int:=
 if Vo d=true then(if o.kind<1\/10<o.kind then 4 else if o.target<0\/(d.length:Int)<=o.target then 3 else match d[o.target.toNat]? with|some x=>XS x o|none=>3) else 1
section
variable {P:Program} {G:Nat->Option (List IV)}
def Xo (Vd akT:Nat):AC:=
(aM [zzX 2 0,zzX 3 1,gH 4 0] (.seq (aM [gz 5 1 2,aQ 6 (.call Vd [(.t 5)]),sB 7 6] (.cond (.t 7) (aM [gH 4 1] .ret) .skip)) (.seq (.block 0 (aM [ep 9 3 0,fm 10 9,eY 11 .lss 10 1,MR 12 11,oH 13 12 3 0,oG 14 12 13,iR 15 12 (.bin .gtr (.t 14) (jS 10)),sj 16 12 15,MR 8 16] (.cond (.t 8) (aM [gH 4 4] .ret) (aM [ep 18 3 1,fm 19 18,eY 20 .lss 19 0,MR 21 20,oH 22 21 3 1,oG 23 21 22,oH 24 21 2 0,oG 25 21 24,iR 26 21 (.len (.t 25)),iR 27 21 (.bin .geq (.t 23) (.t 26)),sj 28 21 27,MR 17 28] (.cond (.t 17) (aM [gH 4 3] .ret) .skip))))) (.seq (.VL [ep 29 2 0,fm 30 29,ep 31 3 1,fm 32 31,jL 33 30 32 5,gz 34 5 33,gz 35 5 3,aQ 36 (.call akT [(.t 34),(.t 35)]),MR 4 36] [[],[0],[],[2],[1,3],[4],[],[5,6],[7,7,0,1,2,3,4,5,6,7]] [.no,(.rw [(.loc 2)] []),.no,(.rw [(.loc 3)] []),.no,.no,(.rw [(.loc 3)] []),.no,.no]) .ret))))
def abN {ak3 Vd akT:Nat} (hF:aw P G ak3=some (37,[(none,4)],(Xo Vd akT).bare)) (d:Doc) (o:Op) (hG:au P G Vd [Doc.av d] (.bool (Vo d)))
  (hW:∀x:Node,1<=o.kind->o.kind<=10->au P G akT [x.av,o.av] (.int .i64 (XS x o))) :
  au P G ak3 [Doc.av d,o.av] (.int .i64 (U5 d o)):=by
 refine aR hF tM abD aad ?_;unfold Xo;simp only[↓aX,mX,seval,Op.av,Doc.av];refine ay hG ?_;unfold U5;cases hd:Vo d with
 |false=>simp only[↓aX,mX,seval,QI];try rfl
 |true=>
 simp only[↓aX,mX,seval,QK,Op.av,Doc.av];cases h1:decide (o.kind<1) with
 |true=>
  simp only[↓aX,mX,seval,h1,Op.av,Doc.av];have:o.kind<1:=by simpa using h1
  simp[this]
 |false=>
 simp only[↓aX,mX,seval,h1,Op.av,Doc.av,Nu];cases h2:decide (10<o.kind) with
 |true=>
  simp only[↓aX,mX,seval,h1,h2,Op.av,Doc.av];have:10<o.kind:=by simpa using h2
  simp[this]
 |false=>
 simp only[↓aX,mX,seval,h1,h2,Op.av,Doc.av];have k1:¬o.kind<1:=by simpa using h1
 have k2:¬10<o.kind:=by simpa using h2
 cases h3:decide (o.target<0) with
 |true=>
  simp only[↓aX,mX,seval,h1,h2,h3,Op.av,Doc.av];have:o.target<0:=by simpa using h3
  simp[k1,k2,this]
 |false=>
 simp only[↓aX,mX,seval,h1,h2,h3,Op.av,Doc.av,ge_iff_le,G_];have k3:¬o.target<0:=by simpa using h3
 cases h4:decide ((d.length:Int)<=o.target) with
 |true=>
  simp only[↓aX,mX,seval,h1,h2,h3,h4,Op.av,Doc.av];have:(d.length:Int)<=o.target:=by simpa using h4
  simp[k1,k2,k3,this]
 |false=>
 have k4:¬(d.length:Int)<=o.target:=by simpa using h4
 obtain⟨x,hx⟩:∃x,d[o.target.toNat]?=some x:=⟨_,rX sf⟩;have hgd:(d.map Node.iv)[o.target.toNat]?=some x.iv:=by rw[cn,hx];rfl
 have k5:0<=o.target:=sf
 simp only[↓aX,mX,seval,h1,h2,h3,h4,Op.av,Doc.av,k5,hgd,Xx,Node.cJ,Node.cs];refine⟨rfl,jw (hW x sf sf) ?_⟩;simp only[↓aX,mX,seval];simp[k1,k2,k3,k4,hx]
def WB (asX:Nat):AC:=
(aM [zzX 2 0,jM 3 false] (aM [gz 4 5 1,gz 5 5 2,aQ 6 (.call asX [(.t 4),(.t 5)]),MR 3 6] .ret))
def abO {α:Type} (p:α->Bool) (l:List α):Int:=match l.findIdx? p with|some k=>(k:Int)|none=> -1
def af2 {α:Type} {p:α->Bool} {xs:List α} {k:Nat} {x:α} (h:xs[k]?=some x) (hx:p x=true) (hb:∀j y,j<k->xs[j]?=some y->p y=false):abO p xs=k:=by
 have:xs.findIdx? p=some k:=by
  rw[XZ];obtain⟨hk,e⟩:=yY.1 h;refine⟨hk,by rw[e];exact hx,λj hj=> ?_⟩;have h2:=hb j xs[j] hj (rX sf);simp[h2]
 rw[abO,this]
def adH {α:Type} {p:α->Bool} {xs:List α} (h:∀x∈xs,p x=false):abO p xs= -1:=by
 have:xs.findIdx? p=none:=Np.2 λx hx=>by rw[h x hx]
 rw[abO,this]
def aeY {α:Type} {p:α->Bool} {xs:List α}:decide (abO p xs>=0)=xs.any p:=by
 unfold abO;cases h:xs.findIdx? p with
 |none=>
  rw[Np] at h;have:xs.any p=false:=by rw[N6];intro x hx;rw[h x hx];simp
  rw[this];decide
 |some k=>
 rw[XZ] at h;obtain⟨hk,e,_⟩:=h;have:xs.any p=true:=Z2.2 ⟨_,vI hk,e⟩;rw[this];simp
def VF:AC:=
(aM [gH 4 0] (.seq (aM [MR 6 0,oy 7 6,gH 8 0] (.block 0 (.loop (aM [et 9 .lss 8 7] (.seq (.cond (.t 9) .skip (.exit 0)) (.seq (.block 1 (aM [MR 10 8,MR 5 10] (aM [MR 11 1,MR 12 0,MR 13 5,jL 14 12 13 5,gz 15 5 14,aQ 16 (.fM (.t 11) [(.t 15)])] (.cond (.t 16) (aM [MR 17 5,MR 4 17] .ret) .skip)))) (.cq [eY 18 .add 8 1,MR 8 18]))))))) (aM [aQ 4 (.iC (.c (.int .i64 (-1))))] .ret)))
def abP {akI fc:Nat} {cs:List IV} (hF:aw P G akI=some (19,[(none,4)],VF.bare)) (l:List Op) (hx:l.length<=B) (p:Op->Bool) (hb:fU P fc=true) (hC:∀b∈l,au P G fc [b.av,.lptr cs] (.bool (p b))) :
  au P G akI [.list (l.map Op.iv),.fn fc [] [.lptr cs]] (.int .i64 (abO p l)):=by
 refine aR hF tM aae aad ?_;unfold VF;have zo:B=1073741824:=rfl;simp only[↓aX,mX,seval,G_];refine VR (σ:={i:Nat // i<=l.length/\∀j y,j<i->l[j]?=some y->p y=false}) (λq=>[(0,.list (l.map Op.iv)),(1,.fn fc [] [.lptr cs]),(7,.int .i64 l.length),(8,.int .i64 q.1)]) (λq=>l.length - q.1) ⟨0,tM⟩ (λ_=>rfl) ?_ ?_
 ·exact⟨by simp only[↓aX,mX,seval],aah⟩
 rintro⟨i,hi,hs⟩;simp only[↓aX,mX,seval,G_];by_cases bI:i<l.length
 ·rw[show decide ((i:Int)<(l.length:Int))=true by simpa using bI];obtain⟨x,D1⟩:∃x,l[i]?=some x:=⟨_,rX bI⟩;have hw:IntKind.i64.wrap ((i:Int)+1)=((i+1:Nat):Int):=wrap64 sf sf;simp only[↓aX,mX,seval,YO,D1,bT,Ys,Op.cJ,Op.cs,yE,Ek,hb];refine ay (hC x (PX D1)) ?_
  try simp only[↓aX,mX,seval]
  refine AU (λh=> ?_) (λh=> ?_)
  ·try simp only[↓aX,mX,seval]
   rw[af2 D1 h hs]
  simp only[↓aX,mX,seval,hw];refine⟨⟨i+1,bI,λj y hj hy=> ?_⟩,aac,rfl⟩;by_cases e:j=i
  ·rw[e,D1] at hy;cases hy;exact h
  exact hs j y sf hy
 rw[show decide ((i:Int)<(l.length:Int))=false by simpa using bI];simp only[↓aX,mX,seval];rw[adH λx hx=>by
  obtain⟨j,hj⟩:=Sw hx;exact hs j x (by have:=(yY.1 hj).1;omega) hj]
def Vr (akI:Nat):AC:=
(aM [jM 4 false] (aM [MR 5 0,MR 6 1,aQ 7 (.call akI [(.t 5),(.t 6)]),eY 8 .geq 7 0,MR 4 8] .ret))
def acw {hQ akI fc:Nat} {cs:List IV} (hF:aw P G hQ=some (9,[(none,4)],(Vr akI).bare)) (l:List Op) (p:Op->Bool)
  (hI:au P G akI [.list (l.map Op.iv),.fn fc [] [.lptr cs]] (.int .i64 (abO p l))) :
  au P G hQ [.list (l.map Op.iv),.fn fc [] [.lptr cs]] (.bool (l.any p)):=by
 refine aR hF tM aae aad ?_;unfold Vr;simp only[↓aX,mX,seval];refine ay hI ?_;simp only[↓aX,mX,seval,aeY]
def WM:List Op->List Op->Bool
 |_,[]=>false
 |pre,a::r=>pre.any (as3 a)||WM (pre++[a]) r
noncomputable def VU (d:Doc) (l:List Op):Int:=
 if Vo d=true then(if 20<l.length then 2 else match l.find? (λo=>U5 d o !=0) with|some o=>U5 d o|none=>if WM [] l then 5 else 0) else 1
def W9 (Vd ak3 asF hQ:Nat):AC:=
(aM [zzX 2 0,gH 4 0] (.seq (aM [gz 10 1 2,aQ 11 (.call Vd [(.t 10)]),sB 12 11] (.cond (.t 12) (aM [gH 4 1] .ret) .skip)) (.seq (aM [MR 13 1,oy 14 13,eY 15 .gtr 14 20] (.cond (.t 15) (aM [gH 4 2] .ret) .skip)) (.seq (aM [MR 16 1,oy 17 16,gH 18 0] (.block 0 (.loop (aM [et 19 .lss 18 17] (.seq (.cond (.t 19) .skip (.exit 0)) (.seq (.block 1 (aM [jL 20 16 18 5,gz 21 5 20,aQ 6 (.new [(.int .i64 0),(.int .i64 0),.nil0,(.str []),(.str [])]),gg (.store 5 (.t 6) (.t 21))] (aM [gz 22 1 2,gz 23 5 6,aQ 24 (.call ak3 [(.t 22),(.t 23)]),MR 7 24] (aM [MR 25 7,eY 26 .neq 25 0] (.cond (.t 26) (aM [MR 27 7,MR 4 27] .ret) .skip))))) (.cq [eY 28 .add 18 1,MR 18 28]))))))) (.seq (aM [MR 29 1,oy 30 29,gH 31 0] (.block 2 (.loop (aM [et 32 .lss 31 30] (.seq (.cond (.t 32) .skip (.exit 2)) (.seq (.block 3 (aM [MR 33 31,jL 34 29 31 5,gz 35 5 34,aQ 9 (.new [(.int .i64 0),(.int .i64 0),.nil0,(.str []),(.str [])]),MR 8 33,gg (.store 5 (.t 9) (.t 35))] (.gh .vk (aM [MR 36 1,MR 37 8,aQ 38 (.zr (.t 36) none (some (.t 37)) none 5),aQ 39 (.zw asF [(.t 9)]),aQ 40 (.call hQ [(.t 38),(.t 39)])] (.cond (.t 40) (aM [gH 4 5] .ret) .skip))))) (.cq [eY 41 .add 31 1,MR 31 41]))))))) (aM [gH 4 0] .ret))))))
def ag8 {asw Vd ak3 asF hQ:Nat} (hF:aw P G asw=some (42,[(none,4)],(W9 Vd ak3 asF hQ).bare)) (d:Doc) (l:List Op) (hl:l.length<=B) (hG:au P G Vd [Doc.av d] (.bool (Vo d)))
  (hO:∀o∈l,au P G ak3 [Doc.av d,o.av] (.int .i64 (U5 d o)))
  (hC:∀a i,l[i]?=some a->au P G hQ [.list ((l.take i).map Op.iv),.fn asF [] [.lptr a.cs]] (.bool ((l.take i).any (as3 a)))) :
  au P G asw [Doc.av d,.list (l.map Op.iv)] (.int .i64 (VU d l)):=by
 refine aR hF tM abD aad ?_;unfold W9;have zo:B=1073741824:=rfl;simp only[↓aX,mX,seval,Op.av,Doc.av];refine ay hG ?_;unfold VU;cases hd:Vo d with
 |false=>simp only[↓aX,mX,seval,QI];try rfl
 |true=>
 simp only[↓aX,mX,seval,QK,Op.av,Doc.av,G_,Nu];cases h1:decide ((20:Int)<(l.length:Int)) with
 |true=>
  simp only[↓aX,mX,seval];have:20<l.length:=by simp at h1;omega
  simp[this]
 |false=>
 simp only[↓aX,mX,seval,G_];have k1:¬20<l.length:=by simp at h1;omega
 rw[Ev k1];refine pe (σ:={i:Nat // i<=l.length/\∀o∈l.take i,U5 d o=0}) (λ_=>[.loc 2]) (λ_ _=>false)
  (λq=>[(1,.list (l.map Op.iv)),(2,.ptr (.loc 2) 1 0 0),(16,.list (l.map Op.iv)),(17,.int .i64 l.length),(18,.int .i64 q.1)])
  (λq=>[(.loc 2,⟨1,[[.list (d.map Node.iv)]]⟩)]) (λq=>l.length - q.1) ⟨0,tM⟩ (λ_=>rfl) (λq=>by simp[ah,AV.an]) ?_ ⟨[],?_⟩ ?_
 ·rintro q r hr cs bV l' kR;simp only[bY] at hr;subst hr;simp only[bY] at bV;subst bV;simp[ah,AV.an] at kR
 ·refine⟨?_,?_,?_,aar,λl _=>⟨id,λ_=>rfl⟩⟩
  ·intro l' hf hu;exfalso;apply hu;cases l'<;>simp_all[Lb.fresh,ae,Hp.none]
  ·simp[k_,dn,bJ,put,jP]
  simp[tc,dn,ae,dO,bu,bJ]
 rintro⟨i,hi,hs⟩;rw[Cf];simp only[↓aX,mX,seval,cF,bW,G_];by_cases bI:i<l.length
 ·rw[show decide ((i:Int)<(l.length:Int))=true by simpa using bI];obtain⟨o,ho⟩:∃o,l[i]?=some o:=⟨_,rX bI⟩;have hw:IntKind.i64.wrap ((i:Int)+1)=((i+1:Nat):Int):=wrap64 sf sf;have E0:l.take (i+1)=l.take i++[o]:=Vl ho;simp only[↓aX,mX,seval,YO,ho,bT,Ys,Op.cJ,Op.cs];refine ay (hO o (PX ho)) ?_;simp only[↓aX,mX,seval];cases h0:(U5 d o !=0) with
  |true=>
   simp only[↓aX,mX,seval,h0];have hf:l.find? (λo=>U5 d o !=0)=some o:=by
    rw[pJ];refine⟨h0,l.take i,l.drop (i+1),?_,λa ha=>by simp[hs a ha]⟩;rw[<-drop_eq ho,tO]
   rw[hf]
  |false=>
  simp only[↓aX,mX,seval,h0,hw];refine⟨⟨i+1,bI,λa ha=> ?_⟩,aac,[],?_⟩
  ·rw[E0,QL] at ha;rcases ha with ha|ha
   ·exact hs a ha
   simp only[bY] at ha;subst ha;simpa using h0
  refine⟨?_,?_,?_,aar,λl _=>⟨id,λ_=>rfl⟩⟩
  ·intro l' hf hu;exfalso;apply hu;cases l'<;>simp_all[Lb.fresh,ae,Hp.none]
  ·simp[k_,dn,bJ,put,o9]
  simp[tc,dn,ae,dO,bu,bJ]
 have XV:i=l.length:=sf
 rw[show decide ((i:Int)<(l.length:Int))=false by simpa using bI];have hf:l.find? (λo=>U5 d o !=0)=none:=by
  rw[YF];intro a ha;rw[XV,Rk] at hs;simp[hs a ha]
 rw[hf];simp only[↓aX,mX,seval,G_];refine VR (σ:={j:Nat // j<=l.length/\WM [] l=WM (l.take j) (l.drop j)}) (λq=>[(1,.list (l.map Op.iv)),(29,.list (l.map Op.iv)),(30,.int .i64 l.length),(31,.int .i64 q.1)]) (λq=>l.length - q.1) ⟨0,tM⟩ (λ_=>by simp[ah,AV.an]) ?_ ?_
 ·refine⟨?_,?_⟩
  ·simp only[↓aX,mX,seval]
  simp[sv,put,o9]
 rintro⟨j,hj,LV⟩;simp only[↓aX,mX,seval,G_];by_cases iG:j<l.length
 ·rw[show decide ((j:Int)<(l.length:Int))=true by simpa using iG];obtain⟨o,ho⟩:∃o,l[j]?=some o:=⟨_,rX iG⟩;have hw:IntKind.i64.wrap ((j:Int)+1)=((j+1:Nat):Int):=wrap64 sf sf;simp only[↓aX,mX,seval,YO,ho,bT,Ys,Op.cJ,Op.cs,Ox];refine⟨_,_,Yv (d:=9) (l:= .loc 9) (sz:=5) (y:=o.iv) abE (by simp[ae];rfl) rfl (agu [o]),?_⟩;have HG:((l.map Op.iv).take j).drop 0=(l.take j).map Op.iv:=by rw[tn,JD]
  have E0:l.take (j+1)=l.take j++[o]:=Vl ho;simp only[↓aX,mX,seval,Op.cJ,Cs,nB,lk,Ys,G_,hj,QJ,Qj,A5,zd,HG,V8];have hc:=hC o j ho;refine ay hc ?_;have Mx:WM (l.take j) (l.drop j)=((l.take j).any (as3 o)||WM (l.take (j+1)) (l.drop (j+1))):=by
   rw[drop_eq ho,E0];rfl
  cases h0:(l.take j).any (as3 o) with
  |true=>
   simp only[↓aX,mX,seval];rw[LV,Mx,h0];simp
  |false=>
  simp only[↓aX,mX,seval,hw];refine⟨⟨j+1,iG,by rw[LV,Mx,h0];simp⟩,aac,rfl⟩
 rw[show decide ((j:Int)<(l.length:Int))=false by simpa using iG];have zk:j=l.length:=sf
 simp only[↓aX,mX,seval];rw[LV,zk];simp[WM]
end

section
variable {S:St} {f:Nat} {args:List AV} {sz:Nat} {xs:List IV} {H:Hp} {k:AV->Hp->Prop} {u:Tw k}
def adI (c:Nat) (h:aa4 S.P S.G f args sz xs) (ha:ah args=[]) (hN:∀l,H (NW c l)= .unused)
  (hk:∀l,k (.sl (NW c l) sz 0 xs.length) (bD H (NW c l) (.live ⟨sz,aB xs⟩))):C7 S f args H k u:=by
 refine WV (lab:=Lb.par) (N:=NW c) h (fZ _ _ ha).symm ⟨λp r hr=>by simp[aeI] at hr,λp q hp=>absurd hp Y8⟩ hN (aeH c) (λl _=> .inr λp hp=>absurd hp Y8) tM ?_;rintro X R2 U9 H2 ⟨rfl,rfl⟩ g1 g2 g3 g4 g5 g6;obtain⟨l,hl⟩:∃l,U9 0=NW c l:=by
  rcases g3 0 (Y7.2 rfl) with⟨p,hp,_⟩|h
  ·exact absurd hp Y8
  exact h
 have e:H2=bD H (NW c l) (.live ⟨sz,aB xs⟩):=by
  funext q;by_cases hq:q=NW c l
  ·subst hq;rw[ae,P8 rfl,<-hl];exact g1.row 0 _ (by simp[adx])
  rw[aq _ _ hq];by_cases wx:∃l',q=NW c l'
  ·obtain⟨l',rfl⟩:=wx;rw[hN l',g6 l' λp hp=>by rw[Y7.1 hp,hl];exact Ss hq]
  exact g4 q (λp hp=>absurd hp Y8) λl' e=>wx ⟨l',e⟩
 rw[e];have:=hk l;simpa only[hl] using this
def ac' {F:List Lb} (c:Nat) (h:aa4 S.P S.G f args sz xs) (ha:ah args=[]) (hN:∀l,H (NW c l)= .unused) (hF:Lb.nest (.loc c) 0 1∉F)
  (hk:∀l,k (.sl (NW c l) sz 0 xs.length) (bD H (NW c l) (.live ⟨sz,aB xs⟩))):DX S F f args H k u:=by
 refine⟨λx H'=>∃l,x= .sl (NW c l) sz 0 xs.length/\H'=bD H (NW c l) (.live ⟨sz,aB xs⟩),?_,⟨_,_,.loc 0,rfl,rfl⟩,?_⟩
 ·exact adI (k:=λx H'=>∃l,x= .sl (NW c l) sz 0 xs.length/\H'=bD H (NW c l) (.live ⟨sz,aB xs⟩)) (u:= .mk) c h ha hN λl=>⟨l,rfl,rfl⟩
 rintro x H' ⟨l,rfl,rfl⟩;refine⟨λq hq=> ?_,hk l⟩;rw[aq];rintro rfl;exact hF hq
def acx {env:Env} (R W:List Lb) (q:Nat) (n c:O) (sz b:Nat) (z:List AV) (k:AV->Hp->Prop):akH S (.rw R W) (some q) (.tU n c sz b z) env H k =
  pK (vg sz b q z (ev env n) (ev env c) H) (λy H'=>Lb.loc q∈W/\k y H') .mk:=by
 simp[akH,dm,cx,aA,pK,Lb.iQ]
def ac_ {sz b d m:Nat} {z:List AV} (hb:m*b<=140737488355328) (hu:H (.loc d)= .unused) :
  vg sz b d z (.int .i64 (m:Int)) (.int .i64 (m:Int)) H=some (.sl (.loc d) sz 0 m,bD H (.loc d) (.live ⟨sz,List.replicate m z⟩)):=by
 simp[vg,hu,hb]
end
end Go.Am
