import Derived.Test.YtfeijflhfhkbnaaGreatDoorKAc0S
import Derived.Test.YtfeijflhfhkbnaaGreatDoorKT87S
import Derived.Test.YtfeijflhfhkbnaaGreatDoorKT9S
import Derived.Test.YtfeijflhfhkbnaaGreatDoorKAm48S
import Derived.Test.YtfeijflhfhkbnaaGreatDoorKP2S
import Derived.Test.YtfeijflhfhkbnaaGreatDoorKAm40S
set_option linter.all false
/- Changes: all of them. -/
set_option maxRecDepth 20000
namespace Go.Am
open Go Go.RowKit
def K3 {sz b d n:Nat} {l q:Lb} {els:List (List AV)} {cs:List AV} {H:Hp} (hl:H l= .live ⟨sz,els⟩) (hq:H q= .live ⟨sz,[cs]⟩) (ho:AV.oF cs) (hn:els.length=n) (hb:(n+1)*b<=140737488355328) (h0:0<b)
  (hd:l≠l.app d) (hu:H (l.app d)= .unused):iQ sz b d (.sl l sz 0 n) (.sl q sz 0 1) H=some (.sl (l.app d) sz 0 (n+1),aS (aS H l .dead) (l.app d) (.live ⟨sz,els++[cs]⟩)):=by
 grind [kG,iQ]
def s5 (n:Nat):List Int:=List.replicate n 0
def CO (n:Nat):ak ((s5 n).map aC)=List.replicate n [.int .i64 0]:=by simp[s5,ak,aC,IV.cells,IV.dw]
def qd (d:Doc) (i:Nat):Bn:=⟨i,d.take i,s5 d.length,s5 d.length⟩
def lc (p:Nat):Lb:= .nest (.loc 900) p 3
theorem oo {p q:Nat} (h:lc p=lc q):p=q:=by simpa[lc] using h
theorem k_ (p n:Nat):lc p≠ .loc n:=akq
theorem oq (p n:Nat):Lb.loc n≠lc p:=akq
def IY (p:Nat):(lc p).ix= .nest (.loc 900) 0 3:=rfl
def D2 (p d:Nat):(lc p).app d= .loc d:=rfl
def QV (p:Nat):(lc p).fresh=true:=rfl
def CP (p q:Nat):(lc p=lc q)=(p=q):=propext ⟨oo,λh=>by rw[h]⟩
def yx:Nat->Lb
 |0=> .loc 32
 |1=> .loc 1001
 |2=> .loc 26
 |_=> .loc 30
def qk (i:Nat) (A K:Lb) (p:Nat):Lb:=if p=1 then .loc 55 else if p=4+2*i then A else if p=5+2*i then K else lc p
def QW {d:Doc} {i:Nat} {y:Node} {A K:Lb} {H H1:Hp} (hy:d[i]?=some y) (hB:b8 lc (qd d i) H) (hA:∀p,lc p≠A) (hK:∀p,lc p≠K) (hA5:A≠ .loc 55) (hK5:K≠ .loc 55) (hKA:K≠A)
  (h0:H1 (lc 0)= .live ⟨3,[[.sl (.loc 55) 5 0 (i+1),.sl (lc 2) 1 0 (s5 d.length).length,.sl (lc 3) 1 0 (s5 d.length).length]]⟩)
  (h1:H1 (.loc 55)= .live ⟨5,(qd d i).nodes.mapIdx (b5 i lc)++[[.bool y.text,.str y.s,.sl A 2 0 y.attrs.length,.int .i64 y.parent,.sl K 1 0 y.kids.length]]⟩)
  (h2:H1 A= .live ⟨2,ak (aQ y.attrs)⟩) (h3:H1 K= .live ⟨1,ak (y.kids.map aC)⟩) (h4:∀p,p≠0->p≠1->H1 (lc p)=H (lc p)):b8 (qk i A K) (qd d (i+1)) H1:=by
 have aF:i<d.length:=(afY.1 hy).1;have ig:d.take (i+1)=d.take i++[y]:=cn hy;have hl:(d.take i).length=i:=ajY
 have hX:∀p,p≠1->p≠4+2*i->p≠5+2*i->qk i A K p=lc p:=λp a b c=>by simp[qk,a,b,c]
 have hX4:qk i A K (4+2*i)=A:=by unfold qk;rw[af8 ajK,agc rfl]
 have hX5:qk i A K (5+2*i)=K:=by unfold qk;rw[af8 ajK,af8 ajK,agc rfl]
 have Z':∀j z,(qd d i).nodes[j]?=some z->(qd d (i+1)).nodes[j]?=some z:=λj z h=>by
  simp only[qd] at h ⊢;rw[ig,agB (afY.1 h).1];exact h
 have hni:(qd d (i+1)).nodes[i]?=some y:=by simp only[qd];rw[ig,agr ajK,hl];simp
 have hex:∀j,j<i->∃z,(qd d i).nodes[j]?=some z:=λj hj=>⟨_,af7 (show j<(d.take i).length by omega)⟩;refine b8.mk' ?_ ?_ ?_ ?_ ?_ ?_ ?_
 ·grind [qk,k_,hK,oo]
 ·rw[hX 0 ajK ajK ajK,hX 2 ajK ajK ajK,hX 3 ajK ajK ajK,h0];have:(qd d (i+1)).nodes.length=i+1:=by simp[qd];omega
  rw[this];rfl
 ·show H1 (.loc 55)=_;rw[h1];simp only[Slot.live.injEq,Row.mk.injEq,agt];show _=(d.take (i+1)).mapIdx (b5 (i+1) (qk i A K));rw[ig,ajG,List.mapIdx_cons,List.mapIdx_nil,hl,agh,cy ajK,hX4,hX5];congr 1;refine agV λj=> ?_;rw[ahb,ahb];cases hz:(d.take i)[j]? with
  |none=>show Option.map _ ((d.take i)[j]?)=_;rw[hz];rfl
  |some z=>
  have hj:j<i:=by have:=(afY.1 hz).1;omega
  show Option.map _ ((d.take i)[j]?)=_;rw[hz,af9,af9,cy hj,cy (by omega:j<i+1),hX (4+2*j) ajK ajK ajK,hX (5+2*j) ajK ajK ajK]
 ·rw[hX 2 ajK ajK ajK,h4 2 ajN ajN];exact hB.f
 ·rw[hX 3 ajK ajK ajK,h4 3 ajN ajN];exact hB.a
 ·intro j hj;by_cases e:j=i
  ·subst e;rw[hX4,h2,Bn.pH hni]
  have hj:j<i:=by have:j<i+1:=hj;omega
  obtain⟨z,hz⟩:=hex j hj;rw[hX (4+2*j) ajK ajK ajK,h4 _ ajK ajK,hB.at' hj hz,Bn.pH (Z' j z hz)]
 intro j hj;by_cases e:j=i
 ·subst e;rw[hX5,h3,Bn.lu hni]
 have hj:j<i:=by have:j<i+1:=hj;omega
 obtain⟨z,hz⟩:=hex j hj;rw[hX (5+2*j) ajK ajK ajK,h4 _ ajK ajK,hB.kd hj hz,Bn.lu (Z' j z hz)]
def acE:List Ed:=[.f 23 9 (.rw [] [.loc 32]),.f 40 1 (.rw [.loc 9] []),.f 40 4 (.rw [.loc 9] []),.f 40 7 (.rw [] [.loc 9]),.f 40 9 (.rw [] [.loc 9]),.f 69 1 (.rw [.loc 12] []),.f 69 3 (.rw [.loc 2] []),.f 69 5 (.rw [.loc 12] []),.b 33 .jf,.b 86 .jf,.l 54,.f 26 1 (.rw [(.loc 2)] []),.f 26 3 (.rw [] [(.loc 26)]),.f 26 5 (.rw [(.loc 2)] []),.f 26 7 (.rw [] [(.loc 30)]),.f 42 2 (.v7 [(.loc 9)]),.f 42 5 (.v7 []),.f 55 4 (.rw [(.nest (.loc 900) 0 3)] []),.f 55 5 (.rw [(.loc 9)] []),.f 55 7 (.rw [(.loc 54)] [(.nest (.loc 900) 0 3),(.loc 55)]),.f 55 10 (.rw [] [(.nest (.loc 900) 0 3)])]
section
variable {P:Program} {G:Nat->Option (List IV)} [KN P G]
def T9 (d:Doc) (l:List Op) (i:Nat):List (Nat×AV):=
 [(1,.list (l.map Op.iv)),(2,.ptr (.loc 2) 1 0 0),(4,.ptr (.loc 4) 1 0 0),(7,.ptr (lc 0) 3 0 0),(34,.list (d.map Node.iv)),(35,.int .i64 d.length),(36,.int .i64 i)]
def oQ (d:Doc):List (Lb×Row):=[(.loc 2,⟨1,[[.list (d.map Node.iv)]]⟩),(.loc 4,⟨1,[[.nil0]]⟩)]
theorem D3 {env:Env} {f:AV->AV}:∀{ps:List (Nat×AV)},(∀q∈ps,q.2=f (env q.1))->∀n,iX ps n= .any\/iX ps n=f (env n)
 |[],_,n=> .inl rfl
 |(m,x)::r,h,n=>by
  rw[E0];by_cases e:n=m
  ·simp_all[tm]
  rw[tm,af8 e];exact D3 (λq hq=>h q ajV) n
def unl:Lb->Option Nat
 | .nest (.loc c) p k=>if c=900/\k=3 then some p else none
 |_=>none
theorem w_ (p:Nat):unl (lc p)=some p:=by simp[unl,lc]
def QX {l:Lb} {p:Nat} (h:unl l=some p):l=lc p:=by
 unfold unl at h;split at h
 ·split at h
  ·rename_i hc;cases h;obtain⟨rfl,rfl⟩:=hc;rfl
  grind
 grind
def X1r (b:Bn) (p:Nat):Option (Nat×List IV):=
 if p=2 then some (1,b.fs.map aC) else if p=3 then some (1,b.az.map aC)
 else if 4<=p/\p<4+2*b.n0 then(if p%2=0 then some (2,aQ (b.at ((p - 4)/2))) else some (1,(b.kd ((p - 5)/2)).map aC)) else none
def X1 (b:Bn) (l:Lb):Option (Nat×List IV):=(unl l).bind (X1r b)
def aeJ (b:Bn) {i:Nat} (h:i<b.n0):X1 b (lc (4+2*i))=some (2,aQ (b.at i)):=by
 grind [X1,w_,X1r]
def aeK (b:Bn) {i:Nat} (h:i<b.n0):X1 b (lc (5+2*i))=some (1,(b.kd i).map aC):=by
 grind [X1,w_,X1r]
def aeL (b:Bn):X1 b (lc 2)=some (1,b.fs.map aC):=alU
def acG (b:Bn):X1 b (lc 3)=some (1,b.az.map aC):=alU
def aeM (b:Bn):X1 b (lc 0)=none:=alU
def acH (b:Bn):X1 b (lc 1)=none:=alU
theorem IZ (b:Bn) (n:Nat):X1 b (.loc n)=none:=rfl
def acI {b:Bn} {H:Hp} (hB:b8 lc b H) (hn:b.n0<=b.nodes.length) (l:Lb) (sz:Nat) (xs:List IV) (h:X1 b l=some (sz,xs)):H l= .live ⟨sz,ak xs⟩/\l.fresh=true/\Flat xs:=by
 unfold X1 at h;obtain⟨p,hp,h'⟩:=afX.1 h;obtain rfl:=QX hp;have h:=h';refine⟨?_,rfl,?_⟩
 ·unfold X1r at h;split at h
  ·rename_i e;subst e;cases h;exact hB.f
  split at h
  ·rename_i e;subst e;cases h;exact hB.a
  split at h
  ·rename_i hc;obtain⟨i,hi,e⟩:=b8.lists hB hc.1 hc.2;obtain⟨x,hx⟩:∃x,b.nodes[i]?=some x:=⟨_,af7 ajK⟩;rcases e with rfl|rfl
   ·rw[agc ajK,show(4+2*i - 4)/2=i by omega] at h;cases h;rw[Bn.pH hx];exact hB.at' hi hx
   rw[af8 ajK,show(5+2*i - 5)/2=i by omega] at h;cases h;rw[Bn.lu hx];exact hB.kd hi hx
  grind
 grind [X1r,mj,gn]
def X2 (d:Doc) (l:Lb):Option (Nat×List IV):=if l=lc 1 then some (5,d.map Node.iv) else none
def M3 (b:Bn) (H:Hp):Hp:=aS (mK (X2 b.nodes) (mK (X1 b) H)) (lc 0) .dead
def vJ {S:St} {env:Env} {b:Bn} {H:Hp} {c:List IV} (hB:b8 lc b H) (hn:b.n0<=b.nodes.length) (h7:env 7= .ptr (lc 0) 3 0 0) (h2:env 2= .ptr (.loc 2) 1 0 0) (h4:env 4= .ptr (.loc 4) 1 0 0)
  (a2:H (.loc 2)= .live ⟨1,[[.list c]]⟩) (a4:H (.loc 4)= .live ⟨1,[[.nil0]]⟩) (al:∀n,n≠2->n≠4->H (.loc n)= .unused) :
  eE S env H (put (iX [(7,.ptr (lc 0) 3 0 0),(2,.ptr (.loc 2) 1 0 0),(4,.ptr (.loc 4) 1 0 0)]) 7 (nB b.nodes b.fs b.az)) (M3 b H)/\M3 b H (.loc 2)= .live ⟨1,[[.list c]]⟩/\M3 b H (.loc 4)= .live ⟨1,[[.nil0]]⟩/\∀n,n≠2->n≠4->M3 b H (.loc n)= .unused:=by
 have w1:eE S env H (iX [(7,.ptr (lc 0) 3 0 0),(2,.ptr (.loc 2) 1 0 0),(4,.ptr (.loc 4) 1 0 0)]) (mK (X1 b) H):=rV (X1 b) (acI hB hn) (D3 (by simp[h7,h2,h4,pC]));have n1:mK (X1 b) H (lc 1)= .live ⟨5,ak (b.nodes.map Node.iv)⟩:=by
  rw[oX (acH b) hB.n];simp;refine agV λi=> ?_;simp only[ago,ahb,ak];cases hx:b.nodes[i]? with
  |none=>rfl
  |some x=>
  simp;by_cases hi:i<b.n0
  ·rw[cy hi];simp only[iG,pC,aeJ b hi,aeK b hi,Bn.pH hx,Bn.lu hx,aE,eD,agh,af6,agn,agj];rw[af2 ang,af2 ajL];rfl
  rw[AD ajK];rfl
 have n0:mK (X1 b) H (lc 0)= .live ⟨3,[[.sl (lc 1) 5 0 b.nodes.length,.list (b.fs.map aC),.list (b.az.map aC)]]⟩:=by
  rw[oX (aeM b) hB.s];simp only[agC,ag6,iG,pC,acH,aeL,acG,eD,agh,af6,agR,agn,agj];simp[af2,eD,af6]
 have hX2:∀l sz xs,X2 b.nodes l=some (sz,xs)->mK (X1 b) H l= .live ⟨sz,ak xs⟩/\l.fresh=true/\Flat xs:=by
  intro l sz xs h;unfold X2 at h;split at h
  ·rename_i e;subst e;cases h;exact⟨n1,rfl,J_ _⟩
  grind
 have w2:eE S (iX [(7,.ptr (lc 0) 3 0 0),(2,.ptr (.loc 2) 1 0 0),(4,.ptr (.loc 4) 1 0 0)]) (mK (X1 b) H) (iX [(7,.ptr (lc 0) 3 0 0),(2,.ptr (.loc 2) 1 0 0),(4,.ptr (.loc 4) 1 0 0)]) (mK (X2 b.nodes) (mK (X1 b) H)):=
  rV (X2 b.nodes) hX2 (D3 (by simp[iX,put,pC]))
 have m0:mK (X2 b.nodes) (mK (X1 b) H) (lc 0)= .live ⟨3,ak [.agg [.list (b.nodes.map Node.iv),.list (b.fs.map aC),.list (b.az.map aC)]]⟩:=by
  rw[oX (by simp[X2,CP]) n0];simp only[agC,iG,pC,X2,agn,eD,agh,af6,agR,agj];rw[af2 ajL];rfl
 have w3:eE S (iX [(7,.ptr (lc 0) 3 0 0),(2,.ptr (.loc 2) 1 0 0),(4,.ptr (.loc 4) 1 0 0)]) (mK (X2 b.nodes) (mK (X1 b) H)) _ _:=rh (d:=7) rfl m0 rfl (by
  intro y hy z hz cs;simp at hy;subst hy;simp[IV.cells,aga,agf,agI] at hz;rcases hz with rfl|rfl|rfl<;>simp)
 have aeN:∀n,H (.loc n)= .unused->aS (mK (X2 b.nodes) (mK (X1 b) H)) (lc 0) .dead (.loc n)= .unused:=λn h=>by
  grind [an,oq,mK,X2,IZ]
 unfold M3;refine⟨(w1.trans w2).trans w3,?_,?_,λn q1 q2=>aeN n (al n q1 q2)⟩
 ·simp_all[an,oq,mK,X2,IZ,iG,pC]
 simp_all[an,oq,mK,X2,IZ,iG,pC]
def GG {b:Bn} {lab:Nat->Lb} {env:Env} {H:Hp} {ps:List (Nat×AV)} {d:Doc} (hB:b8 lab b H) (hl:∀p,p<4+2*b.n0->(lab p).fresh=true/\lab p≠ .loc 2/\lab p≠ .loc 4) (hE:∀l:Lb,l.entry=true->H l= .unused)
  (a2:H (.loc 2)= .live ⟨1,[[.list (d.map Node.iv)]]⟩) (a4:H (.loc 4)= .live ⟨1,[[.nil0]]⟩)
  (he:kg lc lab (dh b) [] (lc 0)=lab 0->kg lc lab (dh b) [] (.loc 2)= .loc 2->kg lc lab (dh b) [] (.loc 4)= .loc 4->dp (kg lc lab (dh b) []) env ps) :
  WH lc (dh b) [.loc 2,.loc 4] (λ_=>false) ps (oQ d) env H lab []:=by
 refine⟨hB,?_,he (gg (λp1 p2 _ _ e=>oo e) (aW.2 ajK)) (fV akq) (fV akq),?_,ajS,?_,by simp[aD,Lb.entry],?_⟩
 ·grind
 ·grind [oQ,aD,aP,aA,aH]
 ·intro l' gR p' fE;have:=hl p' (aW.1 fE);simp at gR;rcases gR with rfl|rfl
  ·exact this.2.1
  exact this.2.2
 grind [aW,lc,Lb.entry]
def AK (l:List Op) (p:Nat):List (Nat×AV):=[(1,.list (l.map Op.iv)),(2,.ptr (.loc 2) 1 0 0),(4,.ptr (.loc 4) 1 0 0),(7,.ptr (lc 0) 3 0 0),(10,.int .i64 p)]
def M4 (l:List Op) (p i:Nat):List (Nat×AV):=(63,.list (l.map Op.iv))::(64,.int .i64 l.length)::(65,.int .i64 i)::AK l p
def K4 {b:Bn} {d:Doc} (H0:Hp) (rH:H0=Ar lc (dh b) (cU (λ_=>false) (oQ d))):b8 lc b H0/\H0 (.loc 2)= .live ⟨1,[[.list (d.map Node.iv)]]⟩/\H0 (.loc 4)= .live ⟨1,[[.nil0]]⟩ /\
  (∀l':Lb,l'.entry=true->H0 l'= .unused)/\(∀c l',H0 (NW c l')= .unused)/\(∀n,n≠2->n≠4->H0 (.loc n)= .unused):=by
 have hO:∀l':Lb,(∀p',lc p'≠l')->H0 l'=cU (λ_=>false) (oQ d) l':=λl' hl=>by rw[rH];exact gx _ λp' _=>hl p'
 have hO2:∀l':Lb,(∀p',lc p'≠l')->l'≠ .loc 2->l'≠ .loc 4->H0 l'= .unused:=λl' h1 h2 h3=>(hO l' h1).trans am7;refine⟨al1,(hO _ akq).trans (by simp[cU,oQ,eQ]),(hO _ akq).trans ans,?_,?_,?_⟩
 ·exactλl' he=>hO2 l' al9 akd akd
 ·grind [lc,NW]
 simp_all[lc]
def QY (d:Doc) (l:List Op) (x:Tree) (bt:Nat->Nat->Bn)
  (Tn:d.length<=2^20) (hl:l.length<=B) (M5:aj P G 112 [Doc.av d,.list (l.map Op.iv)] (.int .i64 (dn d l))) (h0:dn d l=0)
  (hCA:∀xs:List Attr,xs.length<=B->DI P G 45 [.list (aQ xs)] 2 (aQ xs)) (hCI:∀xs:List Int,xs.length<=B->DI P G 46 [.list (xs.map aC)] 1 (xs.map aC))
  (xz:∀y∈d,y.attrs.length<=B/\y.kids.length<=B) (yB:bt 1 0=qd d d.length) (Sj:∀p i,(bt p i).n0=d.length) (hbt:∀p,bt (p+1) 0=bt p l.length) (SE:d.length<=(bt 6 0).nodes.length)
  (VU:∀o∈l,∃y:Node,0<=o.target/\d[o.target.toNat]?=some y/\aj P G 113 [.int .i64 o.kind,.bool y.text] (.int .i64 (jo o.kind y.text)))
  (TG:∀(p i:Nat) o y,l[i]?=some o->d[o.target.toNat]?=some y->jo o.kind y.text≠(p:Int)->bt p (i+1)=bt p i)
  (x6:∀(p i:Nat) o y,l[i]?=some o->d[o.target.toNat]?=some y->jo o.kind y.text=(p:Int)->r_ P G 114 [.ptr (.par 0) 3 0 0,o.av] (dh (bt p i)) [0,2,3] λX R2=>X=(λ_=> .bq [])/\R2=dh (bt p (i+1)))
  (hT:aj P G 115 [nB (bt 6 0).nodes (bt 6 0).fs (bt 6 0).az,.int .i64 0] x.av) (hJ:aj P G 116 [.list (aM x.kids)] (.list (aM (cP x.kids))))
  (mk:Doc×Int) (hM:aj P G 30 [(Tree.mk x.text x.s x.attrs (cP x.kids)).av] (.bq [Doc.av mk.1,.int .i64 mk.2])) :
  aj P G 71 [Doc.av d,.list (l.map Op.iv)] (if mk.2=0 then .bq [Doc.av mk.1,.int .i64 0] else .bq [Doc.av d,.int .i64 2]):=by
 refine au (cw 71 acE) ajL aka (by split<;>simp[AV.aq,ai,Doc.av]) ?_;have gV:B=1073741824:=rfl;have I0:(2:Nat)^20=1048576:=ajN
 simp only[↓aX,mX,seval,Doc.av];refine ah M5 ?_;simp only[↓aX,mX,seval,h0,Int.reduceBNe,Doc.av,eD,IX];refine⟨rfl,?_⟩;rw[K2 ajK ajX];simp only[↓aX,mX,seval,eD,IX];rw[K2 ajK ajX];simp only[↓aX,mX,seval,eD,IX,ec];refine⟨_,_,oa (q:= .loc 32) (N:= .loc 1001) (i:=0) (j:=0) (sz:=5) (sq:=3) (els:=[[.nil0,.sl (.loc 26) 1 0 d.length,.sl (.loc 30) 1 0 d.length]]) ajR rfl rfl ajX ajN,?_⟩;simp only[↓aX,mX,seval,eD];refine sb (σ:={i:Nat // i<=d.length}) lc (λq=>dh (qd d q.1)) [.loc 2,.loc 4] (λ_=>false) (λq=>T9 d l q.1) (λ_=>oQ d) (λq=>d.length - q.1) ⟨0,agO _⟩
  (λq p1 p2 _ _ e=>oo e) (λ_=>rfl) akq ?_ ?_ ?_ ?_
 ·intro q l' gR;simp[ai,AV.aq,T9] at gR;rcases gR with rfl|rfl|rfl
  ·simp
  ·simp
  right;exact⟨0,aW.2 ajK,rfl⟩
 ·exact XA
 ·refine⟨yx,[],?_⟩;refine⟨?_,?_,?_,?_,ajS,?_,akU,?_⟩
  ·refine b8.mk' ?_ ?_ ?_ ?_ ?_ ?_ ?_
   ·intro p q hp hq e;have hp:p<4:=(by simpa[qd] using hp);have hq:q<4:=by simpa[qd] using hq
    match p,hp,q,hq with
    |0,_,0,_|1,_,1,_|2,_,2,_|3,_,3,_=>rfl
    |0,_,1,_|0,_,2,_|0,_,3,_|1,_,0,_|1,_,2,_|1,_,3,_|2,_,0,_|2,_,1,_|2,_,3,_|3,_,0,_|3,_,1,_|3,_,2,_=>simp[yx] at e
   ·simp[yx,ae,qd,s5]
   ·simp[yx,ae,qd]
   ·simp[yx,ae,qd,CO]
   ·simp[yx,ae,qd,CO]
   ·intro j hj;simp[qd] at hj
   intro j hj;simp[qd] at hj
  ·intro l' he hu;exfalso;apply hu;cases l'<;>simp_all[Lb.entry,ae,Hp.none]
  ·have r0:kg lc yx (dh (qd d 0)) [] (lc 0)=yx 0:=gg (λp1 p2 _ _ e=>oo e) (aW.2 ajK);have r2:kg lc yx (dh (qd d 0)) [] (.loc 2)= .loc 2:=fV akq;have r4:kg lc yx (dh (qd d 0)) [] (.loc 4)= .loc 4:=fV akq;simp[T9,dp,aH,put,fH,r0,r2,r4];simp[yx]
  ·intro z hz;simp only[oQ,aga,agf,agI] at hz;rcases hz with rfl|rfl<;>simp[aD,ae,aP,aA,aH]
  ·intro l' gR p' fE;have fE:p'<4:=(by simpa[qd] using aW.1 fE);simp only[aga,agf,agI] at gR;rcases gR with rfl|rfl<;>(simp only[aD];match p',fE with|0,_|1,_|2,_|3,_=>simp[yx])
  intro p' fE;have fE:p'<4:=by simpa[qd] using aW.1 fE
  refine⟨λ_=> ?_,λh=>by simp[lc,Lb.entry] at h⟩
  match p',fE with|0,_|1,_|2,_|3,_=>rfl
 rintro⟨i,hi⟩;obtain⟨H0,rH⟩:∃H0,H0=Ar lc (dh (qd d i)) (cU (λ_=>false) (oQ d)):=⟨_,rfl⟩;simp only;rw[<-rH];have hB:b8 lc (qd d i) H0:=al1
 have hO:∀l':Lb,(∀p',lc p'≠l')->H0 l'=cU (λ_=>false) (oQ d) l':=λl' hl=>by rw[rH];exact gx _ λp' _=>hl p'
 have hO2:∀l':Lb,(∀p',lc p'≠l')->l'≠ .loc 2->l'≠ .loc 4->H0 l'= .unused:=λl' h1 h2 h3=>(hO l' h1).trans am7;have a2:H0 (.loc 2)= .live ⟨1,[[.list (d.map Node.iv)]]⟩:=(hO _ akq).trans ans;have a4:H0 (.loc 4)= .live ⟨1,[[.nil0]]⟩:=(hO _ akq).trans ans;have hE:∀l':Lb,l'.entry=true->H0 l'= .unused:=λl' he=>hO2 l' al9 akd akd;have aN:∀c l',H0 (NW c l')= .unused:=λc l'=>hO2 _ (by simp[lc,NW]) akK akK;have al:∀n,n≠2->n≠4->H0 (.loc n)= .unused:=λn h1 h2=>hO2 _ akq aj8 akN;clear hO hO2 rH;have hs:H0 (lc 0)= .live ⟨3,[[.sl (lc 1) 5 0 (qd d i).nodes.length,.sl (lc 2) 1 0 (s5 d.length).length,.sl (lc 3) 1 0 (s5 d.length).length]]⟩:=hB.s;have yo:H0 (lc 1)= .live ⟨5,(qd d i).nodes.mapIdx (b5 i lc)⟩:=hB.n;have NU:(qd d i).nodes.length=i:=by simp[qd];omega
 rw[NU] at hs;simp only[↓aX,mX,seval,T9];refine j7 (λh=> ?_) (λh=> ?_)
 ·have aF:i<d.length:=by simpa using h
  obtain⟨y,hy⟩:=gE aF;have hw:=w1 i;have QR:(d.map Node.iv)[i]?=some y.iv:=by rw[ago,hy];rfl
  obtain⟨hya,Bx⟩:=xz y (af3 hy);simp only[↓aX,mX,seval,QR,iY,Node.ax,Node.cs,al 9 ajN ajN];refine⟨rfl,?_⟩;refine K1 901 (hCA y.attrs hya) ajO (λl'=>by rw[an _ _ akK,an _ _ akK];exact aN _ _) ajL λl1=> ?_;have nA:∀n,NW 901 l1≠ .loc n:=akK
  have YY:∀p,lc p≠NW 901 l1:=by simp[NW,lc]
  have uA:H0 (NW 901 l1)= .unused:=aN _ _;have fA:(NW 901 l1).fresh=true:=rfl;have eA:(NW 901 l1).entry=false:=rfl;have hAK:∀l2,NW 902 l2≠NW 901 l1:=akK
  generalize NW 901 l1=A at *;have VV:∀n,Lb.loc n≠A:=λn=>agQ (nA n);simp only[↓aX,mX,seval,VV,aE];refine K1 902 (hCI y.kids Bx) ajO (λl'=>by rw[an _ _ (hAK l'),an _ _ akK,an _ _ akK];exact aN _ _) ajL λl2=> ?_;have nK:∀n,NW 902 l2≠ .loc n:=akK
  have YZ:∀p,lc p≠NW 902 l2:=by simp[NW,lc]
  have uK:H0 (NW 902 l2)= .unused:=aN _ _;have fK:(NW 902 l2).fresh=true:=rfl;have eK:(NW 902 l2).entry=false:=rfl;have hAK:=hAK l2;generalize NW 902 l2=Kd at *;have Y0:∀n,Lb.loc n≠Kd:=λn=>agQ (nK n);have QZ:=agQ hAK;simp only[↓aX,mX,seval,VV,Y0,eD,QZ];refine⟨rfl,?_⟩;simp only[↓aX,mX,seval,k_,oq,YY,YZ,hs,yo,IY,D2,VV,Y0,QZ,CP];have u54:=al 54 ajN ajN;have u55:=al 55 ajN ajN;rw[uR (sz:=5) (d:=54) (cs:=[.bool y.text,.str y.s,.sl A 2 0 y.attrs.length,.int .i64 y.parent,.sl Kd 1 0 y.kids.length]) (by simp[gF,AV.cells,AV.Bq,AV.one,aE]) (by simp[ae,VV,Y0,u54]) rfl ajN];simp only[↓aX,mX,seval,k_,oq,YY,YZ,hs,yo,IY,D2,VV,Y0,QZ,CP];rw[K3 (l:=lc 1) (q:= .loc 54) (d:=55) (els:=(qd d i).nodes.mapIdx (b5 i lc)) (cs:=[.bool y.text,.str y.s,.sl A 2 0 y.attrs.length,.int .i64 y.parent,.sl Kd 1 0 y.kids.length]) (by simp[ae,k_,YY,YZ,yo]) ajR (by simp[AV.oF,AV.one]) (by rw[agw,NU]) ajK ajN (by simp[lc];rintro⟨⟩) (by simp[D2,ae,VV,Y0,u55])];simp only[↓aX,mX,seval,k_,oq,YY,YZ,hs,yo,IY,D2,VV,Y0,QZ,CP,QV,hw,or_true,true_or];refine⟨by rintro l' (rfl|rfl)<;>simp[Lb.ix,lc],?_⟩;refine⟨⟨i+1,aF⟩,ajM,qk i A Kd,[],?_⟩;have hX0:qk i A Kd 0=lc 0:=by unfold qk;rw[af8 ajK,af8 ajK,af8 ajK]
  have r0:kg lc (qk i A Kd) (dh (qd d (i+1))) [] (lc 0)=lc 0:=(gg (λp1 p2 _ _ e=>oo e) (aW.2 ajK)).trans hX0;have r2:kg lc (qk i A Kd) (dh (qd d (i+1))) [] (.loc 2)= .loc 2:=fV akq;have r4:kg lc (qk i A Kd) (dh (qd d (i+1))) [] (.loc 4)= .loc 4:=fV akq;have hXl:∀p n,n≠55->qk i A Kd p≠ .loc n:=by
   intro p n hn;unfold qk;split
   ·simpa using agQ hn
   split
   ·exact nA n
   split
   ·exact nK n
   exact k_ _ _
  refine⟨?_,?_,?_,?_,ajS,?_,akU,?_⟩
  ·refine QW hy hB YY YZ (nA 55) (nK 55) hAK ?_ ?_ ?_ ?_ ?_
   ·simp[ae,CP]
   ·simp[ae,oq]
   ·simp[ae,agQ (YY _),nA,QZ]
   ·simp[ae,agQ (YZ _),nK]
   intro p g1 g2;simp[ae,CP,g1,g2,k_,YY,YZ]
  ·intro l' he hu;exfalso;apply hu;have e1:∀p,l'≠lc p:=(by rintro p rfl;simp[lc,Lb.entry] at he);have e2:∀n,l'≠ .loc n:=(by rintro p rfl;simp[Lb.entry] at he);have e3:l'≠A:=(by rintro rfl;rw[eA] at he;cases he);have e4:l'≠Kd:=(by rintro rfl;rw[eK] at he;cases he);simp[ae,e1,e2,e3,e4,hE l' he]
  ·simp[dp,aH,put,iX,r0,r2,r4]
  ·intro z hz;simp only[oQ,aga,agf,agI] at hz;rcases hz with rfl|rfl<;>simp[aD,ae,aP,aA,aH,oq,VV,Y0,a2,a4]
  ·intro l' gR p' fE;simp only[aga,agf,agI] at gR;rcases gR with rfl|rfl
   ·exact hXl _ _ ajN
   exact hXl _ _ ajN
  intro p' fE;refine⟨λ_=> ?_,λh=>by simp[lc,Lb.entry] at h⟩;unfold qk;split
  ·rfl
  split
  ·exact fA
  split
  ·exact fK
  rfl
 have he:i=d.length:=aki
 clear hs yo NU al aN;subst he;simp only[↓aX,mX,seval];have T':∀b:Bn,∀p,p<4+2*b.n0->(lc p).fresh=true/\lc p≠ .loc 2/\lc p≠ .loc 4:=λb p _=>⟨rfl,akq,akq⟩;refine sb (σ:={p:Nat // 1<=p/\p<=6}) lc (λq=>dh (bt q.1 0)) [.loc 2,.loc 4] (λ_=>false) (λq=>AK l q.1) (λ_=>oQ d) (λq=>6 - q.1) ⟨1,ajK,ajK⟩
  (λq p1 p2 _ _ e=>oo e) (λ_=>rfl) akq ?_ ?_ ?_ ?_
 ·intro q l' gR;simp[ai,AV.aq,AK] at gR;rcases gR with rfl|rfl|rfl
  ·simp
  ·simp
  right;exact⟨0,aW.2 ajK,rfl⟩
 ·exact XA
 ·refine⟨lc,[],?_⟩;refine GG (by simp only[yB];exact hB) (T' _) hE a2 a4 λr0 r2 r4=> ?_;simp[AK,dp,aH,put,iX,r0,r2,r4]
 rintro⟨p,NP,hp6⟩;obtain⟨H1,Vw⟩:∃H1,H1=Ar lc (dh (bt p 0)) (cU (λ_=>false) (oQ d)):=⟨_,rfl⟩;simp only;rw[<-Vw];obtain⟨hB1,b2,b4,bE,bN,bl⟩:=K4 H1 Vw;clear Vw;simp only[↓aX,mX,seval,AK];refine j7 (λh=> ?_) (λh=> ?_)
 ·have hp5:p<=5:=by simp at h;omega
  simp only[↓aX,mX,seval,eD];refine sb (σ:={i:Nat // i<=l.length}) lc (λq=>dh (bt p q.1)) [.loc 2,.loc 4] (λ_=>false) (λq=>M4 l p q.1) (λ_=>oQ d) (λq=>l.length - q.1) ⟨0,agO _⟩
   (λq p1 p2 _ _ e=>oo e) (λ_=>rfl) akq ?_ ?_ ?_ ?_
  ·intro q l' gR;simp[ai,AV.aq,AK,M4] at gR;rcases gR with rfl|rfl|rfl
   ·simp
   ·simp
   right;exact⟨0,aW.2 ajK,rfl⟩
  ·exact XA
  ·refine⟨lc,[],?_⟩;refine GG hB1 (T' _) bE b2 b4 λr0 r2 r4=> ?_;simp[AK,M4,dp,aH,put,iX,r0,r2,r4]
  rintro⟨j,hj⟩;obtain⟨H2,hH2⟩:∃H2,H2=Ar lc (dh (bt p j)) (cU (λ_=>false) (oQ d)):=⟨_,rfl⟩;simp only;rw[<-hH2];obtain⟨s4,c2,c4,cE,cN,cl⟩:=K4 H2 hH2;clear hH2;simp only[↓aX,mX,seval,AK,M4];refine j7 (λh=> ?_) (λh=> ?_)
  ·have aF:j<l.length:=aj6;obtain⟨o,ho⟩:=gE aF;have hw:=w1 j;obtain⟨y,hy0,hy,hPh⟩:=VU o (af3 ho);have QR:(d.map Node.iv)[o.target.toNat]?=some y.iv:=(by rw[ago,hy];rfl);simp only[↓aX,mX,seval,zo,ho,af9,xH,Op.ax,Op.cs,cl 12 ajN ajN,c2,hy0,QR,iY,Node.ax,Node.cs];refine⟨rfl,dG hPh ?_⟩;simp only[↓aX,mX,seval];refine j7 (λh=> ?_) (λh=> ?_)
   ·simp only[↓aX,mX,seval];have hpe:jo o.kind y.text=(p:Int):=aj6;refine gZ (lab:=lc) (N:=NW 903) (x6 p j o y ho hy hpe) amW ((s4.tp (λp' _=>k_ _ _)).tp (λp' _=>k_ _ _)) (λl'=>by rw[an _ _ akK,an _ _ akK];exact cN _ _) (DH 903) (λ_ _=> .inr λp' _=>rfl) (λp' fE=>aW.2 (by simp at fE;omega)) ?_;rintro X R2 cm H3 ⟨rfl,rfl⟩ g1 g2 g3 g4 g5 g6;simp only[↓aX,mX,seval,hw];have e0:cm 0=lc 0:=g2 0 ajL;have g4':∀l':Lb,(∀p',l'≠lc p')->(∀q,l'≠NW 903 q)->l'≠ .loc 12->H3 l'=H2 l':=λl' q1 q2 q3=>(by rw[g4 l' (λp' _=>q1 p') q2,an _ _ q3,an _ _ q3]);refine⟨⟨j+1,aF⟩,ajM,cm,[],?_⟩;refine GG g1 (λp' fE=> ?_) (λl' he=> ?_) ?_ ?_ λr0 r2 r4=> ?_
    ·rcases g3 p' (aW.2 fE) with⟨p0,_,e⟩|⟨q,e⟩<;>rw[e]
     ·exact⟨rfl,k_ _ _,k_ _ _⟩
     exact⟨rfl,akK,akK⟩
    ·rw[g4' l' (by rintro p' rfl;simp[lc,Lb.entry] at he) (by rintro p' rfl;simp[NW,Lb.entry] at he) akd];exact cE l' he
    ·rw[g4' _ (λp'=>oq _ _) akK ajL];exact c2
    ·rw[g4' _ (λp'=>oq _ _) akK ajL];exact c4
    simp[AK,M4,dp,aH,put,iX,r0,r2,r4,e0]
   simp only[↓aX,mX,seval,hw];have hpe:jo o.kind y.text≠(p:Int):=aj6;refine⟨⟨j+1,aF⟩,ajM,lc,[],?_⟩;refine GG (by rw[TG p j o y ho hy hpe];exact(s4.tp (λp' _=>k_ _ _)).tp (λp' _=>k_ _ _)) (T' _) (λl' he=> ?_) ?_ ?_ λr0 r2 r4=> ?_
   ·have:l'≠ .loc 12:=akd;simp[ae,this,cE l' he]
   ·simp[ae,c2]
   ·simp[ae,c4]
   simp[AK,M4,dp,aH,put,iX,r0,r2,r4]
  have he:j=l.length:=aki
  have hw:=w1 p;simp only[↓aX,mX,seval,hw];refine⟨⟨p+1,ajK,ajK⟩,ajM,lc,[],?_⟩;refine GG (by simp only[hbt p,<-he];exact s4) (T' _) cE c2 c4 λr0 r2 r4=> ?_;simp[AK,dp,aH,put,iX,r0,r2,r4]
 have he:p=6:=aki
 subst he;simp only[↓aX,mX,seval,ec];refine⟨_,M3 (bt 6 0) H1,(vJ hB1 (by rw[Sj];exact SE) ?_ ?_ ?_ b2 b4 bl).1,?_⟩
 ·simp[put,iX]
 ·simp[put,iX]
 ·simp[put,iX]
 obtain⟨-,c2,c4,cl⟩:=vJ (S:=⟨P,G,100⟩) (env:=iX [(7,.ptr (lc 0) 3 0 0),(2,.ptr (.loc 2) 1 0 0),(4,.ptr (.loc 4) 1 0 0)]) hB1 (by rw[Sj];exact SE) rfl rfl rfl b2 b4 bl;simp only[↓aX,mX,seval];refine ah hT ?_;have c13:=cl 13 ajN ajN;have c14:=cl 14 ajN ajN;simp only[↓aX,mX,seval,Tree.av,c13];refine ah hJ ?_;simp only[↓aX,mX,seval,Tree.av,c13];have T_:=hM;simp only[Tree.av,Tree.text,Tree.s,Tree.attrs,Tree.kids] at T_;refine ah T_ ?_;simp only[↓aX,mX,seval,Doc.av,c14];by_cases hm:mk.2=0
 ·rw[agc hm,show(mk.2 !=0)=false by simp[hm]];simp only[↓aX,mX,seval,c2,c4,c14,cS]
 rw[af8 hm,show(mk.2 !=0)=true by simpa using hm];simp only[↓aX,mX,seval,c2,c4,c14,cS]
def M6 (d:Doc) (l:List Op)
  (M5:aj P G 112 [Doc.av d,.list (l.map Op.iv)] (.int .i64 (dn d l))) (h0:dn d l≠0) :
  aj P G 71 [Doc.av d,.list (l.map Op.iv)] (.bq [Doc.av d,.int .i64 (dn d l)]):=by
 refine au (cw 71 acE) ajL aka alM ?_;simp only[↓aX,mX,seval,Doc.av];refine ah M5 ?_;simp only[↓aX,mX,seval,Doc.av];rw[show(dn d l !=0)=true by simpa using h0];simp only[↓aX,mX,seval,Doc.av,cS]
end

structure AL (t:Tree) (pre:List Op) (o:Op):Prop where
 ex:∃n q y,Sub 0 (-1) t n q y/\o.target=(n:Int)/\1<=o.kind/\o.kind<=10/\(o.kind=1\/o.kind=2\/8<=o.kind->y.text=false)/\(3<=o.kind/\o.kind<=6->0<=q) /\
  (o.kind=1\/o.kind=2->bZ pre 7 n=false)/\(o.kind=3\/o.kind=4\/o.kind=6->bZ pre 7 q.toNat=false/\bZ pre 6 n=false/\bZ pre 5 n=false)
def Bo (o:Op):Nat:=bH o.content+o.s.length+1
def jE (l:List Op):Nat:=(l.map Bo).sum
def AM (a b:List Op):jE (a++b)=jE a+jE b:=by simp[jE]
def M7 {a b:List Op} (h:a.Perm b):jE a=jE b:=(h.map Bo).sum_nat
section
variable {t:Tree} {l:List Op} {b:Bn} {o:Op}
def Y1 (h:v8 t l b) (h0:∀i q y,Sub 0 (-1) t i q y->y.text=true->y.kids=[]) (hs:AL t l o):v8 t (l++[o]) (jD b o)/\(jD b o).nodes.length<=b.nodes.length+Bo o:=by
 obtain⟨n,q,y,hy,ht,k1,Hr,c1,c2,c3,c4⟩:=hs.ex;have hw:=mo o.content
 grind [Bo,step1,step2,YT,acA,acB,acC,acD]
def ri (t:Tree):Bn:=⟨t.cC,ay t,List.replicate t.cC 0,List.replicate t.cC 0⟩
theorem K5 (h0:∀i q y,Sub 0 (-1) t i q y->y.text=true->y.kids=[]):∀(m:Nat) (done:List Op),done.length=m->(∀pre o post,done=pre++o::post->AL t pre o) ->
  v8 t done (done.foldl jD (ri t))/\(done.foldl jD (ri t)).nodes.length<=t.cC+jE done
 |0,done,hm,_=>by
  grind [MZ,ri,eR,jE]
 |m+1,done,hm,hs=>by
  rcases aiQ done with rfl|⟨pre,o,rfl⟩
  ·simp at hm
  rw[List.concat_eq_append] at hm hs ⊢;obtain⟨g1,g2⟩:=K5 h0 m pre ajV λp x post e=>hs p x (post++[o]) (by rw[e];simp);obtain⟨g3,g4⟩:=Y1 g1 h0 (hs pre o [] ajL);rw[aiI,ah2,ajt];refine⟨g3,?_⟩;rw[AM];have:jE [o]=Bo o:=by simp[jE]
  omega
end
theorem vK (L:List Tree):(news L).length=L.length:=by simp[news]
def Y2 (l:List Op):Nat:=(l.map λo=>o.content.length).sum
def Ua (l:List Op):Y2 l<=jE l:=by
 unfold Y2 jE;induction l with
 |nil=>simp
 |cons o r ih=>grind [bO,Bo]
def I1 (l:List Op) (c:Op->Bool):Nat:=((l.filter c).map λo=>o.content.length).sum
theorem sv (l:List Op) (k:Int) (n:Nat):(aB l k n).length=I1 l λo=>o.kind==k&&o.target==(n:Int):=by
 unfold aB I1 pj;simp
def I2 (l:List Op) (c d:Op->Bool) (h:∀o∈l,¬(c o=true/\d o=true)):I1 l c+I1 l d=I1 l λo=>c o||d o:=by
 unfold I1;induction l with
 |nil=>rfl
 |cons o r ih=>
 grind
def I3 (l:List Op) (c:Op->Bool):I1 l c<=jE l:=by
 refine ag' ?_ (Ua l);unfold I1 Y2;induction l with
 |nil=>simp
 |cons o r ih=>grind
def M8 (l:List Op) (k:Nat):(dC l k).length<=1+I1 l λo=>decide (3<=o.kind/\o.kind<=6/\o.target=(k:Int)):=by
 have e:(aB l 3 k).length+(aB l 6 k).length+(aB l 4 k).length<=I1 l λo=>decide (3<=o.kind/\o.kind<=6/\o.target=(k:Int)):=by
  rw[sv,sv,sv,I2,I2]
  ·unfold I1;induction l with
   |nil=>simp
   |cons o r ih=>
   grind
  ·grind
  grind
 grind [I1,dC,vK]
theorem dY (l:List Op):∀ks:List Nat,ks.Nodup->(ks.flatMap (dC l)).length<=ks.length+I1 l λo=>decide (3<=o.kind/\o.kind<=6)&&ks.any λk=>decide (o.target=(k:Int))
 |[],_=>by simp
 |k::r,h=>by
  have ih:=dY l r (ah3.1 h).2;have h1:=M8 l k;have h2:=I2 l (λo=>decide (3<=o.kind/\o.kind<=6/\o.target=(k:Int))) (λo=>decide (3<=o.kind/\o.kind<=6)&&r.any λk=>decide (o.target=(k:Int))) (by
   rintro o _ ⟨e1,e2⟩;simp at e1 e2;obtain⟨_,k',uE,e3⟩:=e2;have:k=k':=ajK;subst this;exact(ah3.1 h).1 uE)
  have h3:(I1 l λo=>decide (3<=o.kind/\o.kind<=6/\o.target=(k:Int))||(decide (3<=o.kind/\o.kind<=6)&&r.any λk=>decide (o.target=(k:Int))))=I1 l λo=>decide (3<=o.kind/\o.kind<=6)&&(k::r).any λk=>decide (o.target=(k:Int)):=by
   grind
  grind

def AN (l:List Op) (i:Nat) (y:Tree):(di l i y).length<=y.kids.length+3*jE l+1:=by
 unfold di;have yo:(bC (i+1) y.kids).Nodup:=by
  have:∀(off:Nat) (xs:List Tree),(bC off xs).Nodup:=by
   intro off xs;induction xs generalizing off with
   |nil=>simp[bC]
   |cons x r ih=>
   simp[bC,ah3];refine⟨λh=> ?_,ih _⟩;have:=qO _ _ off h;have:=x.ca;omega
  grind
 have h1:=dY l (bC (i+1) y.kids) yo;have h2:=I3 l λo=>decide (3<=o.kind/\o.kind<=6)&&(bC (i+1) y.kids).any λk=>decide (o.target=(k:Int));have h3:=I3 l λo=>o.kind==1&&o.target==(i:Int);have h4:=I3 l λo=>o.kind==2&&o.target==(i:Int)
 grind [sv,bC,wH,ek,vK]
def tX {az:List Attr} (h:gA az=true) (l:List Op) (n:Nat):gA (bL l n az)=true:=by
 unfold bL;induction l generalizing az with
 |nil=>exact h
 |cons o r ih=>
 grind [o8,MV]
def tY (az:List Attr) (l:List Op) (n:Nat):(bL l n az).length<=az.length+l.length:=by
 unfold bL;induction l generalizing az with
 |nil=>simp
 |cons o r ih=>
 grind [o8,MW]
theorem AP:∀l:List Op,l.length<=jE l
 |[]=>by simp
 |o::r=>by
  have:=AP r
  grind [jE,Bo]
section
variable {P:Program} {G:Nat->Option (List IV)} [KN P G]
set_option maxHeartbeats 2000000 in
def cDo (hI:BN P G 156) (Gu:pO P G 157) (hD:QA P G 158) (hV:DX P G 159) (NV:Gs P G 160)
   {t:Tree} {l:List Op} {b:Bn} {o:Op} (h:v8 t l b) (h0:∀i q y,Sub 0 (-1) t i q y->y.text=true->y.kids=[]) (hr:∀i q y,Sub 0 (-1) t i q y->gA y.attrs=true/\y.attrs.length<=80/\y.kids.length<=80) (hs:AL t l o)
   (hb:b.nodes.length+4*jE (l++[o])+200<=B) :
   r_ P G 114 [.ptr (.par 0) 3 0 0,o.av] (dh b) [0,2,3] λX R2=>X=(λ_=> .bq [])/\R2=dh (jD b o):=by
 obtain⟨k,ta,co,na,st⟩:=o
 obtain⟨n,q,y,hy,ht,k1,Hr,c1,c2,c3,c4⟩:=hs.ex
 simp only at ht k1 Hr c1 c2 c3 c4
 subst ht
 have hw:jE (l++[(⟨k,n,co,na,st⟩:Op)])=jE l+(bH co+st.length+1):=by rw[AM];simp[jE,Bo]
 rw[hw] at hb
 have yA:=bO co
 have gV:B=1073741824:=rfl
 obtain⟨ks,h1,h2⟩:=h.nd n q y hy
 have hrg:=hy.Ig
 have Sl:=y.ca
 have hn:n<b.n0:=akB
 have hle:=h.le
 have ov:=h.n0
 obtain⟨hra,PJ,xx⟩:=hr n q y hy
 have YM:=nv h2
 have je:=AN l n y
 have hlw:=AP l
 have JO:k=1\/k=2\/(k=3\/k=4\/k=5\/k=6)\/k=7\/k=8\/k=9\/k=10:=ajK
 rcases JO with rfl|rfl|hk|rfl|rfl|rfl|rfl
 · have hT:=c1 ajK
   have hv:=c3 ajK
   have L2:=h.fs.2 n ajK
   have Sa:(b.fs.getD n 0).toNat=(aB l 1 n).length:=by rw[List.getD_eq_getElem?_getD,L2];simp
   have hd:jD b ⟨1,n,co,na,st⟩={b.ins n (aB l 1 n).length co with fs:=b.fs.set n (((aB l 1 n).length+co.length:Nat):Int)}:=by
     unfold jD;simp only[Int.toNat_natCast,h1,if_true,Sa]
   rw[hd]
   have hfk:(aB l 1 n).length<=ks.length:=by
     rw[YM];unfold di;rw[hT,hv];simp[vK]
   exact aez b hle n hn _ h1 co na st _ L2 hfk ajK ajM hI
 · have hd:jD b ⟨2,n,co,na,st⟩=b.ins n ks.length co:=by
     unfold jD;simp[h1]
   rw[hd]
   exact aeA b hle n hn _ h1 co na st ajK ajM hI
 · have hq:=c2 ajK
   obtain⟨B',IU⟩:=beside h h0 hy hq
   have YA:=B'.hz.Ig
   have acz:=B'.z.ca
   have hm:B'.m<b.n0:=akB
   have qB:b.kd B'.m=B'.ks:=by rw[Bn.lu B'.nd]
   have afT:=AN l B'.m B'.z
   have Om:=nv B'.rp
   have hzk:=(hr _ _ _ B'.hz).2.2
   have key:k≠5->∃L:Nat,mc B'.ks n=(L:Int)/\L<B'.ks.length/\L+1+(aB l 4 n).length<=B'.ks.length:=by
     intro h5
     obtain⟨hv,h6,h5⟩:=c4 ajK
     rw[IU,Int.toNat_natCast] at hv
     have YU:=B'.items hv
     have QO:dC l n=news (aB l 3 n)++ .yl n::news (aB l 4 n):=aml
     have Sm:dN (Rp b) B'.ks ((B'.A++news (aB l 3 n))++ .yl n::(news (aB l 4 n)++B'.C)):=by
       have:=B'.rp;rw[YU,QO] at this
       simpa using this
     have hA:∀x∈B'.A++news (aB l 3 n),nw n x=false:=by
       intro x hx
       rcases List.mem_append.1 hx with hx|hx
       · exact B'.KY x hx
       exact ny n _ x hx
     obtain⟨o9,aF⟩:=D1 hn Sm hA
     refine⟨_,o9,aF,?_⟩
     rw[nv Sm]
     simp[vK];omega
   have uE:k=3\/k=4\/k=5\/k=6:=hk
   have qT:(q.toNat:Nat)=B'.m:=by rw[IU];rfl
   rcases uE with rfl|rfl|rfl|rfl
   · obtain⟨L,o9,aF,_⟩:=key ajK
     have hd:jD b ⟨3,n,co,na,st⟩=b.ins B'.m L co:=by
       unfold jD;simp[h1,qT,qB,o9]
     rw[hd]
     exact aeB b hle n hn _ h1 co na st B'.m IU hm _ B'.nd ajM Gu L o9 ajM ajK ajM hI
   · obtain⟨L,o9,aF,hl4⟩:=key ajK
     have han:=h.az.2 n ajK
     have ha0:(b.az.getD n 0).toNat=(aB l 4 n).length:=by rw[List.getD_eq_getElem?_getD,han];simp
     have hd:jD b ⟨4,n,co,na,st⟩={b.ins B'.m (L+1+(aB l 4 n).length) co with az:=b.az.set n (((aB l 4 n).length+co.length:Nat):Int)}:=by
       unfold jD;simp only[Int.toNat_natCast,h1,qT,qB,o9,ha0];rfl
     rw[hd]
     exact aeC b hle n hn _ h1 co na st B'.m IU hm _ B'.nd ajM Gu L o9 _ han hl4 ajK ajM hI
   · by_cases hx:0<=mc B'.ks n
     · obtain⟨L,hL⟩:∃L:Nat,mc B'.ks n=(L:Int):=⟨(mc B'.ks n).toNat,ajK⟩
       have aF:L<B'.ks.length:=by
         unfold mc at hL
         split at hL
         · rename_i k' uE
           obtain⟨h3,_⟩:=List.findIdx?_eq_some_iff_getElem.1 uE
           omega
         omega
       have hd:jD b ⟨5,n,co,na,st⟩=b.del B'.m L:=by
         unfold jD;simp[h1,qT,qB,hL]
       rw[hd]
       exact aeD b hle n hn _ h1 co na st B'.m IU hm _ B'.nd ajM Gu L hL aF hD
     have hL:mc B'.ks n= -1:=by
       unfold mc at hx ⊢
       split at hx
       · omega
       rfl
     have hd:jD b ⟨5,n,co,na,st⟩=b:=by
       unfold jD;simp[h1,qT,qB,hL]
     rw[hd]
     exact acw b hle n hn _ h1 co na st B'.m IU hm _ B'.nd ajM Gu hL
   obtain⟨L,o9,aF,_⟩:=key ajK
   have hd:jD b ⟨6,n,co,na,st⟩=(b.del B'.m L).ins B'.m L co:=by
     unfold jD;simp[h1,qT,qB,o9]
   rw[hd]
   exact aeE b hle n hn _ h1 co na st B'.m IU hm _ B'.nd ajM Gu L o9 aF hD ajK ajM hI
 · have hd:jD b ⟨7,n,co,na,st⟩=b.value n st:=by unfold jD;simp[h1]
   rw[hd]
   exact aeF b hle n hn _ h1 co na st ajK hV
 · have hd:jD b ⟨8,n,co,na,st⟩=b.name n na:=by unfold jD;simp[h1]
   rw[hd]
   exact aeG b hle n hn _ h1 co na st
 · have hd:jD b ⟨9,n,co,na,st⟩=b.attr n ⟨9,n,co,na,st⟩:=by unfold jD;simp[h1]
   rw[hd]
   have:=tY y.attrs l n
   exact aeH b hle n hn _ h1 co na st ajM (tX hra l n) NV
 have hd:jD b ⟨10,n,co,na,st⟩=b.attr n ⟨10,n,co,na,st⟩:=by unfold jD;simp[h1]
 rw[hd]
 have:=tY y.attrs l n
 exact acx b hle n hn _ h1 co na st ajM (tX hra l n) NV
end

theorem xa {s:Bs} (h:plain s=true):s.length<=40:=by unfold plain at h;simp at h;omega
theorem xb {s:Bs} (h:named s=true):1<=s.length/\s.length<=8:=by unfold named at h;simp at h;omega
theorem GH:∀{az:List Attr},(∀a∈az,named a.name=true/\plain a.val=true)->fm az<=49*az.length
 |[],_=>by simp[fm]
 |a::r,h=>by
  have h1:=h a ajL;have h2:=GH (az:=r) λx hx=>h x ajV
  grind [xb,xa,fm,Attr.wt]
mutual
theorem D4:∀x:Tree,x.iu=true->x.wt<=240*x.cC
 | .mk t s az ks,h=>by
  simp only[Tree.iu] at h;simp only[Tree.wt,Tree.cC];cases t with
  |true=>
   simp only[agn,agm,ag9,agL] at h;obtain⟨h1,_,rfl,rfl⟩:=h;have:=xa h1;simp[fm,bH,aJ];omega
  |false=>
  simp only[agl,agk,agm] at h;obtain⟨h1,h2,h3⟩:=h;have h4:=xb h1;obtain⟨g1,g2,g3⟩:=(lr az).1 h2;have h5:=GH g1;have h6:=AQ none ks h3;omega
theorem AQ:∀(p:Option Bool) (ks:List Tree),cD p ks=true->bH ks<=240*aJ ks
 |_,[],_=>by simp[bH]
 |p,x::r,h=>by
  simp only[cD,agm] at h;have h1:=D4 x h.1;have h2:=AQ _ r h.2.2;simp only[bH,aJ];omega
end
theorem AR {l:List Tree} (h:content l=true):bH l<=19200:=by
 grind [content,AQ]
theorem vL {x:Tree} (h:x.cA=true):x.wt<=19200:=by
 grind [fg,D4]
structure D5 (t:Tree) (o:Op):Prop where
 ex:∃n q y,Sub 0 (-1) t n q y/\o.target=(n:Int)/\om (y.node n q) o=0
 k1:1<=o.kind
 Hr:o.kind<=10
def Q0 {a b c d e:Bool} (h:(if a=true then(1:Int) else if b=true then 1 else if c=true then 1 else if d=true then 6 else if e=true then 4 else 0)=0):a=false/\b=false/\c=false/\d=false/\e=false:=by
 grind
def tZ {x:Node} {o:Op} (h:om x o=0) :
  (kC o.kind=true->content o.content=true)/\(kC o.kind=false->o.content=[])/\(kN o.kind=true->named o.name=true)/\(kN o.kind=false->o.name=[])/\(kT o.kind=true->plain o.s=true)/\(kT o.kind=false->o.s=[]) /\
  (kB o.kind=true->0<=x.parent)/\(x.text=true->kB o.kind=true\/o.kind=7):=by
 unfold om at h;obtain⟨h1,h2,h3,h4,h5⟩:=Q0 h;refine⟨λe=> ?_,λe=> ?_,λe=> ?_,λe=> ?_,λe=> ?_,λe=> ?_,λe=> ?_,λe=> ?_⟩
 ·grind
 ·simpa[e] using h1
 ·grind
 ·grind
 ·grind
 ·grind
 ·grind
 grind
def D5.small {t:Tree} {o:Op} (h:D5 t o):Bo o+o.name.length<=19300:=by
 obtain⟨n,q,y,_,_,hw⟩:=h.ex;obtain⟨c1,c2,c3,c4,c5,c6,_⟩:=tZ hw
 grind [bH,kC,AR,kN,xb,kT,xa,Bo]
theorem GI:∀{pre l:List Op},jq pre l=false->l.Pairwise (λa b=>bK b a=false)/\∀a∈l,∀b∈pre,bK a b=false
 |pre,[],_=>by simp
 |pre,a::r,h=>by
  simp only[jq,ah'] at h;obtain⟨h1,h2⟩:=GI h.2;simp_all
theorem GJ:∀{pre l:List Op},l.Pairwise (λa b=>bK b a=false)->(∀a∈l,∀b∈pre,bK a b=false)->jq pre l=false
 |pre,[],_,_=>rfl
 |pre,a::r,h,h2=>by
  rw[aik] at h;simp only[jq,ah'];refine⟨List.any_eq_false.2 λb hb=>by simp[h2 a ajL b hb],GJ h.2 λx hx b hb=> ?_⟩
  grind
def D6 (a b:Op):bK a b=bK b a:=by
 grind [bK]
def D7 {d:Doc} {o:Op} (h:db d o=0):bQ d=true/\1<=o.kind/\o.kind<=10/\0<=o.target/\∃x,d[o.target.toNat]?=some x/\om x o=0:=by
 grind [db]
theorem Q1 {t:Tree} (ht:t.cA=true) (o:Op):db (ay t) o=0↔D5 t o:=by
 constructor
 ·intro h;obtain⟨_,k1,Hr,h0,x,hx,hw⟩:=D7 h;obtain⟨q,y,hl,hs⟩:=qM (afY.1 hx).1;have:x=y.node o.target.toNat q:=by rw[hl.node] at hx;exact(ah4 hx).symm
  subst this;exact⟨⟨_,q,y,hs,ajK,hw⟩,k1,Hr⟩
 rintro⟨⟨n,q,y,hs,ht',hw⟩,k1,Hr⟩;have hl:=hs.vc (ay t) ⟨[],akJ⟩;have aF:=(afY.1 hl.node).1;unfold db;rw[agc (m_ ht),af8 ajK,af8 ajK,ht',af0,hl.node]
 grind
def AS {t:Tree} {l:List Op} (ht:t.cA=true):dn (ay t) l=0↔(∀o∈l,D5 t o)/\l.length<=20/\l.Pairwise (λa b=>bK b a=false):=by
 grind [dn,m_,Q1,GI,GJ]
def CQ {d:Doc} {l:List Op} (h:dn d l=0):bQ d=true:=by
 grind [dn]
def x7 (d:Doc) (n:Int):Bool:=match d[n.toNat]? with|some x=>x.text|none=>false
def Ex (d:Doc) (o:Op):Int:=jo o.kind (x7 d o.target)
def xc (k:Int) (t:Bool):1<=jo k t/\jo k t<=5:=by
 grind [jo]
def K6 {t:Tree} {n:Nat} {q:Int} {y:Tree} (h:Sub 0 (-1) t n q y):x7 (ay t) (n:Int)=y.text:=by
 unfold x7;rw[af0,(h.vc (ay t) ⟨[],akJ⟩).node];rfl
def Q2 {t:Tree} {l:List Op} (h1:∀o∈l,D5 t o) (h2:l.Pairwise (λa b=>bK b a=false)) (h0:∀i q y,Sub 0 (-1) t i q y->y.text=true->y.kids=[]) (p i:Nat) (pre:List Op) (o:Op) (post:List Op)
  (e:dP (Ex (ay t)) l p i=pre++o::post):AL t pre o:=by
 obtain⟨r,hr⟩:=AJ (Ex (ay t)) l p i;rw[e] at hr;have acJ:=x5 (Ex (ay t)) l (p+1);have aeO:=w9 (Ex (ay t)) l (λo _=>by have:=(xc o.kind (x7 (ay t) o.target)).1;unfold Ex;omega) (p+1);have Ws:(o_ (Ex (ay t)) l (p+1)).Pairwise (λa b=>bK b a=false):=
  (aeO.pairwise_iff (λ{x y} EL=>by rw[D6];exact EL)).2 (h2.filter _)
 rw[hr,agM,ahU] at acJ Ws;have hle:∀a∈pre,Ex (ay t) a<=Ex (ay t) o:=λa ha=>acJ.2.2 a ha o ajL;have hna:∀a∈pre,bK o a=false:=λa ha=>Ws.2.2 a ha o ajL;have qD:∀a∈pre,a∈l:=λa ha=>(vI (p:=p+1) (ph:=Ex (ay t)) (by rw[hr];simp[ha])).1;have hol:o∈l:=(vI (p:=p+1) (ph:=Ex (ay t)) (by rw[hr];simp)).1;obtain⟨⟨n,q,y,hs,hot,hw⟩,k1,Hr⟩:=h1 o hol;obtain⟨c1,c2,c3,c4,c5,c6,c7,c8⟩:=tZ hw;have xA:Ex (ay t) o=jo o.kind y.text:=by unfold Ex;rw[hot,K6 hs]
 have oe:∀(k:Int) (m:Nat) (r:Int) (z:Tree),Sub 0 (-1) t m r z->jo o.kind y.text<jo k z.text->bZ pre k m=false:=by
  intro k m r z hz aF;cases hh:bZ pre k m with
  |false=>rfl
  |true=>
  obtain⟨a,ha,ha1,ha2⟩:=AH.1 hh;have:=hle a ha;rw[xA] at this;unfold Ex at this;rw[ha1,ha2,K6 hz] at this;omega
 have hkB:3<=o.kind/\o.kind<=6->0<=q:=λhk=>c7 (by unfold kB;simp[hk]);have hx:o.kind=1\/o.kind=2\/8<=o.kind->y.text=false:=by
  intro hk;cases hT:y.text with
  |false=>rfl
  |true=>
  rcases c8 hT with h|h
  ·unfold kB at h;simp at h;omega
  omega
 refine⟨n,q,y,hs,hot,k1,Hr,hx,hkB,λhk=> ?_,λhk=> ?_⟩
 ·refine oe 7 n q y hs ?_;rw[hx ajK];rcases hk with hk|hk<;>rw[hk]<;>decide
 have hq:=hkB ajK;have Ub:∃r z,Sub 0 (-1) t q.toNat r z/\z.text=false:=by
  rcases hs.KX with⟨_,e,_⟩|⟨m,z,r,a,c,e1,e2,e3,e4,e5⟩
  ·omega
  refine⟨r,z,by rw[e1];exact e2,?_⟩;cases hT:z.text with
  |false=>rfl
  |true=>have:=h0 m r z e2 hT;rw[e3] at this;simp at this
 obtain⟨r',z,hz,hzt⟩:=Ub;refine⟨oe 7 _ r' z hz ?_,?_,oe 5 n q y hs ?_⟩
 ·rw[hzt];rcases hk with hk|hk|hk<;>rw[hk]<;>cases y.text<;>decide
 ·rcases hk with hk|hk|hk
  ·exact oe 6 n q y hs ant
  ·exact oe 6 n q y hs ant
  cases hh:bZ pre 6 n with
  |false=>rfl
  |true=>
  obtain⟨a,ha,ha1,ha2⟩:=AH.1 hh;have:=hna a ha;unfold bK at this;simp[hk,ha1,hot,ha2] at this
 rcases hk with hk|hk|hk<;>rw[hk]<;>cases y.text<;>decide

def nF (l:List Op):Nat:=(l.map λo=>Bo o+o.name.length).sum
theorem rj (o:Op) (l:List Op):nF (o::l)=Bo o+o.name.length+nF l:=by simp[nF]
theorem I4:∀{l:List Op} {m:Nat},(∀o∈l,Bo o+o.name.length<=m)->nF l<=l.length*m
 |[],m,_=>by simp[nF]
 |o::r,m,h=>by
  have h1:=h o ajL;have h2:=I4 (l:=r) (m:=m) λx hx=>h x ajV
  grind [rj,agd,ag0]
theorem D8:∀{l:List Op} {o:Op},o∈l->Bo o+o.name.length<=nF l
 |a::r,o,h=>by
  rw[rj];rcases aga.1 h with rfl|h
  ·omega
  have:=D8 h;omega
theorem AT:∀l:List Op,jE l<=nF l
 |[]=>by simp[jE]
 |o::r=>by have:=AT r;rw[rj,show jE (o::r)=Bo o+jE r by simp[jE]];omega
theorem iJ (k:Int) (n:Nat):∀l:List Op,bH (aB l k n)<=nF l
 |[]=>by simp[aB,pj,bH]
 |o::r=>by
  have ih:=iJ k n r
  grind [rj,aB,pj,dQ,Bo]
def vM (l:List Op) (n:Nat) (s:Bs):(fX l n s).length<=s.length+nF l:=by
 unfold fX;split
 ·rename_i o ho;have h1:=(ahB.1 (ajx ho)).1;have:=D8 h1
  grind [Bo]
 simp
def GK (l:List Op) (n:Nat) (s:Bs):(fy l n s).length<=s.length+nF l:=by
 unfold fy;split
 ·rename_i o ho;have h1:=(ahB.1 (ajx ho)).1;have:=D8 h1;omega
 simp
def M9 (az:List Attr) (k:Nat):fm az=fm (az.take k)+fm (az.drop k):=by rw[<-yX,agD]
theorem M_:∀az:List Attr,fm (az.drop 1)<=fm az
 |[]=>by simp
 |x::r=>by simp[fm]
theorem Q3 (az:List Attr) (o:Op):fm (i_ az o)<=fm az+(Bo o+o.name.length):=by
 have h1:=M9 az (fJ az o.name);have h2:=M_ (az.drop (fJ az o.name))
 grind [ahJ,i_,yX,List.set_eq_take_append_cons_drop,fm,Attr.wt,Bo]
theorem xd (n:Nat):∀(l:List Op) (az:List Attr),fm (bL l n az)<=fm az+nF l
 |[],az=>by simp[bL]
 |o::r,az=>by
  have ih:=xd n r (o8 n az o)
  grind [fm,o8,Bo,Q3,rj,bL]
mutual
theorem K7 (l:List Op):∀(x:Tree) (off:Nat),bH (x.iH l off)+8*nF l+2<=x.wt+x.cC*(8*nF l+2)+(8*nF l+2)
 | .mk t s az ks,off=>by
  have h1:=iJ 3 off l;have h2:=iJ 6 off l;have h3:=iJ 4 off l;have h4:=iJ 1 off l;have h5:=iJ 2 off l;have h6:=vM l off s;have h7:=GK l off s;have h8:=xd off l az;have h9:=vN l ks (off+1);have JI:=vM l off [];simp only[Tree.iH,Tree.wt,Tree.cC,dQ,ag0,ai1];split
  ·omega
  split
  ·simp only[bH];omega
  have e1:(if t=true then fX l off s else fy l off s).length<=s.length+nF l:=an1
  have e2:bH (if t=true then [] else if bZ l 7 off=true then [Ew (fX l off [])] else aB l 1 off++turns l (off+1) ks++aB l 2 off)<=bH ks+aJ ks*(8*nF l+2)+2*nF l+1:=by
   split
   ·simp[bH]
   split
   ·simp only[bH,IQ,agx] at JI ⊢;omega
   rw[dQ,dQ];omega
  simp only[bH,Tree.wt];omega
theorem vN (l:List Op):∀(xs:List Tree) (off:Nat),bH (turns l off xs)<=bH xs+aJ xs*(8*nF l+2)
 |[],_=>by simp[turns,bH]
 |x::r,off=>by
  have h1:=K7 l x off;have h2:=vN l r (off+x.cC);simp only[turns,dQ,bH,aJ,ag0];omega
end
def GL (l:List Op) (x:Tree) (off:Nat):(x.bG l off).wt<=x.wt+x.cC*(8*nF l+2):=by
 have h4:=iJ 1 off l;have h5:=iJ 2 off l;have h6:=vM l off x.s;have h7:=GK l off x.s;have h8:=xd off l x.attrs;have h9:=vN l x.kids (off+1);have JI:=vM l off [];have e1:(if x.text=true then fX l off x.s else fy l off x.s).length<=x.s.length+nF l:=ajV
 have e2:bH (if x.text=true then [] else if bZ l 7 off=true then [Ew (fX l off [])] else aB l 1 off++turns l (off+1) x.kids++aB l 2 off)<=bH x.kids+aJ x.kids*(8*nF l+2)+2*nF l+1:=by
  grind [bH,IQ,dQ]
 rw[x.dL,x.ff]
 grind [Tree.bG,Tree.wt]
mutual
theorem AU:∀x:Tree,x.dep<=x.cC
 | .mk _ _ _ ks=>by have:=x8 ks;simp only[Tree.dep,Tree.cC];omega
theorem x8:∀xs:List Tree,gU xs<=aJ xs
 |[]=>by simp[gU]
 |x::r=>by have:=AU x;have:=x8 r;simp only[gU,aJ];omega
end
theorem x9 (c:Op->Bool):∀l:List Op,jE (l.filter c)<=jE l
 |[]=>by simp
 |o::r=>by
  have ih:=x9 c r
  grind [Op,jE,Bo]
def ki (t:Tree) (l:List Op):Tree:= .mk (t.bG l 0).text (t.bG l 0).s (t.bG l 0).attrs (cP (t.bG l 0).kids)
noncomputable def cq (d:Doc) (l:List Op):Doc×Int:=
 if dn d l=0 then(let x:=ki (ij d d.length 0) l;if x.cA=true then(ay x,0) else(d,2)) else(d,dn d l)
theorem GM {t:Tree} (ht:t.cA=true):ij (ay t) (ay t).length 0=t:=by
 refine xN _ 0 (-1) t (.self _ _ _) ?_;simp[eR,AU]
def AW {t:Tree} (ht:t.cA=true) {l:List Op} (h:dn (ay t) l=0):cq (ay t) l=if(ki t l).cA=true then(ay (ki t l),0) else(ay t,2):=by
 grind [cq,GM]
section
variable {P:Program} {G:Nat->Option (List IV)} [KN P G]
def Y3
    (hCA:∀xs:List Attr,xs.length<=B->DI P G 45 [.list (aQ xs)] 2 (aQ xs)) (hCI:∀xs:List Int,xs.length<=B->DI P G 46 [.list (xs.map aC)] 1 (xs.map aC))
  (hPh:∀k t,aj P G 113 [.int .i64 k,.bool t] (.int .i64 (jo k t)))
  (hI:BN P G 156) (Gu:pO P G 157) (hD:QA P G 158) (hV:DX P G 159) (NV:Gs P G 160)
  (hJ:∀l:List Tree,bH l<=B->aj P G 116 [.list (aM l)] (.list (aM (cP l))))
  (hM:∀x:Tree,x.wt<=B->aj P G 30 [x.av] (.bq [Doc.av (c_ x).1,.int .i64 (c_ x).2]))
  (d:Doc) (l:List Op) (hl:l.length<=B) (M5:aj P G 112 [Doc.av d,.list (l.map Op.iv)] (.int .i64 (dn d l))) :
  aj P G 71 [Doc.av d,.list (l.map Op.iv)] (.bq [Doc.av (cq d l).1,.int .i64 (cq d l).2]):=by
 have gV:B=1073741824:=rfl;by_cases hc:dn d l=0
 case neg=>
  have:=M6 d l M5 hc;unfold cq;rw[af8 hc];exact this
 obtain⟨t,ht,rfl⟩:=dm.1 (CQ hc);obtain⟨xA,aeP,hpw⟩:=(AS ht).1 hc;obtain⟨DP,abJ,Iw,K8⟩:=(fg t).1 ht;have hlen:(ay t).length=t.cC:=eR t;have h0:∀i q y,Sub 0 (-1) t i q y->y.text=true->y.kids=[]:=λi q y hy hT=>(Tree.rN (hy.iu K8) hT).1;have hr:∀i q y,Sub 0 (-1) t i q y->gA y.attrs=true/\y.attrs.length<=80/\y.kids.length<=80:=by
  intro i q y hy;have Sn:=hy.iu K8;have hrg:=hy.Ig;have hk:y.kids.length<=80:=by
   have h1:=y.ff;have h2:y.kids.length<=aJ y.kids:=by
    have:∀xs:List Tree,xs.length<=aJ xs:=by
     intro xs;induction xs with
     |nil=>simp
     |cons x r ih=>have:=x.ca;simp only[aJ,agd];omega
    exact this _
   omega
  cases hT:y.text with
  |true=>rw[(Tree.rN Sn hT).2.1];exact⟨rfl,ajL,hk⟩
  |false=>
  rw[Tree.tu y hT] at Sn;simp only[agm] at Sn;obtain⟨_,h2,h3⟩:=(lr y.attrs).1 Sn.2.1;exact⟨h2,ajK,hk⟩
 have Uc:nF l<=386000:=by
  have h1:=I4 λo ho=>(xA o ho).small;have h2:l.length*19300<=20*19300:=agy _ aeP;omega
 have hgw:=vL ht;obtain⟨ph,VU⟩:∃ph,ph=Ex (ay t):=⟨_,rfl⟩;have Q4:∀p i pre o post,dP ph l p i=pre++o::post->AL t pre o:=by
  intro p i pre o post e;rw[VU] at e;exact Q2 xA hpw h0 p i pre o post e
 have bV:∀p i,v8 t (dP ph l p i) ((dP ph l p i).foldl jD (ri t))/\((dP ph l p i).foldl jD (ri t)).nodes.length<=t.cC+jE (dP ph l p i):=
  λp i=>K5 h0 _ _ rfl (Q4 p i)
 have acK:∀o:Op,1<=ph o/\ph o<=5:=λo=>by rw[VU];exact xc _ _
 have hwd:∀p i,jE (dP ph l p i)<=386000:=by
  intro p i;obtain⟨r,qf⟩:=AJ ph l p i;have h1:jE (o_ ph l (p+1))<=jE l:=by
   rw[M7 (w9 ph l (λo _=>by have:=(acK o).1;omega) (p+1))];exact x9 _ l
  rw[qf,AM] at h1;have:=AT l;omega
 have PJ:Alike l (dP ph l 6 0):=by
  have hd6:dP ph l 6 0=o_ ph l 6:=by simp[dP]
  refine⟨λk n=> ?_,λn=> ?_⟩
  ·rw[hd6];unfold pj;have hP:=xc k (x7 (ay t) n);rw[rf _ (jo k (x7 (ay t) n)) (λo _ h=> ?_) 6,agc ajK];simp only[agm,ag9] at h;rw[VU];unfold Ex;rw[h.1,h.2]
  rw[hd6,rf _ 1 (λo _ h=> ?_) 6,agc ajK];unfold QT at h;simp only[agv] at h;rw[VU];unfold Ex;rcases h.2 with h|h<;>rw[h]<;>rfl
 have hx:t.bG (dP ph l 6 0) 0=t.bG l 0:=PJ.bG t 0;have acL:=(bV 6 0).1.rep t.cC 0 (-1) t (af6 _) (.self _ _ _);rw[hx] at acL;have VG:(t.bG l 0).wt<=B:=by
  have h1:=GL l t 0;have h2:t.cC*(8*nF l+2)<=80*(8*386000+2):=aju Iw ajK;omega
 have hkw:bH (t.bG l 0).kids<=B:=by have:=(t.bG l 0).dL;omega
 have hjw:=zC (t.bG l 0).kids;have hMw:(ki t l).wt<=B:=by
  have:=(t.bG l 0).dL;unfold ki;simp only[Tree.wt];omega
 have Db:(.bq [Doc.av (cq (ay t) l).1,.int .i64 (cq (ay t) l).2]:AV)=if(c_ (ki t l)).2=0 then .bq [Doc.av (c_ (ki t l)).1,.int .i64 0] else .bq [Doc.av (ay t),.int .i64 2]:=by
  rw[AW ht hc];unfold c_;cases (ki t l).cA<;>simp
 rw[Db];have I0:(2:Nat)^20=1048576:=ajN
 refine QY (ay t) l (t.bG l 0) (λp i=>(dP ph l p i).foldl jD (ri t)) (by rw[hlen,I0];omega) hl M5 hc hCA hCI ?_ ?_ ?_ ?_ ?_ ?_ ?_ ?_ ?_ ?_ _ ?_
 ·intro z hz;obtain⟨i,hi⟩:=agE hz;obtain⟨q,y,hly,hs⟩:=qM (afY.1 hi).1;rw[hly.node] at hi;cases hi;obtain⟨_,h2,h3⟩:=hr i q y hs;refine⟨by simp[Tree.node];omega,?_⟩;show(aG (i+1) y.kids).length<=B;rw[ek];omega
 ·show(dP ph l 1 0).foldl jD (ri t)=qd (ay t) (ay t).length;have:dP ph l 1 0=[]:=by
   simp only[dP,o_,ai0,ail,agb,List.nil_append];rw[ahz];intro o _ h;have:=(acK o).1;simp at h;omega
  rw[this,ajt];unfold qd ri s5;rw[hlen,af2 (by rw[hlen];exact af6 _)]
 ·intro p i;have:=(bV p i).1.n0;rw[hlen];exact this
 ·intro p;simp only[GA]
 ·have h1:=(bV 6 0).1.n0;have h2:=(bV 6 0).1.le;rw[hlen,<-h1];exact h2
 ·intro o ho;obtain⟨n,q,y,hs,hot,_⟩:=(xA o ho).ex;have gR:=(hs.vc (ay t) ⟨[],akJ⟩).node;exact⟨_,ajK,by rw[hot,af0];exact gR,hPh _ _⟩
 ·intro p i o z ho hz cf;have:ph o≠(p:Int):=by rw[VU];unfold Ex x7;rw[hz];exact cf
  simp only[GB ho this]
 ·intro p i o z ho hz he;have ql:ph o=(p:Int):=by rw[VU];unfold Ex x7;rw[hz];exact he
  have fG:=Q4 p (i+1) (dP ph l p i) o [] (w8 ho ql);have h1:=(bV p i).2;have h2:=hwd p i;have h3:=hwd p (i+1);rw[w8 ho ql] at h3;have:=cDo hI Gu hD hV NV (bV p i).1 h0 hr fG ajK;simp only[w8 ho ql,aiI,ah2,ajt];exact this
 ·have h1:=(bV 6 0).2;have h2:=hwd 6 0;exact QS _ _ _ ajK _ _ (af6 _) 0 acL VG
 ·exact hJ _ hkw
 exact hM _ hMw
end

structure jO (l l':List Op):Prop where
 k:∀k n,pj l' k n=pj l k n
 a:∀n az,gA az=true->bL l' n az=bL l n az
def GN {x:Tree} (h:x.iu=true):gA x.attrs=true:=by
 cases hT:x.text with
 |true=>rw[(Tree.rN h hT).2.1];rfl
 |false=>
 grind [Tree.tu,lr]
section
variable {l l':List Op} (h:jO l l')
include h
def jO.aB (k:Int) (n:Nat):aB l' k n=Am.aB l k n:=by unfold Am.aB;rw[h.k]
def jO.bZ (k:Int) (n:Nat):bZ l' k n=Am.bZ l k n:=by unfold Am.bZ;rw[h.k]
def jO.fX (n:Nat) (s:Bs):fX l' n s=Am.fX l n s:=by unfold Am.fX;rw[h.k]
def jO.fy (n:Nat) (s:Bs):fy l' n s=Am.fy l n s:=by unfold Am.fy;rw[h.k]
end
mutual
theorem jO.iH {l l':List Op} (h:jO l l'):∀(x:Tree) (off:Nat),x.iu=true->x.iH l' off=x.iH l off
 | .mk t s az ks,off,hf=>by
  have h1:=jO.turns h ks (off+1) λx hx=>rM (Tree.wG hf) x hx;have h2:=h.a off az (GN hf);simp only[Tree.iH,h.aB,h.bZ,h.fX,h.fy,h1,h2]
theorem jO.turns {l l':List Op} (h:jO l l'):∀(xs:List Tree) (off:Nat),(∀x∈xs,x.iu=true)->turns l' off xs=turns l off xs
 |[],_,_=>by simp[Am.turns]
 |x::r,off,hf=>by simp only[Am.turns,jO.iH h x off (hf x ajL),jO.turns h r (off+x.cC) λz hz=>hf z akI]
end
def jO.bG {l l':List Op} (h:jO l l') {x:Tree} (hf:x.iu=true) (off:Nat):x.bG l' off=x.bG l off:=by
 have h1:=jO.turns h x.kids (off+1) λz hz=>rM (Tree.wG hf) z hz;have h2:=h.a off x.attrs (GN hf);unfold Tree.bG;simp only[h.aB,h.bZ,h.fX,h.fy,h1,h2]
end Go.Am

set_option maxRecDepth 20000
namespace Go.Am
open Go Go.RowKit
def Ud (l:List Op):Prop:=l.length<=2^22/\∀o∈l,bH o.content<=2^22/\o.name.length<=2^22/\o.s.length<=2^22
def Q5 (P:Program) (G:Nat->Option (List IV)) (f:Nat):Prop:=∀(d:Doc) (l:List Op),mr d<=2^22->Ud l->aj P G f [Doc.av d,.list (l.map Op.iv)] (.bq [Doc.av (cq d l).1,.int .i64 (cq d l).2])
section
variable {P:Program} {G:Nat->Option (List IV)} [KN P G]
end

section
variable {P:Program} {G:Nat->Option (List IV)}
def dR (ft f_:Nat) (sz bz:Nat) (z:List AV):AC:=
(.seq (.nD [⟨some 6,none,.ea (.c .nil0)⟩]) (.gh (.sel) (.seq (.nD [⟨some 10,none,.ea (.t 0)⟩,⟨some 11,none,.ea (.t 1)⟩,⟨some 12,none,.Bd (.t 10) (some (.t 11)) none none sz⟩]) (.seq (.nD [⟨some 13,none,.ea (.t 2)⟩,⟨some 14,none,.len (.t 13)⟩,⟨some 7,none,.ea (.t 14)⟩]) (.seq (.seq (.nD [⟨some 15,none,.ea (.t 7)⟩,⟨some 16,none,.bin .eql (.t 15) (.c (.int .i64 0))⟩]) (.cond (.t 16) (.seq (.nD [⟨some 17,none,.ea (.t 0)⟩,⟨some 6,none,.ea (.t 17)⟩]) .ret) .skip)) (.seq (.nD [⟨some 18,none,.ea (.t 0)⟩,⟨some 19,none,.len (.t 18)⟩,⟨some 8,none,.ea (.t 19)⟩]) (.seq (.seq (.nD [⟨some 20,none,.ea (.t 1)⟩,⟨some 21,none,.ea (.t 8)⟩,⟨some 22,none,.bin .eql (.t 20) (.t 21)⟩]) (.cond (.t 22) (.seq (.nD [⟨some 23,none,.ea (.t 0)⟩,⟨some 24,none,.ea (.t 2)⟩,⟨some 25,none,.app (.t 23) (.t 24) sz bz⟩,⟨some 6,none,.ea (.t 25)⟩]) .ret) .skip)) (.seq (.seq (.nD [⟨some 26,none,.ea (.t 8)⟩,⟨some 27,none,.ea (.t 7)⟩,⟨some 28,none,.bin .add (.t 26) (.t 27)⟩,⟨some 29,none,.ea (.t 0)⟩,⟨some 30,none,.cap (.t 29)⟩,⟨some 31,none,.bin .gtr (.t 28) (.t 30)⟩]) (.cond (.t 31) (.seq (.nD [⟨some 32,none,.ea (.t 0)⟩,⟨some 33,none,.ea (.t 1)⟩,⟨some 34,none,.Bd (.t 32) none (some (.t 33)) none sz⟩,⟨some 35,none,.ea (.t 8)⟩,⟨some 36,none,.ea (.t 7)⟩,⟨some 37,none,.bin .add (.t 35) (.t 36)⟩,⟨some 38,none,.ea (.t 1)⟩,⟨some 39,none,.bin .sub (.t 37) (.t 38)⟩,⟨some 40,none,.Hu (.t 34) (.t 39) sz bz z⟩,⟨some 9,none,.ea (.t 40)⟩]) (.seq (.nD [⟨some 41,none,.ea (.t 9)⟩,⟨some 42,none,.ea (.t 1)⟩,⟨some 43,none,.Bd (.t 41) (some (.t 42)) none none sz⟩,⟨some 44,none,.ea (.t 2)⟩,⟨some 45,none,.Hi (.t 43) (.t 44) sz⟩]) (.seq (.nJ [⟨some 46,none,.ea (.t 9)⟩,⟨some 47,none,.ea (.t 1)⟩,⟨some 48,none,.ea (.t 7)⟩,⟨some 49,none,.bin .add (.t 47) (.t 48)⟩,⟨some 50,none,.Bd (.t 46) (some (.t 49)) none none sz⟩,⟨some 51,none,.ea (.t 0)⟩,⟨some 52,none,.ea (.t 1)⟩,⟨some 53,none,.Bd (.t 51) (some (.t 52)) none none sz⟩,⟨some 54,none,.Hi (.t 50) (.t 53) sz⟩] [[],[],[],[1,2],[0,3],[],[],[5,6],[4,7]] [.no,.no,.no,.no,.no,.no,.no,.no,(.rw [(.par 0)] [(.loc 40)])]) (.seq (.nD [⟨some 55,none,.ea (.t 9)⟩,⟨some 6,none,.ea (.t 55)⟩]) .ret)))) .skip)) (.seq (.nD [⟨some 56,none,.ea (.t 0)⟩,⟨some 57,none,.ea (.t 8)⟩,⟨some 58,none,.ea (.t 7)⟩,⟨some 59,none,.bin .add (.t 57) (.t 58)⟩,⟨some 60,none,.Bd (.t 56) none (some (.t 59)) none sz⟩,⟨some 0,none,.ea (.t 60)⟩]) (.seq (.seq (.nD [⟨some 61,none,.ea (.t 2)⟩,⟨some 62,none,.ea (.t 0)⟩,⟨some 63,none,.ea (.t 1)⟩,⟨some 64,none,.ea (.t 7)⟩,⟨some 65,none,.bin .add (.t 63) (.t 64)⟩,⟨some 66,none,.Bd (.t 62) (some (.t 65)) none none sz⟩,⟨some 67,none,.y6 ft [(.t 61),(.t 66)]⟩,⟨some 68,none,.not (.t 67)⟩]) (.cond (.t 68) (.seq (.nJ [⟨some 69,none,.ea (.t 0)⟩,⟨some 70,none,.ea (.t 1)⟩,⟨some 71,none,.ea (.t 7)⟩,⟨some 72,none,.bin .add (.t 70) (.t 71)⟩,⟨some 73,none,.Bd (.t 69) (some (.t 72)) none none sz⟩,⟨some 74,none,.ea (.t 0)⟩,⟨some 75,none,.ea (.t 1)⟩,⟨some 76,none,.Bd (.t 74) (some (.t 75)) none none sz⟩,⟨some 77,none,.Hi (.t 73) (.t 76) sz⟩] [[],[],[],[1,2],[0,3],[],[],[5,6],[4,7]] [.no,.no,.no,.no,.no,.no,.no,.no,(.rw [] [(.par 0)])]) (.seq (.nD [⟨some 78,none,.ea (.t 0)⟩,⟨some 79,none,.ea (.t 1)⟩,⟨some 80,none,.Bd (.t 78) (some (.t 79)) none none sz⟩,⟨some 81,none,.ea (.t 2)⟩,⟨some 82,none,.Hi (.t 80) (.t 81) sz⟩]) (.seq (.nD [⟨some 83,none,.ea (.t 0)⟩,⟨some 6,none,.ea (.t 83)⟩]) .ret))) .skip)) (.seq (.nD [⟨some 84,none,.ea (.t 0)⟩,⟨some 85,none,.ea (.t 8)⟩,⟨some 86,none,.Bd (.t 84) (some (.t 85)) none none sz⟩,⟨some 87,none,.ea (.t 2)⟩,⟨some 88,none,.Hi (.t 86) (.t 87) sz⟩]) (.seq (.nD [⟨some 89,none,.ea (.t 0)⟩,⟨some 90,none,.ea (.t 1)⟩,⟨some 91,none,.Bd (.t 89) (some (.t 90)) none none sz⟩,⟨some 92,none,.ea (.t 7)⟩,⟨some 93,none,.call f_ [(.t 91),(.t 92)]⟩]) (.seq (.nD [⟨some 94,none,.ea (.t 0)⟩,⟨some 6,none,.ea (.t 94)⟩]) .ret)))))))))))))
set_option maxRecDepth 10000 in
def GO {jY ft f_:Nat} {sz bz:Nat} {z:List AV} (s0:0<sz) (b0:0<bz) (b1:bz<=32) (hF:dK P G jY=some (95,[(none,6)],(dR ft f_ sz bz z).bare)) (xs vs:List IV) (i:Nat) (hi:i<=xs.length) (hb:xs.length+vs.length<=B)
  (ex:dV sz xs) (fx:Flat xs) (ev:dV sz vs) (fv:Flat vs)
  (hO:∀(N:Nat) (l:Lb) (sz j n c:Nat) (r:Row) (H:Hp),vs≠[]->H l= .live r->0<n->lT ⟨P,G,N⟩ ft [.list vs,.slk l sz j n c] H (.bool false)) :
  qj P G sz jY [.sl (.par 0) sz 0 xs.length,.int .i64 i,.list vs] xs (xs.take i++vs++xs.drop i):=by
 refine At hF ajL ajO ?_;have gV:B=1073741824:=rfl;have hm:∀m:Nat,m<=B->m*bz<=140737488355328:=λm h=>Nat.le_trans (Nat.mul_le_mul h b1) ajN;unfold dR;simp only[↓aX,mX,seval];rw[OK];refine⟨_,_,_,Ai (d:=0) (l:= .par 0) (n:=xs.length) (els:=ak xs) rfl (by simp[eP]),?_⟩;rintro⟨c,Lv,DD⟩;obtain⟨rest,mf⟩:∃rest,rest=List.replicate (c - (ak xs).length) (List.replicate sz AV.any):=⟨_,rfl⟩;have Si:rest.length=c - xs.length:=am8
 simp only[<-mf];have hz:∀(A D:List (List AV)),D=[]->A++D=A:=λA D h=>by rw[h,List.append_nil]
 have Sg:=bw xs;have LA:=bw vs;have gz:IntKind.i64.wrap ((xs.length:Int)+(vs.length:Int))=((xs.length+vs.length:Nat):Int):=wrap64 ajK ajK;have ml:IntKind.i64.wrap (((xs.length+vs.length:Nat):Int) - (i:Int))=((xs.length+vs.length - i:Nat):Int):=ajW
 have Cg:IntKind.i64.wrap ((i:Int)+(vs.length:Int))=((i+vs.length:Nat):Int):=wrap64 ajK ajK;simp only[↓aX,mX,seval,eP,nH,sG,iz,yI,hi,Option.isSome_none,Int.natCast_nonneg,Int.toNat_natCast,and_self,true_and,Nat.zero_le,Nat.sub_zero];by_cases ED:vs.length=0
 ·have XS:vs=[]:=List.length_eq_zero_iff.1 ED;rw[show(((vs.length:Nat):Int)==0)=true by simp[ED]];subst XS;simp only[↓aX,mX,seval,List.append_nil,List.take_append_drop,cJ];exact⟨.par 0,c,rest,.inr rfl,ajL⟩
 rw[show(((vs.length:Nat):Int)==0)=false by simpa using ED];simp only[↓aX,mX,seval];have WT:vs≠[]:=λe=>ED (by rw[e];rfl);by_cases qe:i=xs.length
 ·rw[show(((i:Nat):Int)==((xs.length:Nat):Int))=true by simp[qe]];simp only[↓aX,mX,seval];by_cases C7:xs.length+vs.length<=c
  ·rw[II (els:=ak xs++rest) ajL ajY ev fv b0 ajL C7 ajY];simp only[↓aX,mX,seval,cJ];refine⟨.par 0,c,(ak xs++rest).drop (xs.length+vs.length),.inr ?_,?_⟩
   ·simp[qe]
   simp only[ae,if_true,Slot.live.injEq,Row.mk.injEq,true_and];rw[qe,List.take_of_length_le (Nat.le_refl _),List.drop_of_length_le (Nat.le_refl _),List.append_nil,q6 (Nat.le_refl _),List.take_of_length_le (Nat.le_refl _),fR]
  rw[F4 (els:=ak xs++rest) ajL ajY ev fv b0 ajL ajK (hm _ ajK) (by simp[Hp.none,ae])];simp only[↓aX,mX,seval,cJ];subst qe;refine⟨.loc 25,0,[],ajL,?_⟩;simp only[ae,if_true,Slot.live.injEq,Row.mk.injEq,true_and];rw[List.take_of_length_le (Nat.le_refl _),List.drop_of_length_le (Nat.le_refl _),List.append_nil,q6 (Nat.le_refl _),List.take_of_length_le (Nat.le_refl _)];simp[ak]
 rw[show(((i:Nat):Int)==((xs.length:Nat):Int))=false by simp;omega];simp only[↓aX,mX,seval,gz,OZ];intro _;have Ie:ak (xs.take i)++ak vs++ak (xs.drop i)=ak (xs.take i++vs++xs.drop i):=by rw[fR,fR]
 have hlen:(xs.take i++vs++xs.drop i).length=xs.length+vs.length:=ajY
 rw[hlen];have hti:=bw (xs.take i);rw[List.length_take,Nat.min_eq_left hi] at hti;have hdi:=bw (xs.drop i);rw[List.length_drop] at hdi;by_cases C7:c<xs.length+vs.length
 ·rw[show decide (((xs.length+vs.length:Nat):Int)>(c:Int))=true by simp;omega];simp only[↓aX,mX,seval,nH,sG,iz,yI,hi,Option.isSome_none,Int.natCast_nonneg,Int.toNat_natCast,and_self,true_and,Nat.zero_le,Nat.sub_zero,gz,ml,show i<=c by omega];obtain⟨k,hk⟩:∃k,k=xs.length+vs.length - i:=⟨_,rfl⟩;rw[<-hk];have hik:i+k=xs.length+vs.length:=by omega
  rw[Qe (els:=ak xs++rest) ajL ajY ajK (hm _ ajK) (by simp[Hp.none,ae]),q6 hi,hik];simp only[↓aX,mX,seval,nH,nG,iz,yI,hi,Option.isSome_none,Int.natCast_nonneg,Int.toNat_natCast,and_self,true_and,Nat.zero_le,Nat.sub_zero,show i<=xs.length+vs.length by omega,Nat.zero_add,<-hk];rw[DL (news:=ak vs) (l:= .loc 40) (i:=i) (n:=k) (els:=ak (xs.take i)++List.replicate k z) (m:=vs.length) (jT ev) rfl ajL ajY alV (λcs aZ=>fv.one cs (List.mem_of_mem_take aZ))];rw[List.take_left' hti,List.take_of_length_le (Nat.le_of_eq LA)];simp only[↓aX,mX,seval,nH,nG,sG,iz,yI,hi,Option.isSome_none,Int.natCast_nonneg,Int.toNat_natCast,and_self,true_and,Nat.zero_le,Nat.sub_zero,show i+vs.length<=xs.length+vs.length by omega,Nat.zero_add,Cg];refine⟨rfl,?_⟩;rw[DL (news:=ak (xs.drop i)) (l:= .loc 40) (i:=i+vs.length) (n:=xs.length+vs.length - (i+vs.length)) (els:=ak (xs.take i)++ak vs++(ak (xs.take i)++List.replicate k z).drop (i+vs.length)) (m:=xs.length - i)]
  ·simp only[↓aX,mX,seval,cJ,ie,Lb.ix];refine⟨.loc 40,0,[],ajL,?_⟩;simp only[ae,if_true,Slot.live.injEq,Row.mk.injEq,true_and,List.append_nil];rw[<-Ie,List.take_left' ajY,List.take_of_length_le (Nat.le_of_eq hdi)];exact hz _ _ (List.drop_of_length_le ajY)
  ·simp only[kG,ae,reduceCtorEq,if_false,if_true,true_and];rw[if_pos ajY];congr 1;rw[Au ajK];congr 1;exact List.take_of_length_le ajL
  ·rfl
  ·simp
  ·simp;omega
  ·rw[hdi];exact(Nat.min_eq_left ajK).symm
  exactλcs aZ=>(Flat.one (λy hy=>fx y (List.mem_of_mem_drop hy)):∀cs∈ak (xs.drop i),AV.oF cs) cs (List.mem_of_mem_take aZ)
 rw[show decide (((xs.length+vs.length:Nat):Int)>(c:Int))=false by simp;omega];simp only[↓aX,mX,seval,nH,sG,iz,yI,hi,Option.isSome_none,Int.natCast_nonneg,Int.toNat_natCast,and_self,true_and,Nat.zero_le,Nat.sub_zero,gz,Cg,show xs.length+vs.length<=c by omega,show i+vs.length<=xs.length+vs.length by omega,Nat.zero_add];refine Dl (hO _ (.par 0) _ _ _ _ ⟨sz,ak xs++rest⟩ _ WT ajL ajK) ?_;simp only[↓aX,mX,seval,nH,sG,iz,yI,hi,Option.isSome_none,Int.natCast_nonneg,Int.toNat_natCast,and_self,true_and,Nat.zero_le,Nat.sub_zero,gz,Cg,show i<=xs.length+vs.length by omega,show i+vs.length<=xs.length+vs.length by omega,Nat.zero_add];refine⟨rfl,?_⟩;have hn:(((ak xs++rest).drop i).take (xs.length+vs.length - i)).take (xs.length - i)=ak (xs.drop i):=by rw[List.take_take,Nat.min_eq_left ajK,Au ajK,List.take_of_length_le ajL]
 have fd:∀cs∈ak (xs.drop i),AV.oF cs:=Flat.one λy hy=>fx y (List.mem_of_mem_drop hy);rw[DL (news:=((ak xs++rest).drop i).take (xs.length+vs.length - i)) (l:= .par 0) (i:=i+vs.length) (n:=xs.length+vs.length - (i+vs.length)) (els:=ak xs++rest) (m:=xs.length - i)
  (by simp only[kG,ae,if_true,true_and];rw[if_pos ajY]) rfl ajL ajY (by rw[List.length_take,List.length_drop,List.length_append,Sg,Si];show _=min _ _;omega) (by rw[hn];exact fd)]
 rw[hn];simp only[↓aX,mX,seval,ie,Lb.ix,nH,sG,iz,yI,Option.isSome_none,Int.natCast_nonneg,Int.toNat_natCast,and_self,true_and,Nat.zero_le,Nat.sub_zero,show i<=xs.length+vs.length by omega,Nat.zero_add];rw[DL (news:=ak vs) (l:= .par 0) (i:=i) (n:=xs.length+vs.length - i) (els:=(ak xs++rest).take (i+vs.length)++ak (xs.drop i)++(ak xs++rest).drop (i+vs.length+(xs.length - i))) (m:=vs.length)
  (jT ev) rfl ajL ajY alV (λcs aZ=>fv.one cs (List.mem_of_mem_take aZ))]
 simp only[↓aX,mX,seval,cJ,or_true,true_and];refine⟨.par 0,c,(ak xs++rest).drop (xs.length+vs.length),.inr rfl,?_⟩;simp only[ae,if_true,Slot.live.injEq,Row.mk.injEq,true_and];have h1:((ak xs++rest).take (i+vs.length)).length=i+vs.length:=by rw[List.length_take,List.length_append,Sg,Si];omega
 have e1:i+vs.length+(xs.length - i)=xs.length+vs.length:=ajK
 have e2:((ak xs++rest).take (i+vs.length)++ak (xs.drop i)++(ak xs++rest).drop (xs.length+vs.length)).take i=ak (xs.take i):=by
  rw[List.append_assoc,List.take_append_of_le_length ajK,List.take_take,Nat.min_eq_left ajK,q6 hi]
 have e3:((ak xs++rest).take (i+vs.length)++ak (xs.drop i)++(ak xs++rest).drop (xs.length+vs.length)).drop (i+vs.length)=ak (xs.drop i)++(ak xs++rest).drop (xs.length+vs.length):=by
  rw[List.append_assoc,List.drop_left' h1]
 rw[e1,e2,e3,<-Ie,List.take_of_length_le (Nat.le_of_eq LA)];simp only[List.append_assoc]
def dS (sz bz:Nat) (z:List AV):AC:=
(.seq (.nD [⟨some 6,none,.ea (.c .nil0)⟩]) (.gh (.sel) (.seq (.nD [⟨some 8,none,.ea (.t 0)⟩,⟨some 9,none,.ea (.t 1)⟩,⟨some 10,none,.ea (.t 2)⟩,⟨some 11,none,.ea (.t 0)⟩,⟨some 12,none,.len (.t 11)⟩,⟨some 13,none,.Bd (.t 8) (some (.t 9)) (some (.t 10)) (some (.t 12)) sz⟩]) (.seq (.seq (.nD [⟨some 14,none,.ea (.t 1)⟩,⟨some 15,none,.ea (.t 2)⟩,⟨some 16,none,.bin .eql (.t 14) (.t 15)⟩]) (.cond (.t 16) (.seq (.nD [⟨some 17,none,.ea (.t 0)⟩,⟨some 6,none,.ea (.t 17)⟩]) .ret) .skip)) (.seq (.nD [⟨some 18,none,.ea (.t 0)⟩,⟨some 19,none,.len (.t 18)⟩,⟨some 7,none,.ea (.t 19)⟩]) (.seq (.nJ [⟨some 20,none,.ea (.t 0)⟩,⟨some 21,none,.ea (.t 1)⟩,⟨some 22,none,.Bd (.t 20) none (some (.t 21)) none sz⟩,⟨some 23,none,.ea (.t 0)⟩,⟨some 24,none,.ea (.t 2)⟩,⟨some 25,none,.Bd (.t 23) (some (.t 24)) none none sz⟩,⟨some 26,none,.app (.t 22) (.t 25) sz bz⟩,⟨some 0,none,.ea (.t 26)⟩] [[],[],[0,1],[],[],[3,4],[2,5],[6,6,0,1,2,3,4,5,6]] [.no,.no,.no,.no,.no,.no,(.rw [] [(.par 0),(.loc 26)]),.no]) (.seq (.nD [⟨some 27,none,.ea (.t 0)⟩,⟨some 28,none,.ea (.t 0)⟩,⟨some 29,none,.len (.t 28)⟩,⟨some 30,none,.ea (.t 7)⟩,⟨some 31,none,.Bd (.t 27) (some (.t 29)) (some (.t 30)) none sz⟩,⟨none,none,.N3 (.t 31) sz z⟩]) (.seq (.nD [⟨some 32,none,.ea (.t 0)⟩,⟨some 6,none,.ea (.t 32)⟩]) .ret))))))))
set_option maxRecDepth 10000 in
def GP {jZ:Nat} {sz bz:Nat} {z:List AV} (s0:0<sz) (b0:0<bz) (b1:bz<=32) (z2:AV.oF z) (hF:dK P G jZ=some (33,[(none,6)],(dS sz bz z).bare)) (xs:List IV) (i j:Nat) (hi:i<j) (hj:j<=xs.length) (hb:xs.length<=B) (ex:dV sz xs) (fx:Flat xs) :
  qj P G sz jZ [.sl (.par 0) sz 0 xs.length,.int .i64 i,.int .i64 j] xs (xs.take i++xs.drop j):=by
 refine At hF ajL ajO ?_;have gV:B=1073741824:=rfl;have hm:∀m:Nat,m<=B->m*bz<=140737488355328:=λm h=>Nat.le_trans (Nat.mul_le_mul h b1) ajN;unfold dS;simp only[↓aX,mX,seval];rw[OK];refine⟨_,_,_,Ai (d:=0) (l:= .par 0) (n:=xs.length) (els:=ak xs) rfl (by simp[eP]),?_⟩;rintro⟨c,Lv,DD⟩;obtain⟨rest,mf⟩:∃rest,rest=List.replicate (c - (ak xs).length) (List.replicate sz AV.any):=⟨_,rfl⟩;have Si:rest.length=c - xs.length:=am8
 simp only[<-mf];have Sg:=bw xs;simp only[↓aX,mX,seval,eP,nH,sG,iz,yI,Option.isSome_none,Option.isSome_some,Option.isNone_some,Int.natCast_nonneg,Int.toNat_natCast,and_self,true_and,Nat.zero_le,Nat.sub_zero,hj,Lv,Nat.le_of_lt hi,if_true,show(((i:Nat):Int)==((j:Nat):Int))=false by simp;omega];refine⟨rfl,?_⟩;simp only[↓aX,mX,seval,eP,nH,sG,iz,yI,Option.isSome_none,Int.natCast_nonneg,Int.toNat_natCast,and_self,true_and,Nat.zero_le,Nat.sub_zero,hj,show i<=c by omega,if_true,Nat.zero_add];have fd:∀cs∈ak (xs.drop j),AV.oF cs:=Flat.one λy hy=>fx y (List.mem_of_mem_drop hy);have hdj:=bw (xs.drop j);rw[List.length_drop] at hdj;have hti:=bw (xs.take i);rw[List.length_take,Nat.min_eq_left ajK] at hti;rw[F3 (news:=ak (xs.drop j)) (els:=ak xs++rest)
  (by simp only[kG,ae,if_true,true_and];rw[if_pos ajY,Au ajK,List.take_of_length_le ajL]) fd ajL ajY b0 ajL ajK ajY]
 rw[hdj,q6 ajK];have hw:xs.length - j+i<=xs.length:=ajK
 simp only[↓aX,mX,seval,BC,ie,Lb.ix,Lb.app,Lb.fresh,nH,sG,iz,yI,Option.isSome_none,Int.natCast_nonneg,Int.toNat_natCast,and_self,true_and,Nat.zero_le,Nat.sub_zero,Lv,if_true,Nat.zero_add,or_true,true_or,show i+(xs.length - j)<=xs.length by omega];rw[Yy (l:= .par 0) (i:=i+(xs.length - j)) (n:=xs.length - (i+(xs.length - j))) (els:=ak (xs.take i)++ak (xs.drop j)++(ak xs++rest).drop (i+(xs.length - j))) z2 rfl ajL ajY];simp only[↓aX,mX,seval,cJ,or_true,true_and];refine⟨by rintro l (rfl|rfl)<;>simp,.par 0,c,List.replicate (xs.length - (i+(xs.length - j))) z++(ak (xs.take i)++ak (xs.drop j)++(ak xs++rest).drop (i+(xs.length - j))).drop (i+(xs.length - j)+(xs.length - (i+(xs.length - j)))),.inr (by rw[List.length_append,List.length_take,List.length_drop,Nat.min_eq_left ajK]),?_⟩;simp only[ae,if_true,Slot.live.injEq,Row.mk.injEq,true_and];rw[List.append_assoc,List.take_left' (by rw[List.length_append];omega),fR]
def j0 (fo fr:Nat):AC:=dR fo fr 1 8 [.int .i64 0]
def Q6 {f fo fr:Nat} (hF:dK P G f=some (95,[(none,6)],(j0 fo fr).bare)) (xs vs:List IV) (i:Nat) (hi:i<=xs.length) (hb:xs.length+vs.length<=B)
  (ex:dV 1 xs) (fx:Flat xs) (ev:dV 1 vs) (fv:Flat vs)
  (hO:∀(N:Nat) (l:Lb) (sz j n c:Nat) (r:Row) (H:Hp),vs≠[]->H l= .live r->0<n->lT ⟨P,G,N⟩ fo [.list vs,.slk l sz j n c] H (.bool false)) :
  qj P G 1 f [.sl (.par 0) 1 0 xs.length,.int .i64 i,.list vs] xs (xs.take i++vs++xs.drop i):=
 GO ajN ajN ajN hF xs vs i hi hb ex fx ev fv hO
def j4:AC:=dS 1 8 [.int .i64 0]
def Q7 {f:Nat} (hF:dK P G f=some (33,[(none,6)],j4.bare)) (xs:List IV) (i j:Nat) (hi:i<j) (hj:j<=xs.length) (hb:xs.length<=B) (ex:dV 1 xs) (fx:Flat xs) :
  qj P G 1 f [.sl (.par 0) 1 0 xs.length,.int .i64 i,.int .i64 j] xs (xs.take i++xs.drop j):=
 GP ajN ajN ajN alF hF xs i j hi hj hb ex fx
def ja (fo fr:Nat):AC:=dR fo fr 2 32 [.str [],.str []]
def Q8 {f fo fr:Nat} (hF:dK P G f=some (95,[(none,6)],(ja fo fr).bare)) (xs vs:List IV) (i:Nat) (hi:i<=xs.length) (hb:xs.length+vs.length<=B)
  (ex:dV 2 xs) (fx:Flat xs) (ev:dV 2 vs) (fv:Flat vs)
  (hO:∀(N:Nat) (l:Lb) (sz j n c:Nat) (r:Row) (H:Hp),vs≠[]->H l= .live r->0<n->lT ⟨P,G,N⟩ fo [.list vs,.slk l sz j n c] H (.bool false)) :
  qj P G 2 f [.sl (.par 0) 2 0 xs.length,.int .i64 i,.list vs] xs (xs.take i++vs++xs.drop i):=
 GO ajN ajN ajN hF xs vs i hi hb ex fx ev fv hO
def jb:AC:=dS 2 32 [.str [],.str []]
def Q9 {f:Nat} (hF:dK P G f=some (33,[(none,6)],jb.bare)) (xs:List IV) (i j:Nat) (hi:i<j) (hj:j<=xs.length) (hb:xs.length<=B) (ex:dV 2 xs) (fx:Flat xs) :
  qj P G 2 f [.sl (.par 0) 2 0 xs.length,.int .i64 i,.int .i64 j] xs (xs.take i++xs.drop j):=
 GP ajN ajN ajN alF hF xs i j hi hj hb ex fx
end

section
variable {P:Program} {G:Nat->Option (List IV)} [KN P G]
def acM (hO:∀(N:Nat) (vs:List IV) (l:Lb) (sz j n c:Nat) (r:Row) (H:Hp),vs≠[]->H l= .live r->0<n->lT ⟨P,G,N⟩ 206 [.list vs,.slk l sz j n c] H (.bool false)):YL P G 186:=by
 intro xs vs i hi hb;have h:=Q6 (P:=P) (G:=G) (rdL 186 95 [(none,6)] (j0 206 207)) (xs.map aC) (vs.map aC) i alx al7 (mi _) (mj _) (mi _) (mj _) (λN l sz j n c r H h1 h2 h3=>hO N _ l sz j n c r H h1 h2 h3);rw[eD] at h;simpa only[ag2,ahH,aiK] using h
def acN:QA P G 158:=by
 intro xs i hi hb;have h:=Q7 (P:=P) (G:=G) (rdL 158 33 [(none,6)] j4) (xs.map aC) i (i+1) ajK (by rw[eD];omega) al7 (mi _) (mj _);rw[eD] at h;simpa only[ag2,ahH,aiK] using h
def acO (hO:∀(N:Nat) (vs:List IV) (l:Lb) (sz j n c:Nat) (r:Row) (H:Hp),vs≠[]->H l= .live r->0<n->lT ⟨P,G,N⟩ 208 [.list vs,.slk l sz j n c] H (.bool false)):acs P G 191:=by
 intro xs vs i hi hb;have h:=Q8 (P:=P) (G:=G) (rdL 191 95 [(none,6)] (ja 208 209)) (aQ xs) (aQ vs) i (by rw[aE];exact hi) (by rw[aE,aE];exact hb) (kx _) (gn _) (kx _) (gn _) (λN l sz j n c r H h1 h2 h3=>hO N _ l sz j n c r H h1 h2 h3);rw[aE] at h;simpa only[aQ,ag2,ahH,aiK] using h
def acP:acu P G 190:=by
 intro xs i hi hb;have h:=Q9 (P:=P) (G:=G) (rdL 190 33 [(none,6)] jb) (aQ xs) i (i+1) ajK (by rw[aE];exact hi) (by rw[aE];exact hb) (kx _) (gn _);rw[aE] at h;simpa only[aQ,ag2,ahH,aiK] using h
structure ChF (P:Program) (G:Nat->Option (List IV)) where
 oI:∀(N:Nat) (vs:List IV) (l:Lb) (sz j n c:Nat) (r:Row) (H:Hp),vs≠[]->H l= .live r->0<n->lT ⟨P,G,N⟩ 206 [.list vs,.slk l sz j n c] H (.bool false)
 oA:∀(N:Nat) (vs:List IV) (l:Lb) (sz j n c:Nat) (r:Row) (H:Hp),vs≠[]->H l= .live r->0<n->lT ⟨P,G,N⟩ 208 [.list vs,.slk l sz j n c] H (.bool false)
 acQ:∀(N:Nat) (s t:Bs) (H:Hp),lT ⟨P,G,N⟩ 205 [.str s,.str t] H (.int .i64 (Lib.compareBytes s t))
 Q_:dE P 189=true
 K9:dE P 154=true
 Cv:∀d:Doc,mr d<=B->aj P G 72 [Doc.av d] (.bool (bQ d))
 vv:∀l:List Tree,bH l<=B->aj P G 57 [.list (aM l)] (.bool (content l))
 K':∀l:List Tree,bH l<=B->aj P G 116 [.list (aM l)] (.list (aM (cP l)))
 Cw:∀x:Tree,x.wt<=B->aj P G 30 [x.av] (.bq [Doc.av (c_ x).1,.int .i64 (c_ x).2])
namespace ChF
variable (c:ChF P G)
include c
def acR (d:Doc) (hd:mr d<=B) (o:Op) (ho:bH o.content<=B/\o.name.length<=B/\o.s.length<=B):aj P G 152 [Doc.av d,o.av] (.int .i64 (db d o)):=
 GC d o (c.Cv d hd) λx k1 Hr=>YW x o k1 Hr (c.vv _ ho.1) (wC _ ho.2.1) (wB _ ho.2.2)
def Y4 (d:Doc) (hd:mr d<=B) (l:List Op) (hl:l.length<=B) (ho:∀o∈l,bH o.content<=B/\o.name.length<=B/\o.s.length<=B):aj P G 112 [Doc.av d,.list (l.map Op.iv)] (.int .i64 (dn d l)):=
 YX d l hl (c.Cv d hd) (λo h=>c.acR d hd o (ho o h)) λa i _=>
  IW _ _ (GF _ ali _ c.K9 λb _=>T7 a b (QC a b))
def aeQ (s t:Bs):aj P G 150 [.str s,.str t] (.int .i64 (Lib.compareBytes s t)):=Gg s t (Ay c.acQ s t)
def acS:YL P G 186:=acM c.oI
def VW:BN P G 156:=λb hn p pl hp x hx HD l hb Mc=>
 T1 b hn p pl hp x hx HD l hb Mc (λt b hn p hb=>acq (λxs h=>Ka xs h) _ t (af6 _) b hn p hb) c.acS
theorem Ue:pO P G 157:=λb n p x y hx hp hy qT hB=>YJ b n p x y hx hp hy qT (ME _ _ hB)
def Uf:DX P G 159:=λb hn n hp x hx s hb=>YO b hn n hp x hx s hb c.VW
def Y5:Gs P G 160:=λb n hp x hx o ht hk hb hr=>
 acv b n hp x hx o ht hk hb (IN _ _ ajK hr c.Q_ λa _=>acn a _ (c.aeQ _ _)) (acO c.oA) (acP)
def Y6:Q5 P G 71:=by
 intro d l hd hl;have gV:B=1073741824:=rfl;have h22:(2:Nat)^22=4194304:=ajN
 obtain⟨h1,h2⟩:=hl;exact Y3 (TN) (TO) (YN) c.VW c.Ue (acN) c.Uf c.Y5 c.K' c.Cw d l ajK
  (c.Y4 d ajK l ajK λo ho=>by have:=h2 o ho;omega)
end ChF
end
end Go.Am
