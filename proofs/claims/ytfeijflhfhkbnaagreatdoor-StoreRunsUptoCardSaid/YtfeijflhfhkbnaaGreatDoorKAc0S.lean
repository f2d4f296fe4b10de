import Derived.Test.YtfeijflhfhkbnaaGreatDoorKAm20S
import Derived.Test.YtfeijflhfhkbnaaGreatDoorProg
import Derived.KernelRfl
import Derived.WalkKit
import Derived.ProofKit
import Derived.OpenShut
import Derived.Carry
import Derived.JoinedCond
set_option linter.all false
/- Code out of the program, az it is walked: where ghosts are laid in, where it is cut. -/
namespace Go.Am
open Go Go.RowKit
def O0:List (List UInt8):=[[],[102,105,114,115,116],[108,97,115,116],[98,101,102,111,114,101],[97,102,116,101,114],[100,101,108,101,116,101],[114,101,112,108,97,99,101],[118,97,108,117,101],[114,101,110,97,109,101],[115,101,116],[100,114,111,112]]
def Xu:List (List UInt8):=[[38,108,116,59],[38,103,116,59],[38,97,109,112,59],[38,113,117,111,116,59]]
def gD (g:Nat):Option (List IV):=if g=0 then some (O0.map IV.str) else if g=1 then some (Xu.map IV.str) else none
def gX (a b c d:Option (List IV)) (g:Nat):Option (List IV):=if g=2 then a else if g=3 then b else if g=4 then c else if g=5 then d else gD g
def AC.has (k:Nat):AC->Bool
 | .nD l| .nJ l _ _=>l.any λi=>i.d==some k
 |_=>false
def AC.lm:AC->AC
 | .seq a _=>a.lm
 |x=>x
def AC.Xv:AC->AC
 | .seq a b=> .seq a.Xv b.Xv
 | .cond x a b=> .cond x a.Xv b.Xv
 | .block i c=> .block i c.Xv
 | .loop c=> .loop c.Xv
 | .nJ l e _=> .nJ l e (l.map λ_=> .no)
 |x=>x
def AC.fst (p:AC->Bool) (g:AC->AC) (x:AC):AC×Bool:=if p x then(g x,true) else match x with
 | .seq a b=>match a.fst p g with
  |(a,true)=>(.seq a b,true)
  |_=>match b.fst p g with
   |(b,t)=>(.seq a b,t)
 | .cond y a b=>match a.fst p g with
  |(a,true)=>(.cond y a b,true)
  |_=>match b.fst p g with
   |(b,t)=>(.cond y a b,t)
 | .block i c=>match c.fst p g with
  |(c,t)=>(.block i c,t)
 | .loop c=>match c.fst p g with
  |(c,t)=>(.loop c,t)
 | .gh h c=>match c.fst p g with
  |(c,t)=>(.gh h c,t)
 |x=>(x,false)
def AC.Vq (g:Gh):AC->AC×Bool
 | .ret=>(.gh g .ret,true)
 | .seq a b=>match b.Vq g with
  |(b,true)=>(.seq a b,true)
  |_=>match a.Vq g with
   |(a,t)=>(.seq a b,t)
 | .cond y a b=>match b.Vq g with
  |(b,true)=>(.cond y a b,true)
  |_=>match a.Vq g with
   |(a,t)=>(.cond y a b,t)
 | .block i c=>match c.Vq g with
  |(c,t)=>(.block i c,t)
 | .loop c=>match c.Vq g with
  |(c,t)=>(.loop c,t)
 | .gh h c=>match c.Vq g with
  |(c,t)=>(.gh h c,t)
 |x=>(x,false)
def AC.dH (k:Nat) (x:AC):Bool:=x.lm.has k
inductive Ed where
 |a (k:Nat) (g:Gh)
 |b (k:Nat) (g:Gh)
 |r (g:Gh)
 |s (g:Gh)
 |f (k j:Nat) (e:Fp)
 |p (k:Nat)
 |l (k:Nat)
 |d (k:Nat)
 |t (k:Nat) (c:AC)
 |u (k:Nat) (c:AC)
def atD (k:Nat) (h:bd->bd) (e:Fp) (x:AC):AC:=
 let m (l:List bd):=l.map λi=>if i.d==some k then h i else i
 match x with
 | .nD l=> .nD (m l)
 | .nJ l es fs=> .nJ (m l) es ((l.zip fs).map λq=>if q.1.d==some k then e else q.2)
 |x=>x
def AC.isB (k:Nat) (x:AC):Bool:=match x.lm with
 | .block i _=>i==k
 |_=>false
def ed1 (x:AC):Ed->AC
 | .a k g=>(x.fst (fun| .seq a _=>a.has k|_=>false) (fun| .seq a b=> .seq a (.gh g b)|x=>x)).1
 | .b k g=>(x.fst (fun| .seq a _=>a.has k|x=>x.has k) (.gh g)).1
 | .r g=>(x.Vq g).1
 | .s g=>(x.fst (fun| .ret=>true|_=>false) (.gh g)).1
 | .f k j e=>(x.fst (fun| .nJ l _ _=>l.any λi=>i.d==some k|_=>false) (fun| .nJ l es fs=> .nJ l es (fs.set j e)|x=>x)).1
 | .p k=>(x.fst (·.has k) (atD k (λi=>{ i with i:=match i.i with
  | .app s x a b=> .Ht s x a b
  |i=>i}) .no)).1
 | .l k=>(x.fst (·.has k) (atD k (λi=>{ i with i:=match i.i with
  | .lits _ s z ps=> .oz s z ps
  |i=>i}) (.rw [] [.loc k]))).1
 | .d k=>(x.fst (fun| .nJ l _ _=>l.any λi=>i.d==some k|_=>false) (.gh .drw)).1
 | .t k c=>(x.fst (λx=>x.lm.has k) λ_=>c).1
 | .u k c=>(x.fst (λx=>match x with| .seq ..=>x.isB k|_=>false) λ_=>c).1
def rdO (l:List Ed):Option (Nat×List RO×AC)->Nat×List RO×AC
 |some (n,r,x)=>(n,r,l.foldl ed1 x.Xv)
 |none=>(0,[],.skip)
def Kn (P:Program) (G:Nat->Option (List IV)):Prop:=P=Go.Proofs.Tryz.prog/\∀g,g<2\/5<g->G g=gD g
abbrev KN (P:Program) (G:Nat->Option (List IV)):Prop:=Nonempty (Kn P G)
section
variable {P:Program} {G:Nat->Option (List IV)} {n nt:Nat} {rs:List RO} {ac:AC}
def rdX (k:dK P G n=dK Go.Proofs.Tryz.prog gD n) (l:List Ed) (e:rdO l (dK Go.Proofs.Tryz.prog gD n)=(nt,rs,ac):=by set_option maxRecDepth 100000 in conv=>lhs;cbv)
 (h:dK Go.Proofs.Tryz.prog gD n=some (nt,rs,ac.bare):=by kernel_rfl):dK P G n=some (nt,rs,ac.bare):=k.trans h
variable [KN P G]
def rdL (n:Nat) (nt:Nat) (rs:List RO) (ac:AC) (h:∀a b c d,dK Go.Proofs.Tryz.prog (gX a b c d) n=some (nt,rs,ac.bare):=by intros;kernel_rfl):dK P G n=some (nt,rs,ac.bare):=by
 obtain⟨rfl,k⟩:=‹KN P G›;rw[show G=gX (G 2) (G 3) (G 4) (G 5) from funext λg=>by
  unfold gX
  repeat' split
  ·subst g;rfl
  ·subst g;rfl
  ·subst g;rfl
  ·subst g;rfl
  exact k g ajK]
 exact h _ _ _ _
def cw (n:Nat) (l:List Ed) (e:rdO l (dK Go.Proofs.Tryz.prog gD n)=(nt,rs,ac):=by set_option maxRecDepth 100000 in conv=>lhs;cbv)
 (h:∀a b c d,dK Go.Proofs.Tryz.prog (gX a b c d) n=some (nt,rs,ac.bare):=by intros;kernel_rfl):dK P G n=some (nt,rs,ac.bare):=rdL n nt rs ac h
end
def dq1 {p:Prop} (h:p:=by
 rw[show(c==38)=false by simp[Et]];simp only[↓aX,mX,seval,c62];cases Eu:(c==62) with
 |true=>
  simp only[↓aX,mX,seval,j8];have hn:bb v (c::q)=none:=by rw[bb,af8 Bc,af8 Et,agc (.inl amO)]
  refine Xw _ _ hn ?_ ?_ ?_ ?_ ?_ ?_
  ·rfl
  ·rfl
  ·rfl
  ·simp[ae]
  ·simp[ae,BD]
  intro n hn;simp[ae,Bi n hn,hn]
 |false=>
 simp only[↓aX,mX,seval,af1];rw[show((c.toNat:Int) !=10)= !((c.toNat:Int)==10) from rfl];cases JI:((c.toNat:Int)==10) with
 |true=>
  have Sb:lW c=true:=by rw[rF,JI];rfl
  simp only[↓aX,mX,seval,af4];have hn:bb v (c::q)=(bb v q).map λx=>(c::x.1,x.2):=akE
  rw[oP (xs:=bo t) BD (bu t).symm anc aj3 (hU 28 ajN)];simp only[↓aX,mX,seval,Lb.app,Lb.fresh,j8,iz,af5,show(0:Int)<=1 by decide,show(1:Int).toNat=1 from rfl,agt,agd,show 1<=q.length+1 by omega,agn,af_,af9,ajC,agu,ag_,agj,af6,ahA];refine next c q 28 _ hn ajL ?_ ?_ ?_ _ ?_ ?_ ?_
  ·rfl
  ·rfl
  ·rfl
  ·simp[ae]
  ·simp[ae]
  intro n hn;simp[ae,Bi n hn,hn]
 |false=>
 simp only[↓aX,mX,seval,af1];cases xG:decide ((c.toNat:Int)<32) with
 |true=>
  have Sb:lW c=false:=by rw[rF,JI,xG];rfl
  simp only[↓aX,mX,seval,af4,j8];have hn:bb v (c::q)=none:=amA
  refine Xw _ _ hn ?_ ?_ ?_ ?_ ?_ ?_
  ·rfl
  ·rfl
  ·rfl
  ·simp[ae]
  ·simp[ae,BD]
  intro n hn;simp[ae,Bi n hn,hn]
 |false=>
 simp only[↓aX,mX,seval,af1];cases aa3:decide ((c.toNat:Int)>126) with
 |true=>
  have Sb:lW c=false:=by rw[rF,JI,xG,aa3];rfl
  simp only[↓aX,mX,seval,j8];have hn:bb v (c::q)=none:=amA
  refine Xw _ _ hn ?_ ?_ ?_ ?_ ?_ ?_
  ·rfl
  ·rfl
  ·rfl
  ·simp[ae]
  ·simp[ae,BD]
  intro n hn;simp[ae,Bi n hn,hn]
 |false=>
 have Sb:lW c=true:=by rw[rF,JI,xG,aa3];rfl
 simp only[↓aX,mX,seval];have hn:bb v (c::q)=(bb v q).map λx=>(c::x.1,x.2):=akE
 rw[oP (xs:=bo t) BD (bu t).symm anc aj3 (hU 28 ajN)];simp only[↓aX,mX,seval,Lb.app,Lb.fresh,j8,iz,af5,show(0:Int)<=1 by decide,show(1:Int).toNat=1 from rfl,agt,agd,show 1<=q.length+1 by omega,agn,af_,af9,ajC,agu,ag_,agj,af6,ahA];refine next c q 28 _ hn ajL ?_ ?_ ?_ _ ?_ ?_ ?_
 ·rfl
 ·rfl
 ·rfl
 ·simp[ae]
 ·simp[ae]
 intro n hn;simp[ae,Bi n hn,hn]):p:=h
def dq2 {p:Prop} (h:p:=by
 rintro⟨⟨i,j⟩,hi,NR,hj⟩;simp only at hi NR hj;simp only[↓aX,mX,seval,aR,aI];by_cases aF:i<j
 ·rw[dT aF];obtain⟨h,hh⟩:∃h,h=(i+j)/2:=⟨_,rfl⟩;have J7:=Dm (x:=i) (y:=j) ajK;rw[<-hh] at J7;obtain⟨g,hg⟩:∃g,g=yq+m - 1 - h:=⟨_,rfl⟩;have hwg:IntKind.i64.wrap (((yq+m - 1:Nat):Int) - (h:Int))=((g:Nat):Int):=by rw[wrap64 ajK ajK];omega
  obtain⟨x,hx⟩:∃x,l[g]?=some x:=⟨_,af7 ajK⟩;obtain⟨y,hy⟩:∃y,l[h]?=some y:=⟨_,af7 ajK⟩;have Sc:=w1 h;simp only[↓aX,mX,seval];refine⟨aj7,?_⟩;simp only[↓aX,mX,seval,J7,hwg,af5,af0,agh,lY hx,lY hy,show g<l.length by omega,show h<l.length by omega,uU,Dn];refine⟨hBd,dG (hC' x y) ?_⟩;simp only[↓aX,mX,seval];cases sH:decide (BE x y<0) with
  |true=>
   simp only[↓aX,mX,seval,af4,J7,Sc];exact⟨⟨(i,h),ajM,ajM,ajM⟩,ajM,by
    exact lZ (λz e=>by simp[ae,e,Hp.none]) ajT ajT⟩
  |false=>
  simp only[↓aX,mX,seval,af1,J7,Sc];exact⟨⟨(h+1,j),ajM,ajM,ajM⟩,ajM,by
   exact lZ (λz e=>by simp[ae,e,Hp.none]) ajT ajT⟩
 rw[dF aF];obtain⟨e,he⟩:∃e,e=yq+m - i:=⟨_,rfl⟩;have hwe:IntKind.i64.wrap (((yq+m:Nat):Int) - (i:Int))=((e:Nat):Int):=ajW
 simp only[↓aX,mX,seval,hwe];refine O1 rfl (.inl ⟨rfl,rfl,rfl,rfl⟩) (.refl l) rfl rfl rfl rfl rfl ajR (λq1 q2=>hR l hl i m e q1 q2 ajK) λz1 qo E1 H1 e1 r1=> ?_;have l1:=qo.length_eq;simp only[↓aX,mX,seval];refine O1 rfl (.inr (.inl ⟨rfl,rfl,rfl,rfl⟩)) qo (e1 0 ajN) (e1 4 ajN) (e1 1 ajN) (e1 20 ajN) (e1 18 ajN) r1 (λq1 q2=>l1▸ih z1 ajK a i yq q1 q2 ajK ajK) λz2 Dd E2 H2 e2 r2=> ?_;have l2:=Dd.length_eq;refine O1 rfl (.inr (.inr ⟨rfl,rfl,rfl,rfl⟩)) Dd ((e2 0 ajN).trans (e1 0 ajN)) ((e2 4 ajN).trans (e1 4 ajN)) ((e2 18 ajN).trans (e1 18 ajN)) ((e2 24 ajN).trans (e1 24 ajN)) ((e2 3 ajN).trans (e1 3 ajN)) r2 (λq1 q2=>l2▸ih z2 ajK yq e b q1 q2 ajK ajK) λz3 hz3 E3 H3 e3 r3=> ?_;simp only[↓aX,mX,seval,fF,eY,fw];exact⟨_,rfl,aQ z3,⟨z3,rfl,hz3⟩,ajU,((aE _).trans hz3.length_eq).trans (aE l).symm,r3⟩):p:=h
def ow {p:Prop} (h:p:=by
 intro l hf hu;exfalso;apply hu;cases l<;>simp_all[Lb.fresh,ae,Hp.none]):p:=h
def dq4 {p:Prop} (h:p:=by
 rw[show(c==38)=true by simp[Et]];simp only[↓aX,mX,seval];rw[agc ⟨rfl,ajN,by intro y hy;simp only[aga,agf,agI] at hy;rcases hy with rfl|rfl|rfl|rfl<;>rfl⟩];simp only[↓aX,mX,seval];refine ba (l:= .par 0) (hI (c::q) false) (by simp[aA,aH,iP,px,Bj,Bl,nL,jU]) an4 ?_;intro x1 fB hx _ _ _;have hK:=Xx (c::q);cases hk:wx (c::q) px 0 with
 |none=>
  rw[hk] at hx hK;simp only at hx hK;obtain⟨rfl,rfl⟩:=hx;have hn:bb v (c::q)=none:=by
   rw[bb,af8 Bc,agc Et];split
   ·rename_i e1 q1 h;rw[hK] at h;cases h
   rfl
  simp only[↓aX,mX,seval,show((-1:Int)<0)=True by simp,ag3,cJ];refine⟨dz (c::q) true,⟨[],c::q,true,rfl,rfl,by simp at hlen ⊢;omega,λ_=>rfl,λhb=> ?_⟩,rfl,ajO,rfl,ajR⟩;rw[sI,hn];rfl
 |some y=>
 obtain⟨i,r'⟩:=y;rw[hk] at hx hK;simp only at hx hK;obtain⟨rfl,rfl⟩:=hx;obtain⟨e,he,BF⟩:=hK;have hn:bb v (c::q)=(bb v r').map λx=>(e::x.1,x.2):=by
  rw[bb,af8 Bc,agc Et];split
  ·rename_i e1 q1 h;rw[BF] at h;cases h;rfl
  rename_i h;rw[BF] at h;cases h
 have aF:=nU BF;simp only[↓aX,mX,seval,show decide (((i:Nat):Int)<0)=false by simp,af5,af0,he];rw[oP (xs:=bo t) (by simp[ae,BD]) (bu t).symm anc aj3 (by simp[Lb.app,Lb.fresh,ae,hU 65 ajN])];simp only[↓aX,mX,seval,Lb.app,Lb.fresh];refine next e r' 65 _ hn aF ?_ ?_ ?_ _ ?_ ?_ ?_
 ·rfl
 ·rfl
 ·rfl
 ·simp[ae]
 ·simp[ae]
 intro n hn;simp[ae,Bi n hn,hn]):p:=h
def dq5 {p:Prop} (h:p:=by
 intro l hl;simp only[aga,agf,agI] at hl;rcases hl with rfl|rfl|rfl
 ·exact⟨λ_=>rfl,λ_=>rfl⟩
 ·exact⟨λ_=>rfl,λ_=>rfl⟩
 exact⟨λ_=>rfl,λh=>by simp[Lb.fresh] at h⟩):p:=h
def O2 {p:Prop} (h:p:=by
 exact kK ajP (kK ajP (kK ajP (kK ajP (Dh _))))):p:=h
def dq7 {p:Prop} (h:p:=by
 rw[dT aF];obtain⟨o,ho⟩:=gE aF;have hw:=w1 i;have ig:l.take (i+1)=l.take i++[o]:=cn ho;simp only[↓aX,mX,seval,zo,ho,af9,xH,Op.ax,Op.cs];refine ah (hO o (af3 ho)) ?_;simp only[↓aX,mX,seval];cases h0:(db d o !=0) with
 |true=>
  simp only[↓aX,mX,seval,h0];have hf:l.find? (λo=>db d o !=0)=some o:=by
   rw[List.find?_eq_some_iff_append];refine⟨h0,l.take i,l.drop (i+1),?_,λa ha=>by simp[hs a ha]⟩;rw[<-drop_eq ho,agD]
  rw[hf]
 |false=>
 simp only[↓aX,mX,seval,h0,hw];refine⟨⟨i+1,aF,λa ha=> ?_⟩,ajM,[],?_⟩
 ·rw[ig,agi] at ha;rcases ha with ha|ha
  ·exact hs a ha
  simp only[af'] at ha;subst ha;simpa using h0
 refine⟨?_,?_,?_,ajS,λl _=>⟨id,λ_=>rfl⟩⟩
 ·intro l' hf hu;exfalso;apply hu;cases l'<;>simp_all[Lb.fresh,ae,Hp.none]
 ·simp[dp,aD,aH,put,iX]
 simp[eL,aD,ae,aP,aA,aH]):p:=h
def BG {p:Prop} (h:p:=by
 intro l' hf hu;refine absurd ?_ hu;simp[O3,hf,Lb.fresh,Hp.none]):p:=h
def qi {p:Prop} (h:p:=by
 exact⟨aj4,ajT⟩):p:=h
def Xy {p:Prop} (h:p:=by
 by_cases h5:99<x.n
 ·simp only[↓aX,mX,seval,h4,ag4,aiF,h5,ag3,stop (by rw[ht,ahV (show ¬x.n<=99 by omega),aht];rfl)]
 simp only[↓aX,mX,seval,h4,ag4,aiF,h5,hw];exact⟨⟨i+1,aF,next (by rw[ht,ahQ (show 0<=x.n by omega),ahQ (show x.n<=99 by omega)];rfl)⟩,ajM,rfl⟩):p:=h
def O4 {p:Prop} (h:p:=by
 intro l hf hu;left;cases l<;>simp[Lb.entry] at hf;rename_i n;by_cases e:n=0
 ·subst e;simp
 exfalso;apply hu;simp[ae,Hp.none,e]):p:=h
def HZ {p:Prop} (h:p:=by
 intro q w hw cs aZ z hz;simp only[af'] at hw;subst hw;rw[bc aZ] at hz;simp at hz):p:=h
def Dp {p:Prop} (h:p:=by
 simp only[af'] at aZ;subst aZ;simp[ai,AV.aq] at hz):p:=h
def O5 {p:Prop} (h:p:=by
 refine eu ?_ ajT ajT;intro z hz hu;by_cases e:z= .par 0
 ·subst e;simp
 exfalso;apply hu;simp[ae,e,Hp.none]):p:=h
def E6 {p:Prop} (h:p:=by
 exact lZ (λz e=>by simp[ae,e,Hp.none]) ajT ajT):p:=h
def E7 {p:Prop} (h:p:=by
 intro l' hf hu;exfalso;apply hu;cases l'<;>simp_all[Lb.fresh,ae,Hp.none]):p:=h
def aa4 {p:Prop} (h:p:=by
 rw[af8 e] at h1;have h3:d[i]?=some z:=by
  by_cases hi:i<d.length
  ·rwa[agB hi] at h1
  rw[agr ajK] at h1;cases hq:i - d.length with
  |zero=>rw[hq] at h1;simp at h1;subst h1;simp at h2
  |succ n=>rw[hq] at h1;simp at h1
 have:=rG h3 h2;have e':¬i=q:=λh=>e h.symm;simp[aD,KL,ae,e,e'] at this ⊢;exact this):p:=h
def Xz {p:Prop} (h:p:=by
 intro q w hw cs H6 z hz;simp only[aga,agf,agI] at hw;rcases hw with rfl|rfl
 ·simp only[af'] at H6;subst H6;simp[ai,AV.aq] at hz
 rw[bc H6] at hz;simp at hz):p:=h
def O6 {p:Prop} (h:p:=by
 intro l hl;simp only[af'] at hl;subst hl;exact⟨λ_=>rfl,λh=>by simp[Lb.fresh] at h⟩):p:=h
def aa5 {p:Prop} (h:p:=by
 rintro q r hr cs aZ l hl;simp only[aga,agf,agI] at hr;rcases hr with rfl|rfl|rfl|rfl
 ·simp only[af'] at aZ;subst aZ;simp[ai,AV.aq] at hl
 ·simp only[af'] at aZ;subst aZ;simp[ai,AV.aq] at hl
 ·simp only[af'] at aZ;subst aZ;simp[ai,AV.aq] at hl;subst hl;simp
 rw[bc aZ] at hl;simp at hl):p:=h
def S9 {p:Prop} (h:p:=by
 intro z hz;simp only[aga,agf,agI] at hz;rcases hz with rfl|rfl|rfl|rfl|rfl|rfl<;>simp[aD,Lb.fresh]):p:=h
def O7 {p:Prop} (h:p:=by
 exact kK ajP (kK ajP (kK ajP (Dh _)))):p:=h
def XA {p:Prop} (h:p:=by
 intro q z hz cs aZ l' gR;simp only[oQ,aga,agf,agI] at hz;rcases hz with rfl|rfl<;>(simp only[af'] at aZ;subst aZ;simp[ai,AV.aq] at gR)):p:=h
def XB {p:Prop} (h:p:=by
 intro l hf;have:=yJ d hf;have cf:∀i,l≠ .nest (.loc 1000) i 4:=λi e=>by subst e;simp[Lb.fresh] at hf
 cases l<;>simp_all[Lb.fresh,ae]):p:=h
def Dq {p:Prop} (h:p:=by
 exfalso;apply hu;cases l<;>simp_all[Lb.fresh,ae,Hp.none]):p:=h
def aa6 {p:Prop} (h:p:=by
 rintro q r hr cs aZ l hl;simp only[aga,agf,agI] at hr;rcases hr with rfl|rfl|rfl
 ·simp only[af'] at aZ;subst aZ;simp[ai,AV.aq] at hl
 ·simp only[af'] at aZ;subst aZ;simp[ai,AV.aq] at hl;subst hl;simp
 rw[bc aZ] at hl;simp at hl):p:=h
def wy {p:Prop} (h:p:=by
 simp[dp,aD,aH,put,iX,jz]):p:=h
def XC {p:Prop} (h:p:=by
 intro z hf hu;left;cases z<;>simp[Lb.entry] at hf;rename_i n;by_cases e0:n=0
 ·subst e0;simp
 exfalso;apply hu;simp[ae,e0,Bi n e0]):p:=h
def aa7 {p:Prop} (h:p:=by
 intro l hl;simp only[aga,agf,agI] at hl;rcases hl with rfl|rfl|rfl|rfl
 ·exact⟨λ_=>rfl,λ_=>rfl⟩
 ·exact⟨λ_=>rfl,λ_=>rfl⟩
 ·exact⟨λ_=>rfl,λ_=>rfl⟩
 exact⟨λ_=>rfl,λh=>by simp[Lb.fresh] at h⟩):p:=h
def O8 {p:Prop} (h:p:=by
 rw[gH (.inr ajK),kL (.inr ajK),kM (.inr ajK)]):p:=h
def O9 {p:Prop} (h:p:=by
 rw[hq];exact cz rfl (cz rfl (cz rfl (cz rfl (og _ _))))):p:=h
def aa8 {p:Prop} (h:p:=by
 have Vr:∀(ρ:Lb->Lb) (xs:List IV),aP ρ ⟨5,ak xs⟩=⟨5,ak xs⟩:=λρ xs=>aK _ _ _;simp only[eL,ai0,kO,ag6,agb,Vr];simp[aD,ae,aP,aA,aH,cx,j8,Sd,BD]):p:=h
def aa9 {p:Prop} (h:p:=by
 have ht:((pre++[r]++List.replicate (n - pre.length) []).map IV.str).take (pre.length+1)=(Ev c n s).map IV.str:=by
  rw[vZ,fG,<-ahH,aip ajL];rw[af2 ajL]
 simp only[↓aX,mX,seval,agj,ht]):p:=h
def aa' {p:Prop} (h:p:=by
 intro q w hw cs aZ z hz;simp only[aga,agf,agI] at hw;rcases hw with rfl|rfl|rfl|rfl
 ·simp only[af'] at aZ;subst aZ;simp[ai,AV.aq,cx] at hz
 ·exact Dp
 ·exact Bp
 exact Dp):p:=h
def aa_ {p:Prop} (h:p:=by
 intro q w hw cs H6 z hz;simp only[aga,agf,agI] at hw;rcases hw with rfl|rfl
 ·rw[bc H6] at hz;simp at hz
 simp only[af'] at H6;subst H6;rw[zm] at hz;simp at hz):p:=h
def XD {p:Prop} (h:p:=by
 intro z hz;simp only[aga,agf,agI] at hz;rcases hz with rfl|rfl|rfl|rfl<;>simp[aD,Lb.fresh,Lb.entry]):p:=h
def XE {p:Prop} (h:p:=by
 intro z hz;simp only[aga,agf,agI] at hz;rcases hz with rfl|rfl
 ·simp[aD]
 simp[aD,Lb.fresh,Lb.entry]):p:=h
def XF {p:Prop} (h:p:=by
 rw[agc he] at lV;simp only[↓aX,mX,seval,he,z0,cA _ _ lV,↓cX,norm,bP,Op.av,aM,ag6]):p:=h
def aba {p:Prop} (h:p:=by
 intro q w hw cs aZ z hz;simp only[aga,agf,agI] at hw;rcases hw with rfl|rfl|rfl
 ·simp only[af'] at aZ;subst aZ;simp[ai,AV.aq,cx] at hz
 ·exact Dp
 exact Bp):p:=h
def abb {p:Prop} (h:p:=by
 simp only[↓aX,mX,seval];have:l.all (λx=>decide (x.dep<=8))=false:=by
  rw[ai_];intro bV;have:=agJ.1 bV x (af3 xI);simp at this h9;omega
 rw[content,this];rfl):p:=h
def LW {p:Prop} (h:p:=by
 exfalso;apply hu;simp[ae,e,Hp.none]):p:=h
def abc {p:Prop} (h:p:=by
 have hr:∀xs:List IV,aP (aD [(.loc 1,.loc 94)]) ⟨2,ak xs⟩=⟨2,ak xs⟩:=λxs=>aK _ _ _;simp only[eL,hr,uV];simp[aD,ae,aP,aA,aH,S']):p:=h
def XG {p:Prop} (h:p:=by
 simp only[hj 2 ajK];rw[et 2 ajK ajK ajK,h.f];rfl):p:=h
def XH {p:Prop} (h:p:=by
 simp only[hj 3 ajK];rw[et 3 ajK ajK ajK,h.a];rfl):p:=h
def abd {p:Prop} (h:p:=by
 simp only[↓aX,mX,seval,hw,hc];refine⟨⟨i+1,aF,?_⟩,ajM,aj4,ajT⟩;rw[h1,List.all_append,hs];simp at h9 ⊢;omega):p:=h
def abe {p:Prop} (h:p:=by
 intro q w hw cs aZ z hz;simp only[aga,agf,agI] at hw;rcases hw with rfl|rfl
 ·simp only[af'] at aZ;subst aZ;simp[ai,AV.aq] at hz
 exact Bp):p:=h
def XI {p:Prop} (h:p:=by
 exact pZ 26 aj4 ⟨rfl,trivial⟩ ak0 ajL):p:=h
def S_ {p:Prop} (h:p:=by
 simp only[eL,hr,E8];simp[aD,ae,aP,aA,aH,Step.iv,Step.cs]):p:=h
def abf {p:Prop} (h:p:=by
 intro a ha b hb;rcases lk ha with rfl|rfl|rfl|rfl|⟨i,rfl⟩<;>rcases lk hb with rfl|rfl|rfl|rfl|⟨j,rfl⟩<;>simp[KL,aD]):p:=h
def abg {p:Prop} (h:p:=by
 refine⟨?_,?_,?_,ajS,λl _=>⟨id,λ_=>rfl⟩⟩
 ·exact E7
 ·simp[dp,aD,aH,put,fH]
 simp[eL,aD,ae,aP,aA,aH]):p:=h
def Ta {p:Prop} (h:p:=by
 exact cz rfl (cz rfl (cz rfl (cz rfl (og _ _))))):p:=h
def abh {p:Prop} (h:p:=by
 refine⟨?_,?_,?_,ajS,λl _=>⟨id,λ_=>rfl⟩⟩
 ·exact BG
 ·exact wy
 simp[eL,ew,aD,ae,aP,aA,aH,cQ,gm,Op.az]):p:=h
def abi {p:Prop} (h:p:=by
 simp only[hj 0 ajK,hj 1 ajK,hj 2 ajK,hj 3 ajK];rw[et 0 ajK ajK ajK,h.s];simp[Bn.set]):p:=h
def wz {p:Prop} (h:p:=by
 simp[dp,aD,aH,put]):p:=h
def XJ {p:Prop} (h:p:=by
 simp only[↓aX,mX,seval,h4,ag3,stop (by rw[ht,ahV ajK];rfl)]):p:=h
def abj {p:Prop} (h:p:=by
 refine⟨?_,?_,?_,ajS,ajS⟩
 ·exact O4
 ·simp[dp,aD,aH,put,fH]
 simp[eL,aD,ae,aP,aA,aH,ak,cx]):p:=h
def XK {p:Prop} (h:p:=by
 exact⟨λ_=>by simp[aD,NW,Lb.fresh],λh=>by simp[Lb.fresh] at h⟩):p:=h
def abk {p:Prop} (h:p:=by
 exact kK ajP (kK ajP (kK ajP (kK ajP (kK ajP (Dh _)))))):p:=h
def XM {p:Prop} (h:p:=by
 rw[af8 e1,af8 e2] at e;exact h.inj p q (aW.2 hp) (aW.2 hq) e):p:=h
def abl {p:Prop} (h:p:=by
 intro l hf hu;left;cases l<;>simp[Lb.entry] at hf;rename_i n;by_cases e:n=0
 ·subst e;simp
 exfalso;apply hu;simp[ae,Bi n e]):p:=h
def abm {p:Prop} (h:p:=by
 intro z hf hu;left;cases z<;>simp[Lb.entry] at hf;rename_i m;by_cases e:m=0
 ·subst e;simp
 exfalso;apply hu;simp[ae,kUp m e]):p:=h
def abn {p:Prop} (h:p:=by
 intro z hf hu;left;cases z<;>simp[Lb.entry] at hf;rename_i m;by_cases e:m=0
 ·subst e;simp
 exfalso;apply hu;simp[kUp m e]):p:=h
def abo {p:Prop} (h:p:=by
 rw[show decide (((s.length:Nat):Int)>=((t.length:Nat):Int))=false by simpa using h,ahV h];simp only[↓aX,mX,seval,aha]):p:=h
def XN {p:Prop} (h:p:=by
 simp only[af'] at aZ;subst aZ;rw[wA] at gR;simp at gR):p:=h
def abp {p:Prop} (h:p:=by
 intro l hf hu;left;cases l<;>simp[Lb.entry] at hf;rename_i n;by_cases e0:n=0
 ·subst e0;simp
 exact absurd (h8 n e0) hu):p:=h
def abq {p:Prop} (h:p:=by
 rintro q r hr cs aZ l' gR;simp only[af'] at hr;subst hr;simp only[af'] at aZ;subst aZ;simp[ai,AV.aq] at gR):p:=h
def XO {p:Prop} (h:p:=by
 intro z hz hu;by_cases e:z= .par 0
 ·subst e;simp
 exact LW):p:=h
def abr {p:Prop} (h:p:=by
 intro q w hw cs aZ z hz;simp only[af'] at hw;subst hw;simp only[af'] at aZ;subst aZ;simp[ai,AV.aq] at hz):p:=h
def XP {p:Prop} (h:p:=by
 refine⟨?_,?_⟩
 ·simp only[↓aX,mX,seval]
 simp[E4,put,iX]):p:=h
def abt {p:Prop} (h:p:=by
 rcases agi.1 ho with ho|ho
 ·exact hb o' ho
 simp only[kO,agp] at ho;obtain⟨n,_,rfl⟩:=ho;exact hob):p:=h
def LX {p:Prop} (h:p:=by
 simp[eL,aD,ae,aP,aA,aH]):p:=h
def abu {p:Prop} (h:p:=by
 rename_i ks h;cases hf;have:=B8 (λs t r h=>py 8 s t r h) _ s l [] (af6 _) h;simpa using this):p:=h
def abv {p:Prop} (h:p:=by
 refine eu ?_ ajT ajT;intro l hl hu;by_cases e:l= .par 0
 ·subst e;simp
 exact LW):p:=h
def abw {p:Prop} (h:p:=by
 intro z hz;simp only[aga,agf,agI] at hz;rcases hz with rfl|rfl|rfl|rfl|rfl<;>simp[aD,Lb.fresh]):p:=h
def abx {p:Prop} (h:p:=by
 exact(hB.tp akf).tp akf):p:=h
def aby {p:Prop} (h:p:=by
 intro j hj;change j<b.n0 at hj;rw[h2 _ (cf _ ajK ajK),h.row _ _ (nV hj)];rfl):p:=h
def abz {p:Prop} (h:p:=by
 intro j hj;change j<b.n0 at hj;rw[h2 _ (cf _ ajK ajK),h.row _ _ (nW hj)];rfl):p:=h
def XQ {p:Prop} (h:p:=by
 rw[hq];exact cz rfl (cz rfl (cz rfl (og _ _)))):p:=h

inductive Sh (P:Program):TypeId->IV->Prop
 |b {t:TypeId} {x:Bool}:P.underlying t=some .bool->Sh P t (.bool x)
 |i {t:TypeId} {k:IntKind} {n:Int}:P.underlying t=some (.int k)->(Lit.int k n).wf=true->Sh P t (.int k n)
 |s {t:TypeId} {x:List UInt8}:P.underlying t=some .string->Sh P t (.str x)
 |l {t e:TypeId} {ys:List IV}:P.underlying t=some (.slice e)->(∀y∈ys,Sh P e y)->Sh P t (.list ys)
 |g {t:TypeId} {fs:Array Field} {ys:List IV}:P.underlying t=some (.struct fs)->ys.length=fs.size->(∀(j:Nat) (f:Field) (y:IV),fs[j]?=some f->ys[j]?=some y->Sh P f.type y)->Sh P t (.agg ys)
mutual
def IV.wt:IV->Nat
 | .bool _=>1
 | .int _ _=>1
 | .str s=>s.length+1
 | .list xs=>ox xs+1
 | .agg cs=>ox cs+1
 | .ifc _=>1
def ox:List IV->Nat
 |[]=>0
 |x::r=>x.wt+ox r
end
def O' (P:Program) (t:TypeId):Bool:=
 match P.underlying t with
 |some .bool|some (.int _)|some .string|some (.slice _)=>true
 |_=>false
def XR (P:Program) (T:List TypeId) (t:TypeId):Bool:=
 match P.underlying t with
 |some .bool|some (.int _)|some .string=>true
 |some (.slice e)=>T.contains e&&decide (0<P.cellsOf e)
 |some (.struct fs)=>decide (P.cellsOf t=fs.size)&&(List.range fs.size).all λj=>match fs[j]? with
  |some f=>T.contains f.type&&O' P f.type&&decide (f.offset=j)&&decide (P.cellsOf f.type=1)
  |none=>false
 |_=>false
section
variable {H:Type} {enc:TypeId×Value->H} {P:Program} {w:World} {base:Nat} {spare:Nat->Bool} {held:Bool}
theorem uW {α β:Type} {f:α->Option β}:∀{l:List α} {r:List β},l.mapM f=some r->r.length=l.length/\∀(i:Nat) (x:α),l[i]?=some x->∃y,r[i]?=some y/\f x=some y
 |[],r,h=>by
  simp at h;subst h;exact⟨rfl,ajL⟩
 |a::l,r,h=>by
  rw[List.mapM_cons] at h;obtain⟨y,h1,h⟩:=afX.1 h;obtain⟨s,h2,h⟩:=afX.1 h;simp only[Option.pure_def,afZ] at h;subst h;obtain⟨e1,e2⟩:=uW h2;refine⟨an3,λi x hx=> ?_⟩;cases i with
  |zero=>simp at hx;subst hx;exact⟨y,ajL,h1⟩
  |succ i=>obtain⟨z,q1,q2⟩:=e2 i x ak5;exact⟨z,alf,q2⟩
def LY {a:Addr} {n:Nat} {cs:List Value} (h:w.cells? base a n=some cs):cs.length=n/\∀i,i<n->∃v,cs[i]?=some v/\w.cell? (a.add i)=some v:=by
 unfold World.cells? at h;split at h
 ·obtain⟨h1,h2⟩:=uW h;refine⟨aj8,λi hi=> ?_⟩;obtain⟨v,e1,e2⟩:=h2 i i amy;exact⟨v,e1,e2⟩
 simp at h
def LZ {a:Addr} {v:Value} (h:w.cell? a=some v):a.spot=none/\a.block<w.heap.size:=by
 unfold World.cell? at h;split at h
 ·rename_i c t f e;split at h
  ·simp at h
  rename_i hs;exact⟨anU,(agS.1 e).1⟩
 simp at h
structure Bk (H:Type) where
 bk:DataW H->Nat
 one:∀d,1<=bk d
 str:∀l,bk (.lit (.string l))=l.length+1
 sl:∀es sp,(es.map bk).sum+1<=bk (.slice es sp)
 ag:∀ps,(ps.map bk).sum+1<=bk (.agg ps)
theorem build {Q:Nat->IV->Prop}:∀(n:Nat),(∀i,i<n->∃y,Q i y)->∃ys:List IV,ys.length=n/\∀i y,ys[i]?=some y->Q i y
 |0,_=>⟨[],rfl,ajL⟩
 |n+1,h=>by
  obtain⟨ys,h1,h2⟩:=build n (λi hi=>h i ajK);obtain⟨y,hy⟩:=h n ajK;refine⟨ys++[y],by simp[h1],λi z hz=> ?_⟩;by_cases hi:i<n
  ·rw[agB ajK] at hz;exact h2 i z hz
  have:i=n:=by
   have:=(afY.1 hz).1;simp at this;omega
  subst this;rw[agr ajK,h1] at hz;simp at hz;subst hz;exact hy
theorem H7 {α:Type} {g:α->Nat}:∀(ys:List IV) (xs:List α),ys.length=xs.length->(∀(i:Nat) (y:IV) (x:α),ys[i]?=some y->xs[i]?=some x->y.wt<=g x)->ox ys<=(xs.map g).sum
 |[],[],_,_=>by simp[ox]
 |y::ys,[],h,_=>by simp at h
 |[],x::xs,h,_=>by simp at h
 |y::ys,x::xs,h,hw=>by
  have h1:=hw 0 y x ajL ajL;have h2:=H7 ys xs aj6 (λi y x hy hx=>hw (i+1) y x anT ak5);simp only[ox,agC,List.sum_cons];omega
def read (B:Bk H) {T:List TypeId} (hT:∀t∈T,XR P T t=true):∀(fuel:Nat) (t:TypeId) (cs:List Value) (d:DataW H) (ps:List MemPlace),t∈T->DataW.trod enc P w base spare held fuel t cs=some (d,ps) ->
  ∃y:IV,Sh P t y/\y.wt<=B.bk d/\y.cells.length=cs.length/\∀(j:Nat) (z:IV),y.cells[j]?=some z->∃v,cs[j]?=some v/\iM w (λ_=>True) z v:=by
 intro fuel;induction fuel with
 |zero=>intro t cs d ps _ h;simp[DataW.trod] at h
 |succ fuel ih=>
 intro t cs d ps ht h;have kn:=hT t ht;unfold XR at kn;unfold DataW.trod at h;cases hu:P.underlying t with
 |none=>rw[hu] at kn;simp at kn
 |some u=>
 rw[hu] at kn h;cases u with
 |bool=>
  simp only at h;split at h<;>simp_all;rename_i b;obtain⟨rfl,rfl⟩:=h;exact⟨.bool b,.b hu,by simpa[IV.wt] using B.one _,aj0,λj z hz=>by
   cases j<;>simp[IV.cells] at hz;subst hz;simp[iM]⟩
 |int k=>
  simp only at h;split at h<;>simp_all;rename_i n _;obtain⟨⟨rfl,hw⟩,rfl,rfl⟩:=h;exact⟨.int _ n,.i hu hw,by simpa[IV.wt] using B.one _,aj0,λj z hz=>by
   cases j<;>simp[IV.cells] at hz;subst hz;simp[iM]⟩
 |string=>
  simp only at h;split at h<;>simp_all;rename_i x;obtain⟨hw,rfl,rfl⟩:=h;exact⟨.str x.data.toList,.s hu,by rw[B.str];simp[IV.wt],aj0,λj z hz=>by
   cases j<;>simp[IV.cells] at hz;subst hz;simp[iM]⟩
 |slice e=>
  simp only[agm,agv,ahT] at kn;obtain⟨qD,EU⟩:=kn;have abA:e∈T:=by simpa using qD
  simp only at h;split at h<;>simp_all
  ·obtain⟨rfl,rfl⟩:=h;exact⟨.list [],.l hu ajL,by simpa[IV.wt,ox] using B.one _,aj0,λj z hz=>by
    cases j<;>simp[IV.cells] at hz;subst hz;simp only[iM];exact⟨_,rfl,none,0,rfl,af6 _,akZ,.inl rfl⟩⟩
  rename_i _ _ e' a len cap _;obtain⟨⟨hb,hlc,R4⟩,h⟩:=h;obtain⟨elems,he,h⟩:=afX.1 h;obtain⟨rest,hr,h⟩:=acF.1 h;simp only[agq] at h;obtain⟨rfl,rfl⟩:=h;obtain⟨hlen,bU⟩:=uW he;have abB:elems.length=len:=anH
  have bV:∀i,i<len->∃y:IV,Sh P e' y/\(∀x,elems[i]?=some x->y.wt<=B.bk x.1)/\y.cells.length=P.cellsOf e' /\
    ∀(j:Nat) (z:IV),y.cells[j]?=some z->∃v,w.cell? ((a.add (i*P.cellsOf e')).add j)=some v/\iM w (λ_=>True) z v:=by
   intro i hi;obtain⟨x,e1,e2⟩:=bU i i amy;obtain⟨cs,c1,c2⟩:=afX.1 e2;obtain⟨cl,cg⟩:=LY c1;obtain⟨y,y1,y2,y3,y4⟩:=ih e' cs x.1 x.2 abA c2;refine⟨y,y1,λx' hx'=>by rw[e1] at hx';cases hx';exact y2,by rw[y3,cl],λj z hz=> ?_⟩;obtain⟨v,v1,v2⟩:=y4 j z hz;have hj:j<P.cellsOf e':=by
    have:=(afY.1 hz).1;omega
   obtain⟨v',u1,u2⟩:=cg j hj;rw[v1] at u1;cases u1;exact⟨v,u2,v2⟩
  obtain⟨ys,zp,BH⟩:=build len bV;refine⟨.list ys,.l hu (λy hy=> ?_),?_,aj0,λj z hz=> ?_⟩
  ·obtain⟨i,hi⟩:=agE hy;exact(BH i y hi).1
  ·have h1:=H7 (g:=λx:DataW H×List MemPlace=>B.bk x.1) ys elems ajK (λi y x hy hx=>(BH i y hy).2.1 x hx);have h2:=B.sl (elems.map λx=>x.1) (rest.map λx=>x.1);simp only[aiE] at h2;simp only[IV.wt];exact ag' (ajw h1 1) h2
  cases j with
  |succ j=>simp[IV.cells] at hz
  |zero=>
  simp[IV.cells] at hz;subst hz;refine⟨_,rfl,?_⟩;simp only[iM];refine⟨some a,cap,by rw[zp],ajK,R4,?_⟩;by_cases HA:len=0
  ·exact .inl ajK
  right;have xz:∀i j,i<len->j<P.cellsOf e'->∃v,w.cell? ((a.add (i*P.cellsOf e')).add j)=some v:=by
   intro i j hi hj;obtain⟨y,hy⟩:∃y,ys[i]?=some y:=⟨_,af7 ajK⟩;obtain⟨_,_,q3,q4⟩:=BH i y hy;obtain⟨v,v1,_⟩:=q4 j _ (af7 ajK);exact⟨v,v1⟩
  obtain⟨v0,XS⟩:=xz 0 0 ajK EU;obtain⟨s1,s2⟩:=LZ XS;obtain⟨ab,ao,asp⟩:=a;simp only[Addr.add,ahM,agn] at s1 s2;subst s1;refine⟨ab,ao,P.cellsOf e',rfl,trivial,s2,EU,mB _ _ _ (λk y hy=> ?_)⟩;obtain⟨_,_,q3,q4⟩:=BH k y hy;rw[hQ];refine⟨q3.symm,kI _ _ _ (λj z hz=> ?_)⟩;obtain⟨v,v1,v2⟩:=q4 j z hz;rw[addr_add,addr_add] at v1;exact⟨v,v1,v2⟩
 |struct fs=>
  simp only[agm,agv] at kn;simp only at h;obtain⟨j9,kn⟩:=kn;rw[agJ] at kn;split at h
  ·rename_i yA;obtain⟨xs,hx,h⟩:=acF.1 h;simp only[agq] at h;obtain⟨rfl,rfl⟩:=h;obtain⟨hlen,bU⟩:=uW hx;have abB:xs.length=fs.size:=anH;have bV:∀i,i<fs.size->∃y:IV,(∀f,fs[i]?=some f->Sh P f.type y)/\(∀x,xs[i]?=some x->y.wt<=B.bk x.1)/\∃v,cs[i]?=some v/\iM w (λ_=>True) y v:=by
    intro i hi;have hf:=kn i alx;obtain⟨f,J8⟩:∃f,fs[i]?=some f:=⟨_,ag5 hi⟩;rw[J8] at hf;simp only[agm,agv,ahT] at hf;obtain⟨⟨⟨f1,f2⟩,f3⟩,f4⟩:=hf;obtain⟨x,e1,e2⟩:=bU i f (by simpa using J8);rw[f3,f4] at e2;obtain⟨y,y1,y2,y3,y4⟩:=ih f.type _ x.1 x.2 (by simpa using f1) e2;have j6:y.cells=[y]:=by
     cases y1 with
     |g XT _ _=>unfold O' at f2;rw[XT] at f2;simp at f2
     |_=>rfl
    refine⟨y,λf' R1=>by rw[J8] at R1;cases R1;exact y1,λx' hx'=>by rw[e1] at hx';cases hx';exact y2,?_⟩;obtain⟨v,v1,v2⟩:=y4 0 y (by rw[j6];rfl);refine⟨v,?_,v2⟩;rw[agG] at v1;split at v1
    ·rw[ahv] at v1;simpa using v1
    simp at v1
   obtain⟨ys,zp,BH⟩:=build fs.size bV;refine⟨.agg ys,.g hu zp (λj f y hf hy=>(BH j y hy).1 f hf),?_,by simp only[IV.cells];omega,λj z hz=>(BH j z hz).2.2⟩;have h1:=H7 (g:=λx:DataW H×List MemPlace=>B.bk x.1) ys xs ajK (λi y x hy hx=>(BH i y hy).2.1 x hx);have h2:=B.ag (xs.map λx=>x.1);simp only[aiE] at h2;simp only[IV.wt];exact ag' (ajw h1 1) h2
  simp at h
 |_=>simp at kn
end
end Go.Am

namespace Go.Am
open Go Go.RowKit Go.ChangeShapes
def noG:Nat->Option (List IV):=λ_=>none
def mW:Lb->Option Nat:=λ_=>none
def O_ (P:Program) (W:World):aO (cH P noG W (λ_=>True) mW Hp.none) mW Env.any Hp.none sO W:=
 { defers := rfl,size := rfl
   jc:=λn=>by simp[Env.any,RV]
   rows:=λl r h=>by simp[Hp.none] at h
   own:=λl g ⟨r,h⟩=>by simp[Hp.none] at h
   inj:=λl l' g ⟨r,h⟩=>by simp[Hp.none] at h
   iq:=λn=>by simp[Env.any,AV.aq]
   cB:=λl r h=>by simp[Hp.none] at h
   frame:=⟨rfl,rfl,rfl,af6 _,λ_ _ _=>rfl,λ_ _ h=>h⟩
   jv:=λl ⟨r,h⟩=>by simp[cH,Hp.none] at h
   fr:=λl g ⟨r,h⟩=>by simp[Hp.none] at h
   iO:=λg cs hg=>by simp[cH,noG] at hg}
def run_pure {P:Program} {f:Nat} {args:List AV} {res:AV} {vs:List Value} {W:World} (hp:aj P noG f args res) (hv:bA W mW Hp.none (λ_=>True) args vs) :
  Calls P f vs.toArray W λe W'=>∃v,e= .returned v/\Below W.heap.size W W'/\RV W' mW Hp.none (λ_=>True) res v:=by
 have hI:∀k,Im (cH P noG W (λ_=>True) mW Hp.none) mW Hp.none k:=λk=>⟨.inl trivial,λl ⟨r,h⟩=>by simp[Hp.none] at h⟩;refine(wm (O_ P W) hp (bA.mono _ _ ?_ hv) trivial).mono ?_
 ·exact aak
 exact aaf
section
variable {H:Type} {enc:TypeId×Value->H} {P:Program}
def Dr (P:Program) (t:TypeId):Bool:=P.readableRec t&&decide (t<P.types.size)
theorem sQ (hl:laidOutB P=true) {W W':World} (hb:Below W.heap.size W W') {sp:Nat->Bool}:∀{ts:List TypeId} {vs:List Value} {ds:List (DataW H)} {ps:List MemPlace},ts.all (Dr P)=true ->
  DataW.TrodAll enc P W 0 (λ_=>true) true ts vs ds ps->(∀x∈ps,x.block<W.heap.size)->(∀x∈ps,sp x.block=true)->DataW.TrodAll enc P W' 0 sp true ts vs ds ps
 |[],_,_,_,_,h,_,_=>by
  obtain⟨rfl,rfl,rfl⟩:=trodAll_nil h;rfl
 |t::ts,_,_,_,hr,h,aF,hs=>by
  obtain⟨v,vs1,d,ds1,a,b,rfl,rfl,rfl,h1,h2⟩:=trodAll_cons h;simp only[ai9,agm,Dr,agv] at hr;refine⟨a,b,WideElems.Trod_stays hl hr.1.1 hr.1.2 h1 (λx hx=>hb.same (aF x an5)) (λx hx=>hs x an5),?_,rfl⟩;exact sQ hl hb hr.2 h2 (λx hx=>aF x an5) (λx hx=>hs x an5)
def Pa {f:Func} {s:ChangeSpec} {apart fresh handsOn again:Bool} {W W':World} {args:Array Value} {ds gs:List (DataW H)} {before:List MemPlace} {tb:TypeId} (hl:laidOutB P=true)
  (hr:f.params.toList.all (Dr P)=true) (Db:f.resultTypes=#[tb]) (hub:P.underlying tb=some .bool) (E9:s.vars=[]) (L2:s.fn H ds={results:=[.lit (.bool true)],args:=ds})
  (hW:DataW.Whole enc P f.params.toList s.vars apart W args.toList ds gs before) (hb:Below W.heap.size W W') :
  s.post enc P f apart fresh handsOn again W args (.bool true) W':=by
 have hW':=hW;have aF:=hW.lt;obtain⟨p,q,hA,hV,rfl,hz,hn⟩:=hW;rw[E9] at hV;obtain⟨rfl,rfl⟩:=trodVars_none hV;simp only[agb] at hW' aF hz hn;have XU:s.fn H (ds++[])={results:=[.lit (.bool true)],args:=ds}:=by rw[agb];exact L2
 have JX:∀sp:Nat->Bool,(∀x∈p,sp x.block=true)->DataW.TrodAll enc P W' 0 sp true f.params.toList args.toList ds p:=λsp hs=>sQ hl hb hr hA aF hs;have pt:∀(b:Nat) (sp:Nat->Bool) (hd:Bool),DataW.TrodAll enc P W' b sp hd f.resultTypes.toList ((Value.bool true).resultList f.resultTypes.size) [.lit (.bool true)] []:=by
  intro b sp hd;rw[Db];exact trodAll_cons_mk (shut_bool hub _) trodAll_mk0
 have XS:∀sp:Nat->Bool,DataW.TrodVars enc P W' sp s.vars (s.fn H (ds++[])).vars []:=by
  intro sp;rw[E9,XU];rfl
 refine⟨ds,[],p,[],p,[],hW',by rw[XU];exact pt _ _ _,by rw[XU];exact JX _ (λx hx=>by simpa using aF x hx),XS _,hb.frame _,λ_=> ?_⟩;have WT:DataW.TrodVars enc P W' (λ_=>true) s.vars [] []:=by rw[E9];rfl
 refine⟨ok_one Db rfl (okWide_bool_mk hub _),_,_,([]++p)++[],⟨[]++p,[],trodAll_append (JX _ (λ_ _=>rfl)) (pt _ _ _),WT,ajL,?_,?_⟩,?_⟩
 ·intro b off hp;have fE:MemPlace.cell b off∈p:=by simpa using hp
  rw[hb.frozen (p:=⟨b,off,none⟩) (aF _ fE)];exact hz b off fE
 ·intro ha;simpa using hn ha
 intro x hx _;simpa using hx
end
end Go.Am

namespace Go.Am
open Go Go.RowKit Go.ChangeShapes
section
variable {H:Type} {enc:TypeId×Value->H} {P:Program}
theorem Pb {W:World}:∀(ys:List IV) (cs:List Value),ys.length=cs.length->(∀z∈ys,∀q,z≠ .agg q)->(∀(j:Nat) (z:IV),ys[j]?=some z->∃v,cs[j]?=some v/\iM W (λ_=>True) z v) ->
  bA W mW Hp.none (λ_=>True) (ys.map IV.dw) cs
 |[],[],_,_,_=>by simp[bA]
 |[],v::cs,h,_,_=>by simp at h
 |y::ys,[],h,_,_=>by simp at h
 |y::ys,v::cs,h,hf,hg=>by
  obtain⟨v',h1,h2⟩:=hg 0 y ajL;simp at h1;subst h1;refine⟨v,cs,rfl,?_,Pb ys cs aj6 (λz hz=>hf z akI) (λj z hz=>by simpa using hg (j+1) z anQ)⟩;cases y with
  |agg q=>exact absurd rfl (hf _ ajL q)
  |_=>simpa[IV.dw,RV,iM] using h2
def XV (B:Bk H) {T:List TypeId} (hT:∀t∈T,XR P T t=true) {W:World} {t:TypeId} (ht:t∈T) {v:Value} {d:DataW H} {ps:List MemPlace} {r:Reach}
  {b0:Nat} (tq:Value.okWide P W r b0 t v) (h:DataW.Trod enc P W 0 (λ_=>true) true t v d ps) :
  ∃y:IV,Sh P t y/\y.wt<=B.bk d/\RV W mW Hp.none (λ_=>True) y.av v:=by
 obtain⟨fuel,h⟩:=h;obtain⟨y,h1,h2,h3,h4⟩:=read B hT fuel t _ d ps ht h;refine⟨y,h1,h2,?_⟩;have one:∀u:TypeDesc,P.underlying t=some u->(∀fs,u≠ .struct fs)->(∀n e,u≠ .array n e)->(∀cs,y≠ .agg cs)->RV W mW Hp.none (λ_=>True) y.av v:=by
  intro u hu hs ha hy;have hc:y.cells=[y]:=by cases y<;>first|rfl|exact absurd rfl (hy _)
  have hv:v.cells=#[v]:=by
   cases v with
   |agg cs=>
    unfold Value.okWide at tq;rw[hu] at tq;cases u<;>simp_all[Cell.okWide,Cell.ok]
   |_=>rfl
  rw[hc,hv] at h4;obtain⟨v',e1,e2⟩:=h4 0 y rfl;simp at e1;subst e1;cases y<;>first|(simpa[IV.av,IV.dw,RV,iM] using e2)|exact absurd rfl (hy _)
 cases h1 with
 |b hu=>exact one _ hu ajL ajL ajL
 |i hu _=>exact one _ hu ajL ajL ajL
 |s hu=>exact one _ hu ajL ajL ajL
 |l hu _=>exact one _ hu ajL ajL ajL
 |@g _ fs ys hu hl hf=>
 have kn:=hT t ht;unfold XR at kn;rw[hu] at kn;simp only[agm,agv,agJ] at kn;unfold Value.okWide at tq;rw[hu] at tq;obtain⟨cs,rfl,j9,_⟩:=tq;simp only[IV.av,RV];refine⟨cs.toList,ajL,Pb ys _ (by simpa[IV.cells,Value.cells] using h3) ?_ (λj z hz=>by simpa[Value.cells] using h4 j z (by simpa[IV.cells] using hz))⟩;intro z hz q e;obtain⟨j,hj⟩:=agE hz;have kE:j<fs.size:=by rw[<-hl];exact(afY.1 hj).1
 obtain⟨f,hfj⟩:∃f,fs[j]?=some f:=⟨_,ag5 kE⟩;have h5:=hf j f z hfj hj;have h6:=kn.2 j (by simpa using kE);rw[hfj] at h6;simp only[agm] at h6;have h7:=h6.1.1.2;subst e;cases h5 with
 |g XT _ _=>unfold O' at h7;rw[XT] at h7;simp at h7
inductive Shs (P:Program):List TypeId->List IV->Prop
 |nil:Shs P [] []
 |cons {t:TypeId} {y:IV} {ts:List TypeId} {ys:List IV}:Sh P t y->Shs P ts ys->Shs P (t::ts) (y::ys)
theorem J9 (B:Bk H) {T:List TypeId} (hT:∀t∈T,XR P T t=true) {W:World} {r:Reach} {b0:Nat}:∀{ts:List TypeId} {vs:List Value} {ds:List (DataW H)} {ps:List MemPlace},(∀t∈ts,t∈T) ->
  (∀(j:Nat) (t:TypeId) (v:Value),ts[j]?=some t->vs[j]?=some v->Value.okWide P W r b0 t v)->DataW.TrodAll enc P W 0 (λ_=>true) true ts vs ds ps ->
  ∃ys:List IV,Shs P ts ys/\ox ys<=(ds.map B.bk).sum/\bA W mW Hp.none (λ_=>True) (ys.map IV.av) vs
 |[],vs,ds,ps,_,_,h=>by
  obtain⟨rfl,rfl,rfl⟩:=trodAll_nil h;exact⟨[],.nil,by simp[ox],by simp[bA]⟩
 |t::ts,vs,ds,ps,ht,hv,h=>by
  obtain⟨v,vs,d,ds,p,q,rfl,rfl,rfl,h1,h2⟩:=trodAll_cons h;obtain⟨y,k1,k2,k3⟩:=XV B hT (ht t ajL) (hv 0 t v rfl rfl) h1;obtain⟨ys,q1,q2,q3⟩:=J9 B hT (λt' h'=>ht t' (by simp[h'])) (λj t' v' a b=>hv (j+1) t' v' (by simpa using a) (by simpa using b)) h2;exact⟨y::ys,.cons k1 q1,by simp only[ox,agC,List.sum_cons];omega,by simp only[agC,bA];exact⟨v,vs,rfl,k3,q3⟩⟩
theorem xJ {W:World} {b0:Nat} {sp:Nat->Bool} {hd:Bool}:∀{ts:List TypeId} {vs:List Value} {ds:List (DataW H)} {ps:List MemPlace},DataW.TrodAll enc P W b0 sp hd ts vs ds ps->ds.length=ts.length
 |[],vs,ds,ps,h=>by
  obtain⟨_,rfl,_⟩:=trodAll_nil h;rfl
 |t::ts,vs,ds,ps,h=>by
  obtain⟨v,vs,d,ds,p,q,rfl,rfl,rfl,_,h2⟩:=trodAll_cons h;simp[xJ h2]
end
end Go.Am

namespace Go.Am
open Go Go.RowKit
def AC.E_ (x:AC) (k:Nat) (c:AC):AC:=(x.fst (fun| .seq a _=>a.has k|_=>false) λ_=>c).1
def AC.Se (p:AC->Bool) (x:AC):Option AC:=if p x then some x else match x with
 | .seq a b| .cond _ a b=>match a.Se p with
  |some x=>some x
  |none=>b.Se p
 | .block _ c| .loop c| .gh _ c=>c.Se p
 |_=>none
def AC.NS (x:AC) (k:Nat):AC:=(x.Se λx=>x.lm.has k).getD .skip
def AC.atB (x:AC) (k:Nat):AC:=(x.Se λx=>match x with| .seq ..=>x.isB k|_=>false).getD .skip
noncomputable def Ds (n:Nat) (l:List Ed):AC:=(rdO l (dK Go.Proofs.Tryz.prog gD n)).2.2
def BI {α:Type} (c:α) {d:α} (h:c=d:=by set_option maxRecDepth 100000 in conv=>lhs;cbv):c=d:=h
def rdP (l:List Ed) (f:AC->AC) (o:Option (Nat×List RO×AC)):Nat×List RO×AC:=match rdO l o with
 |(n,r,x)=>(n,r,f x)
def XW (n:Nat) (l:List Ed) (f:AC->AC) {x:Nat×List RO×AC} (e:rdP l f (dK Go.Proofs.Tryz.prog gD n)=x:=by set_option maxRecDepth 100000 in conv=>lhs;cbv):rdP l f (dK Go.Proofs.Tryz.prog gD n)=x:=e
def XX {P:Program} {G:Nat->Option (List IV)} [KN P G] {n nt:Nat} {rs:List RO} {l:List Ed} {f:AC->AC} {ac:AC} (e:rdP l f (dK Go.Proofs.Tryz.prog gD n)=(nt,rs,ac))
 (h:∀a b c d,dK Go.Proofs.Tryz.prog (gX a b c d) n=some (nt,rs,ac.bare):=by intros;kernel_rfl):dK P G n=some (nt,rs,ac.bare):=rdL n nt rs ac h

open Classical in
noncomputable def dA (kp:Lb→Prop) (H:Hp):Hp:=fun l=>match H l with
 | .live r=>if kp l then .live r else .dead
 |s=>s
def cL {kp:Lb->Prop} {H:Hp} {l:Lb} {r:Row}:dA kp H l= .live r↔H l= .live r/\kp l:=by
 unfold dA;cases h:H l with
 |live r'=>
  by_cases hk:kp l
  ·simp[hk]
  simp[hk]
 |unused=>simp
 |dead=>simp
def gJ {kp:Lb->Prop} {H:Hp} {l:Lb}:dA kp H l= .unused↔H l= .unused:=by
 unfold dA;cases h:H l with
 |live r'=>
  by_cases hk:kp l
  ·simp[hk]
  simp[hk]
 |unused=>simp
 |dead=>simp
section
variable {K:Kx} {β:Lb->Option Nat} {env:Env} {H:Hp} {a:Act} {w:World}
def aO.dA (hr:aO K β env H a w) (kp:Lb->Prop):aO K β env (Am.dA kp H) a w:=by
 have:=hr.jf id (env2:=env) (H2:=Am.dA kp H) (λn=> .inr (Di _).symm) (λl r h=>by rw[Dj];exact(cL.1 h).1) (λ_ _ _ _ h=>h)
  (λn l hl=>by rw[Ne,gJ];exact hr.iq n l hl) (λl r h cs aZ q hq=>by rw[Ne,gJ];exact hr.cB l r (cL.1 h).1 cs aZ q hq)
  (λl hl=>⟨by rw[Ne,gJ];exact(hr.jv l hl).1,λ_=>rfl⟩) (λ_ _ h=>h)
 exact this
def Pc {K:Kx} {β:Lb->Option Nat} {H:Hp} (kp:Lb->Prop) {k:Nat} (h:Im K β H k):Im K β (Am.dA kp H) k:=
 ⟨h.1,λl ⟨r,hl⟩=>h.2 l ⟨r,(cL.1 hl).1⟩⟩
def RV.dA {w:World} {β:Lb->Option Nat} {H:Hp} {x:AV} {v:Value} (kp:Lb->Prop) (h:RV w β H (Im K β H) x v):RV w β (Am.dA kp H) (Im K β (Am.dA kp H)) x v:=
 RV.mono x v {im:=λk hk hs=>⟨Pc kp hk,hs,rfl⟩,lb:=λl _ ⟨r,hl⟩=>⟨⟨r,(cL.1 hl).1⟩,rfl,λ_ _ _ h=>h⟩} h
end
def er.d_ {P:Program} {G:Nat->Option (List IV)} {f:Nat} {args:List AV} {H:Hp} {Q:AV->Hp->Prop} (h:er P G f args H Q) (kp:Lb->Prop) :
  er P G f args H λx H'=>∃H1,Q x H1/\H'=dA kp H1:=by
 intro w A β vs hr hv;refine(h w A β vs hr hv).mono ?_;rintro e w' ⟨v,x,H1,β',rfl,hq,qf,hx,hm⟩;exact⟨v,x,dA kp H1,β',rfl,⟨H1,hq,rfl⟩,qf.dA kp,hx.dA kp,λl hl=>by rw[Ne,gJ];exact hm l hl⟩
def jK (cs:List AV):Hp:=aS Hp.none (.par 0) (.live ⟨cs.length,[cs]⟩)
def cM (P:Program) (G:Nat->Option (List IV)) (f:Nat) (args:List AV) (cs:List AV) (R:AV->List AV->Prop):Prop:=
 (∀l∈ai args,l= .par 0)/\ai cs=[]/\er P G f args (jK cs) λx H'=>∃fB,R x fB/\x.aq=[]/\ai fB=[]/\fB.length=cs.length/\H' (.par 0)= .live ⟨cs.length,[fB]⟩
def iP (l:Lb):Lb->Lb:=λq=>if q= .par 0 then l else q
def ba {S:St} {f:Nat} {args bW:List AV} {cs:List AV} {R:AV->List AV->Prop} {H:Hp} {k:AV->Hp->Prop} {u:Tw k} {l:Lb} (h:cM S.P S.G f bW cs R)
  (ha:args=aA (iP l) bW) (hl:H l= .live ⟨cs.length,[cs]⟩) (hk:∀x fB,R x fB->x.aq=[]->ai fB=[]->fB.length=cs.length->k x (aS H l (.live ⟨cs.length,[fB]⟩))):Hm S f args H k u:=by
 obtain⟨h1,h2,h3⟩:=h;have aT:∀q r,jK cs q= .live r->q= .par 0/\r=⟨cs.length,[cs]⟩:=by
  intro q r h;by_cases e:q= .par 0
  ·subst e;simp[jK] at h;exact⟨rfl,h.symm⟩
  rw[jK,an _ _ e] at h;simp[Hp.none] at h
 refine .inr<| .inr ⟨⟨iP l,jK cs,bW,_,h3.d_ (λq=>q= .par 0),ha,?_,?_,?_,?_,?_,?_,?_⟩⟩
 ·intro q r h;obtain⟨rfl,rfl⟩:=aT q r h;simp only[iP,agn,hl,Slot.live.injEq,aP,Row.mk.injEq,agC,ag6,agt,agY,ajg];exact(h_ _ _ h2).symm
 ·intro q hq;by_cases e:q= .par 0
  ·subst e;exact⟨_,by simp[jK];rfl⟩
  rw[jK,an _ _ e] at hq;simp[Hp.none] at hq
 ·exact We
 ·intro q hq;rw[h1 q hq];simp[jK]
 ·rintro q ⟨r,h⟩;rw[(aT q r h).1];rfl
 ·intro q r h c hc z hz;obtain⟨rfl,rfl⟩:=aT q r h;simp only[af'] at hc;subst hc;rw[h2] at hz;simp at hz
 rintro x H' ⟨H1,⟨fB,e1,e2,e3,e4,e5⟩,rfl⟩;have hH:∀q r,dA (λq=>q= .par 0) H1 q= .live r->q= .par 0/\r=⟨cs.length,[fB]⟩:=by
  intro q r h;obtain⟨g1,rfl⟩:=cL.1 h;rw[e5] at g1;cases g1;exact⟨rfl,rfl⟩
 have rH:dA (λq=>q= .par 0) H1 (.par 0)= .live ⟨cs.length,[fB]⟩:=cL.2 ⟨e5,rfl⟩;refine⟨iP l,aS H l (.live ⟨cs.length,[fB]⟩),λ_ _ _=>rfl,?_,?_,?_,?_,?_,?_,?_,?_⟩
 ·intro q r h;by_cases e:q=l
  ·subst e;simp at h;refine .inr ⟨.par 0,_,rH,by simp[iP],?_⟩;rw[<-h];simp only[aP,Row.mk.injEq,agC,ag6,agt,agY,ajg];exact(h_ _ _ e3).symm
  exact aaj
 ·exact Wf
 ·intro q hq;by_cases e:q=l
  ·subst e;simp
  rw[an _ _ e];exact hq
 ·intro q hq;rw[e2] at hq;simp at hq
 ·intro q r h c hc z hz;obtain⟨rfl,rfl⟩:=hH q r h;simp only[af'] at hc;subst hc;rw[e3] at hz;simp at hz
 ·rintro q ⟨r,h⟩;obtain⟨rfl,rfl⟩:=hH q r h;exact .inl ⟨_,by simp[jK];rfl⟩
 ·rintro q (hq|⟨l1,r1,c,g1,g2,g3⟩) _
  ·rw[e2] at hq;simp at hq
  obtain⟨rfl,rfl⟩:=hH l1 r1 g1;simp only[af'] at g2;subst g2;rw[e3] at g3;simp at g3
 rw[oO _ _ e2];exact hk x fB e1 e2 e3 e4
def dk {P:Program} {G:Nat->Option (List IV)} {f:Nat} {n:Nat} {rs:List RO} {ac:AC} {args cs:List AV} {R:AV->List AV->Prop}
  (hF:dK P G f=some (n,rs,ac.bare)) (hn:args.length<=n) (ha:∀l∈ai args,l= .par 0) (hc:ai cs=[])
  (hg:go ⟨P,G,n⟩ (eZ rs λx H'=>∃fB,R x fB/\x.aq=[]/\ai fB=[]/\fB.length=cs.length/\H' (.par 0)= .live ⟨cs.length,[fB]⟩) [.code ac] (fH args) (jK cs)):cM P G f args cs R:=by
 refine⟨ha,hc,e_ hF hn ?_ ?_ hg⟩
 ·rintro l ⟨r,h⟩;by_cases e:l= .par 0
  ·subst e;rfl
  rw[jK,an _ _ e] at h;simp[Hp.none] at h
 intro l hl;rw[ha l hl];simp[jK]
def cM.mono {P:Program} {G:Nat->Option (List IV)} {f:Nat} {args cs:List AV} {R R':AV->List AV->Prop} (h:cM P G f args cs R) (hq:∀x c,R x c->R' x c):cM P G f args cs R':=
 ⟨h.1,h.2.1,h.2.2.mono λx H ⟨c,h1,h2⟩=>⟨c,hq _ _ h1,h2⟩⟩
end Go.Am

namespace Go.Am
open Go Go.RowKit
mutual
def norm:AV->AV
 | .nil0=> .list []
 | .agg cs=> .agg (bP cs)
 | .bq cs=> .bq (bP cs)
 |x=>x
def bP:List AV->List AV
 |[]=>[]
 |x::r=>norm x::bP r
end
mutual
theorem uX:∀x:AV,(norm x).aq=x.aq
 | .nil0=>rfl
 | .agg cs=>by simp[norm,AV.aq,rI cs]
 | .bq cs=>by simp[norm,AV.aq,rI cs]
 | .sl ..| .slk ..| .ptr ..| .any| .un| .bool _| .int ..| .str _| .list _| .mT| .jS| .lptr _| .fn ..| .ifc ..| .mis _=>rfl
theorem rI:∀xs:List AV,ai (bP xs)=ai xs
 |[]=>rfl
 |x::r=>by simp[bP,ai,uX x,rI r]
end
mutual
theorem RV.norm {w:World} {β:Lb->Option Nat} {H:Hp} {I:Nat->Prop}:∀(x:AV) (v:Value),RV w β H I x v->RV w β H I (Am.norm x) v
 | .nil0,v,h=>by
  simp only[RV] at h;obtain⟨a,rfl⟩:=h;simp only[Am.norm,RV,iM];exact⟨a,0,rfl,af6 _,akZ,.inl rfl⟩
 | .agg cs,v,h=>by
  simp only[RV,Am.norm] at h ⊢;obtain⟨vs,h1,h2⟩:=h;exact⟨vs,h1,bA.norm cs vs h2⟩
 | .bq cs,v,h=>by
  simp only[RV,Am.norm] at h ⊢;obtain⟨vs,h1,h2⟩:=h;exact⟨vs,h1,bA.norm cs vs h2⟩
 | .sl ..,v,h| .slk ..,v,h| .ptr ..,v,h| .any,v,h| .un,v,h| .bool _,v,h| .int ..,v,h| .str _,v,h| .list _,v,h| .mT,v,h| .jS,v,h| .lptr _,v,h| .fn ..,v,h| .ifc ..,v,h| .mis _,v,h=>h
theorem bA.norm {w:World} {β:Lb->Option Nat} {H:Hp} {I:Nat->Prop}:∀(xs:List AV) (vs:List Value),bA w β H I xs vs->bA w β H I (bP xs) vs
 |[],vs,h=>h
 |x::r,vs,h=>by
  simp only[bA,bP] at h ⊢;obtain⟨v,us,h1,h2,h3⟩:=h;exact⟨v,us,h1,RV.norm x v h2,bA.norm r us h3⟩
end
def er.n {P:Program} {G:Nat->Option (List IV)} {f:Nat} {args:List AV} {H:Hp} {Q:AV->Hp->Prop} (h:er P G f (bP args) H Q):er P G f args H Q:=
 λw A β vs hr hv=>h w A β vs hr (bA.norm _ _ hv)
def er.res {P:Program} {G:Nat->Option (List IV)} {f:Nat} {args:List AV} {H:Hp} {Q:AV->Hp->Prop} (h:er P G f args H Q):er P G f args H λx H'=>∃y,Q y H'/\x=norm y:=by
 intro w A β vs hr hv;refine(h w A β vs hr hv).mono ?_;rintro e w' ⟨v,x,H',β',rfl,h1,h2,h3,h4⟩;exact⟨v,norm x,H',β',rfl,⟨x,h1,rfl⟩,h2,RV.norm _ _ h3,by rw[uX];exact h4⟩
def aj.n {P:Program} {G:Nat->Option (List IV)} {f:Nat} {args:List AV} {res:AV} (h:aj P G f (bP args) res):aj P G f args res:=
 ⟨by have:=h.1;rwa[rI] at this,h.2.1,h.2.2.n⟩
def aj.of {P:Program} {G:Nat->Option (List IV)} {f:Nat} {args B9:List AV} {res:AV} (h:aj P G f B9 res) (e:bP args=B9):aj P G f args res:=aj.n (by rw[e];exact h)
def cO {P:Program} {G:Nat->Option (List IV)} {f:Nat} {n:Nat} {rs:List RO} {ac:AC} {args:List AV} {res:AV}
  (hF:dK P G f=some (n,rs,ac.bare)) (hn:args.length<=n) (hl:ai args=[]) (uj:res.aq=[])
  (hg:go ⟨P,G,n⟩ (eZ rs λx _=>norm x=res) [.code ac] (fH args) Hp.none):aj P G f args res:=
 ⟨hl,uj,((e_ hF hn (λl ⟨r,h⟩=>by simp[Hp.none] at h) ame hg).res).mono λx H ⟨y,h1,h2⟩=>by rw[h2];exact h1⟩
def uY (xs:List IV) (i:Nat):(ak xs)[i]?=xs[i]?.map λy=>y.cells.map IV.dw:=alL
theorem bw (xs:List IV):(ak xs).length=xs.length:=alL
def zq (xs:List IV) (i:Nat) (y:IV):(ak xs).set i (y.cells.map IV.dw)=ak (xs.set i y):=by simp[ak,aiT]
theorem fR (xs ys:List IV):ak (xs++ys)=ak xs++ak ys:=alL
def J' {σ:Type} (d sz:Nat) (ps:σ->List (Nat×AV)) (xs:σ->List IV) (env:Env) (H:Hp) (s:σ) :
 WR d sz ps xs env H s=(NF H/\E4 env (ps s)/\∃n els,env d= .sl (.loc n) sz 0 (xs s).length/\H (.loc n)= .live ⟨sz,els⟩/\els=ak (xs s)):=rfl
def pZ {σ:Type} {d sz:Nat} {ps:σ->List (Nat×AV)} {xs:σ->List IV} {env:Env} {H:Hp} {s:σ} (n:Nat) (h1:NF H) (h2:E4 env (ps s)) (h3:env d= .sl (.loc n) sz 0 (xs s).length)
 (h4:H (.loc n)= .live ⟨sz,ak (xs s)⟩):WR d sz ps xs env H s:=⟨h1,h2,n,_,h3,h4,rfl⟩
theorem nX {sz b d n:Nat} {l:Lb} {els:List (List AV)} {x:IV} {H:Hp} (hl:H l= .live ⟨sz,els⟩) (hn:els.length=n) (he:x.cells.length=sz) (hf:∀z∈x.cells,∀cs,z≠ .agg cs) (hb:(n+1)*b<=140737488355328) (h0:0<b)
  (hd:l≠l.app d) (hu:H (l.app d)= .unused) :
  iQ sz b d (.sl l sz 0 n) (.list [x]) H=some (.sl (l.app d) sz 0 (n+1),aS (aS H l .dead) (l.app d) (.live ⟨sz,els++ak [x]⟩)):=by
 have:=Dk (xs:=[x]) hl (aiD hn.symm) (by intro y hy;simp only[af'] at hy;subst hy;exact he) (by intro y hy;simp only[af'] at hy;subst hy;exact hf) al7 h0 hd hu;rw[this];simp only[agd,agx,agh,afZ,agq,agt];rw[af2 (aiD hn)]
def bX (sz b d k:Nat) (xs:List IV) (x:IV) {n:Nat} {H:Hp} (hl:H (.loc k)= .live ⟨sz,ak xs⟩) (hn:xs.length=n) (he:x.cells.length=sz) (hf:∀z∈x.cells,∀cs,z≠ .agg cs) (hb:(n+1)*b<=140737488355328) (h0:0<b)
  (hd:k≠d) (hu:H (.loc d)= .unused) :
  iQ sz b d (.sl (.loc k) sz 0 n) (.list [x]) H=some (.sl (.loc d) sz 0 (n+1),aS (aS H (.loc k) .dead) (.loc d) (.live ⟨sz,ak (xs++[x])⟩)):=by
 have e:(Lb.loc k).app d= .loc d:=rfl;have:=nX (l:= .loc k) (d:=d) hl (by rw[bw];exact hn) he hf hb h0 (by rw[e];simpa using hd) (by rw[e];exact hu);rw[e] at this;rw[this,fR]

def Vs (H:Hp):List (Lb×Row)->Prop
 |[]=>True
 |(l,r)::t=>H l= .live r/\Vs H t
theorem Vs.rw {H:Hp}:∀{rs:List (Lb×Row)},Vs H rs->eL (aD []) H rs
 |[],_=>trivial
 |(l,r)::t,h=>⟨by show H l= .live (aP id r);rw[Dj];exact h.1,Vs.rw h.2⟩
def WS {σ:Type} (ls:List Lb) (ps:σ->List (Nat×AV)) (rs:σ->List (Lb×Row)) (env:Env) (H:Hp) (s:σ):Prop:=Xf H ls/\E4 env (ps s)/\Vs H (rs s)
def b_ {σ:Type} {S:St} {Q:ir} {c:AC} {k:List It} {env:Env} {H:Hp} (ls:List Lb) (ps:σ->List (Nat×AV)) (rs:σ->List (Lb×Row)) (μ:σ->Nat) (s0:σ)
  (pf:∀s,(rs s).map Prod.fst=ls) (yo:ls.Nodup) (hp:∀s,∀l∈ai ((ps s).map Prod.snd),l∈ls) (hr:∀s,∀q∈rs s,∀cs∈q.2.els,∀l∈ai cs,l∈ls) (h0:WS ls ps rs env H s0)
  (round:∀s,go S (qG S Q k (WS ls ps rs) μ (μ s)) [.code c] (iX (ps s)) (eQ (rs s))):oL S Q c k env H:=by
 refine oN (λs=>iX (ps s)) (λs=>eQ (rs s)) (WS ls ps rs) ?_ μ s0 h0 round;rintro env H s ⟨h1,h2,h3⟩;refine⟨aD [],WRs.wk (m:=[]) ⟨h1,h2.eql,Vs.rw h3,?_,λl _=>⟨id,λ_=>rfl⟩⟩ (pf s) (hp s) (hr s)⟩;have:aD []=id:=rfl;rw[this,ajJ];exact yo
def eu {σ:Type} {ls:List Lb} {ps:σ->List (Nat×AV)} {rs:σ->List (Lb×Row)} {env:Env} {H:Hp} {s:σ} (h1:Xf H ls) (h2:E4 env (ps s)) (h3:Vs H (rs s)):WS ls ps rs env H s:=⟨h1,h2,h3⟩
def aR:eQ []=Hp.none:=rfl
def aI (l:Lb) (r:Row) (t:List (Lb×Row)):eQ ((l,r)::t)=aS (eQ t) l (.live r):=rfl

inductive Tb (k:Bool->Prop):Type
 |mk
def nK (o:Option (List Bool)) (k:Bool->Prop) (_:Tb k):Prop:=∃bs,o=some bs/\∀b∈bs,k b
def Dt {S:St} {env:Env} {H:Hp} (d:Option Nat) (n:Bool) (x:O) (k:AV->Hp->Prop):dX S d (.ZY n x) env H k=nK (By (ev env x)) (λb=>k (.bool (n ^^ b)) H) .mk:=rfl
def yK {xs:List IV} {k:Bool->Prop} {u:Tb k} (h1:xs=[]->k true) (h2:k false):nK (By (.list xs)) k u:=by
 cases xs with
 |nil=>exact⟨_,rfl,λb _=>by cases b;exact h2;exact h1 rfl⟩
 |cons x r=>exact⟨_,rfl,λb hb=>by simp only[af'] at hb;subst hb;exact h2⟩
def lI (sz b d:Nat) (xs:List IV) {H:Hp} (he:dV sz xs) (hf:Flat xs) (hb:xs.length*b<=140737488355328) (h0:0<b) (hu:H (.loc d)= .unused) :
 iQ sz b d .nil0 (.list xs) H=some (.sl (.loc d) sz 0 xs.length,aS H (.loc d) (.live ⟨sz,ak xs⟩)):=J2 he hf hb h0 hu

abbrev Bs:=List UInt8
structure Attr where
 name:Bs
 val:Bs
inductive Tree where
 |mk (text:Bool) (s:Bs) (attrs:List Attr) (kids:List Tree)
def Tree.text:Tree->Bool| .mk t _ _ _=>t
def Tree.s:Tree->Bs| .mk _ s _ _=>s
def Tree.attrs:Tree->List Attr| .mk _ _ a _=>a
def Tree.kids:Tree->List Tree| .mk _ _ _ k=>k
def Attr.cs (a:Attr):List IV:=[.str a.name,.str a.val]
def Attr.iv (a:Attr):IV:= .agg a.cs
def aQ (az:List Attr):List IV:=az.map Attr.iv
mutual
def Tree.iv:Tree->IV
 | .mk t s az ks=> .agg [.bool t,.str s,.list (aQ az),.list (aM ks)]
def aM:List Tree->List IV
 |[]=>[]
 |x::r=>x.iv::aM r
end
def Tree.cs (x:Tree):List IV:=[.bool x.text,.str x.s,.list (aQ x.attrs),.list (aM x.kids)]
def Tree.av (x:Tree):AV:= .agg [.bool x.text,.str x.s,.list (aQ x.attrs),.list (aM x.kids)]
def Tree.mY (x:Tree):x.iv= .agg x.cs:=by cases x;simp[Tree.iv,Tree.cs,Tree.text,Tree.s,Tree.attrs,Tree.kids]
def Tree.ax (x:Tree):x.iv.cells=x.cs:=by rw[Tree.mY];rfl
def Attr.ax (x:Attr):x.iv.cells=x.cs:=rfl
theorem ll:∀xs:List Tree,aM xs=xs.map Tree.iv
 |[]=>by simp[aM]
 |x::r=>by simp[aM,ll r]
def ar (xs:List Tree):(aM xs).length=xs.length:=by simp[ll]
def aE (xs:List Attr):(aQ xs).length=xs.length:=by simp[aQ]
def dc (xs:List Tree) (i:Nat):(aM xs)[i]?=xs[i]?.map Tree.iv:=by simp[ll]
def ln (xs:List Attr) (i:Nat):(aQ xs)[i]?=xs[i]?.map Attr.iv:=by simp[aQ]
def Fa (xs:List Attr) (i:Nat):(aQ xs).take i=aQ (xs.take i):=by simp[aQ,ahH]
def ed (xs ys:List Tree):aM (xs++ys)=aM xs++aM ys:=by simp[ll]
def fa (xs:List Tree):dV 4 (aM xs):=by
 intro x hx;rw[ll] at hx;obtain⟨a,_,rfl⟩:=agp.1 hx;rw[a.ax];rfl
def kx (xs:List Attr):dV 2 (aQ xs):=by
 intro x hx;obtain⟨a,_,rfl⟩:=agp.1 hx;rfl
def Tree.rJ (x:Tree):∀z∈x.cs,∀cs,z≠ .agg cs:=by
 intro z hz cs;simp only[Tree.cs,aga,agf,agI] at hz;rcases hz with rfl|rfl|rfl|rfl<;>simp
def gd (xs:List Tree):Flat (aM xs):=by
 intro x hx;rw[ll] at hx;obtain⟨a,_,rfl⟩:=agp.1 hx;rw[a.ax];exact a.rJ
theorem gn (xs:List Attr):Flat (aQ xs):=by
 intro x hx;obtain⟨a,_,rfl⟩:=agp.1 hx;intro z hz cs;simp only[Attr.ax,Attr.cs,aga,agf,agI] at hz;rcases hz with rfl|rfl<;>simp
def Attr.wt (a:Attr):Nat:=1+a.name.length+a.val.length
def fm:List Attr->Nat
 |[]=>0
 |a::r=>a.wt+fm r
mutual
def Tree.wt:Tree->Nat
 | .mk _ s az ks=>1+s.length+fm az+bH ks
def bH:List Tree->Nat
 |[]=>0
 |x::r=>x.wt+bH r
end
def Tree.dL (x:Tree):x.wt=1+x.s.length+fm x.attrs+bH x.kids:=by cases x;simp[Tree.wt,Tree.s,Tree.attrs,Tree.kids]
theorem fS:∀xs:List Attr,xs.length<=fm xs
 |[]=>by simp[fm]
 |a::r=>by have:=fS r;simp[fm,Attr.wt];omega
theorem bO:∀xs:List Tree,xs.length<=bH xs
 |[]=>by simp[bH]
 |a::r=>by have:=bO r;have:=a.dL;simp[bH];omega
theorem iS:∀(xs:List Tree) (i:Nat) (x:Tree),xs[i]?=some x->x.wt<=bH xs
 |[],i,x,h=>by simp at h
 |a::r,0,x,h=>by simp at h;subst h;simp[bH]
 |a::r,i+1,x,h=>by have:=iS r i x aj6;simp[bH];omega
theorem dQ:∀xs ys:List Tree,bH (xs++ys)=bH xs+bH ys
 |[],ys=>by simp[bH]
 |a::r,ys=>by simp[bH,dQ r ys];omega
def B:Nat:=2^30
def le_max {n:Nat} (h:n<=100):n<=maxLen:=ag' h ajN

open Classical in
noncomputable def Fb {α:Type} (x y:α):Bool:=decide (x=y)
def qJ {α:Type} (x:α):Fb x x=true:=by simp[Fb]
def qK {α:Type} {x y:α} (h:x≠y):Fb x y=false:=by simp[Fb,h]
def Attr.ext {x y:Attr} (h1:x.name=y.name) (h2:x.val=y.val):x=y:=by cases x;cases y;simp_all
def Tree.ext {x y:Tree} (h1:x.text=y.text) (h2:x.s=y.s) (h3:x.attrs=y.attrs) (h4:x.kids=y.kids):x=y:=by
 cases x;cases y;simp_all[Tree.text,Tree.s,Tree.attrs,Tree.kids]
def Vt (xs ys:List IV) (i:Nat):Env:=
 put (put (put (put Env.any 0 (.list xs)) 1 (.list ys)) 12 (.int .i64 xs.length)) 13 (.int .i64 i)
def H8 {P:Program} {G:Nat->Option (List IV)} [KN P G] (xs ys:List Attr) (hx:xs.length<=B) :
  aj P G 43 [.list (aQ xs),.list (aQ ys)] (.bool (Fb xs ys)):=by
 refine au (cw 43 []) ajL ajO ajP ?_;simp only[↓lP,lK,lX,List.take,List.drop,seval,aE];by_cases hl:xs.length=ys.length
 ·rw[show((xs.length:Int) !=(ys.length:Int))=false by simp[hl]];simp only[↓lP,lK,lX,List.take,List.drop,seval,aE];refine jJ (σ:={i:Nat // i<=xs.length/\∀j,j<i->xs[j]?=ys[j]?}) (λs=>Vt (aQ xs) (aQ ys) s.1) (λ_=>Hp.none) (λs=>xs.length - s.1) ⟨0,ajL⟩ id ?_ ?_
  ·refine .none ?_ ?_
   ·exact cz rfl (cz (by simp[tm,aE,aH]) (cz rfl (cz rfl (og _ _))))
   exact O2
  rintro⟨i,hi,hs⟩;simp only[↓lP,lK,lX,List.take,List.drop,seval,Vt,aE];by_cases aF:i<xs.length
  ·rw[dT aF];obtain⟨x,nE⟩:=gE aF;obtain⟨y,zp⟩:∃y,ys[i]?=some y:=⟨_,af7 (hl▸aF)⟩;simp only[↓lP,lK,lX,List.take,List.drop,seval,ln,nE,zp,kx,Attr.ax,Attr.cs,eqs,eq1];refine⟨rfl,?_⟩;by_cases EL:x=y
   ·subst EL;have hw:=w1 i ajZ;rw[show(true ^^ (x.name==x.name&&x.val==x.val))=false by simp];simp only[↓lP,lK,lX,List.take,List.drop,seval,hw];refine⟨⟨i+1,aF,λj hj=> ?_⟩,ajM,id,.none ?_ ?_⟩
    ·by_cases e:j=i
     ·rw[e,nE,zp]
     exact hs j ajK
    ·exact cz rfl (cz (by simp[tm,aE,aH]) (cz rfl (cz rfl (og _ _))))
    exact O2
   have cf:xs≠ys:=λe=>EL anB;have H9:(true ^^ (x.name==y.name&&x.val==y.val))=true:=by
    simp only[Bool.true_xor,aiq,aiO,agZ];by_cases e1:x.name=y.name
    ·exact .inr λe2=>EL (Attr.ext e1 e2)
    exact .inl e1
   rw[H9];simp only[↓lP,lK,lX,List.take,List.drop,seval,qK cf]
  rw[dF aF];simp only[↓lP,lK,lX,List.take,List.drop,seval];have:xs=ys:=agV λj=>by
   by_cases hj:j<i
   ·exact hs j hj
   rw[agK ajK,agK ajK]
  rw[this,qJ]
 rw[show((xs.length:Int) !=(ys.length:Int))=true by simp;omega];have:xs≠ys:=λe=>hl (by rw[e]);simp only[↓lP,lK,lX,List.take,List.drop,seval,qK this]
end Go.Am

namespace Go.Am
open Go Go.RowKit
def fe (c:UInt8):Bool:= !((((c.toNat:Int) !=10))&&(decide ((c.toNat:Int)<32)||decide ((c.toNat:Int)>126)))
def plain (s:Bs):Bool:=s.all fe&&decide ((s.length:Int)<=40)
def Du (s:Bs) (i:Nat):Env:=put (put (put Env.any 0 (.str s)) 5 (.int .i64 s.length)) 6 (.int .i64 i)
def zr {p:UInt8->Bool} {s:Bs} {i:Nat} {c:UInt8} (h:(s.take i).all p=true) (hc:s[i]?=some c) (hp:p c=true):(s.take (i+1)).all p=true:=by
 rw[agz,hc];simp[h,hp]
def yL {p:UInt8->Bool} {s:Bs} {i:Nat} {c:UInt8} (hc:s[i]?=some c) (hp:p c=false):s.all p=false:=by
 cases h:s.all p with
 |false=>rfl
 |true=>
 have:=agJ.1 h c (af3 hc);rw[hp] at this;exact this.symm
def wB {P:Program} {G:Nat->Option (List IV)} [KN P G] (s:Bs) (hx:s.length<=B) :
  aj P G 55 [.str s] (.bool (plain s)):=by
 refine au (cw 55 []) ajL ajO ajP ?_;simp only[↓lP,lK,lX,List.take,List.drop,seval];refine jJ (σ:={i:Nat // i<=s.length/\(s.take i).all fe=true}) (λq=>Du s q.1) (λ_=>Hp.none) (λq=>s.length - q.1) ⟨0,ajL⟩ id ?_ ?_
 ·refine .none ?_ ?_
  ·exact cz rfl (cz rfl (cz rfl (og _ _)))
  exact O7
 rintro⟨i,hi,hs⟩;simp only[↓lP,lK,lX,List.take,List.drop,seval,Du];by_cases aF:i<s.length
 ·rw[dT aF];obtain⟨c,hc⟩:=gE aF;have hw:=w1 i ajZ;have next:fe c=true->∃q:{i:Nat // i<=s.length/\(s.take i).all fe=true},q.1=i+1:=λhp=>⟨⟨i+1,aF,zr hs hc hp⟩,rfl⟩
  simp only[↓lP,lK,lX,List.take,List.drop,seval,hc];cases h1:((c.toNat:Int) !=10) with
  |false=>
   obtain⟨q,hq⟩:=next (by simp[fe,h1])
   simp only[↓lP,lK,lX,List.take,List.drop,seval,hc,hw];refine⟨q,ajK,id,.none ?_ ?_⟩
   ·exact XQ
   exact O7
  |true=>
  simp only[↓lP,lK,lX,List.take,List.drop,seval,hc];cases h2:decide ((c.toNat:Int)<32) with
  |true=>
   simp only[↓lP,lK,lX,List.take,List.drop,seval,hc];rw[plain,yL hc (by simp[fe,h1,h2])];rfl
  |false=>
  simp only[↓lP,lK,lX,List.take,List.drop,seval,hc];cases h3:decide ((c.toNat:Int)>126) with
  |true=>
   simp only[↓lP,lK,lX,List.take,List.drop,seval,hc];rw[plain,yL hc (by simp[fe,h1,h2,h3])];rfl
  |false=>
  obtain⟨q,hq⟩:=next (by simp[fe,h1,h2,h3])
  simp only[↓lP,lK,lX,List.take,List.drop,seval,hc,hw];refine⟨q,ajK,id,.none ?_ ?_⟩
  ·exact XQ
  exact O7
 rw[dF aF];simp only[↓lP,lK,lX,List.take,List.drop,seval];have:s.take i=s:=af2 ajK;rw[plain,<-this,hs,this];rfl
def mh (c:UInt8):Bool:= !(decide ((c.toNat:Int)<97)||decide ((c.toNat:Int)>122))
def named (s:Bs):Bool:=s.all mh&&(decide ((s.length:Int)>=1)&&decide ((s.length:Int)<=8))
def wC {P:Program} {G:Nat->Option (List IV)} [KN P G] (s:Bs) (hx:s.length<=B) :
  aj P G 88 [.str s] (.bool (named s)):=by
 refine au (cw 88 []) ajL ajO ajP ?_;simp only[↓lP,lK,lX,List.take,List.drop,seval];refine jJ (σ:={i:Nat // i<=s.length/\(s.take i).all mh=true}) (λq=>Du s q.1) (λ_=>Hp.none) (λq=>s.length - q.1) ⟨0,ajL⟩ id ?_ ?_
 ·refine .none ?_ ?_
  ·exact cz rfl (cz rfl (cz rfl (og _ _)))
  exact O7
 rintro⟨i,hi,hs⟩;simp only[↓lP,lK,lX,List.take,List.drop,seval,Du];by_cases aF:i<s.length
 ·rw[dT aF];obtain⟨c,hc⟩:=gE aF;have hw:=w1 i ajZ;have next:mh c=true->∃q:{i:Nat // i<=s.length/\(s.take i).all mh=true},q.1=i+1:=λhp=>⟨⟨i+1,aF,zr hs hc hp⟩,rfl⟩
  simp only[↓lP,lK,lX,List.take,List.drop,seval,hc];cases h1:decide ((c.toNat:Int)<97) with
  |true=>
   simp only[↓lP,lK,lX,List.take,List.drop,seval,hc];rw[named,yL hc (by simp[mh,h1])];rfl
  |false=>
  simp only[↓lP,lK,lX,List.take,List.drop,seval,hc];cases h2:decide ((c.toNat:Int)>122) with
  |true=>
   simp only[↓lP,lK,lX,List.take,List.drop,seval,hc];rw[named,yL hc (by simp[mh,h1,h2])];rfl
  |false=>
  obtain⟨q,hq⟩:=next (by simp[mh,h1,h2])
  simp only[↓lP,lK,lX,List.take,List.drop,seval,hc,hw];refine⟨q,ajK,id,.none ?_ ?_⟩
  ·exact XQ
  exact O7
 rw[dF aF];have bV:s.all mh=true:=by
  have:s.take i=s:=af2 ajK;rw[<-this,hs]
 simp only[↓lP,lK,lX,List.take,List.drop,seval];cases h1:decide ((s.length:Int)>=1) with
 |true=>
  simp only[↓lP,lK,lX,List.take,List.drop,seval];rw[named,bV,h1];rfl
 |false=>
 simp only[↓lP,lK,lX,List.take,List.drop,seval];rw[named,bV,h1];rfl

def fI (az:List Attr) (i:Nat):Bool:=
 match az[i]? with
 |some a=>named a.name&&(plain a.val&&(i==0||match az[i - 1]? with|some p=>Op.bytesLess p.name a.name|none=>true))
 |none=>true
def cR (az:List Attr):Bool:=(List.range az.length).all (fI az)&&decide ((az.length:Int)<=4)
def zu (az:List Attr) (i:Nat):Env:=put (put (put (put Env.any 0 (.list (aQ az))) 5 (.list (aQ az))) 6 (.int .i64 az.length)) 7 (.int .i64 i)
def Wk.drop {env env2:Env} {H:Hp} (e:∀n,env2 n= .any\/env n=aH id (env2 n)) (m:∀n,∀l∈(env2 n).aq,Hp.none l≠ .unused) (hn:∀l:Lb,l.fresh=false->H l= .unused):Wk id env H env2 Hp.none:=
 ⟨e,λl r h=>by simp[Hp.none] at h,λ_ _ ⟨r,h⟩=>by simp[Hp.none] at h,m,λl r h=>by simp[Hp.none] at h,λl hl=>⟨λh=>absurd (hn l (Lb.lC hl)) h,λ_=>rfl⟩,λl ⟨r,h⟩=>by simp[Hp.none] at h⟩
def B_ {p:Nat->Bool} {n i:Nat} (hi:i<n) (hp:p i=false):(List.range n).all p=false:=by
 cases h:(List.range n).all p with
 |false=>rfl
 |true=>
 have:=agJ.1 h i alx;rw[hp] at this;exact this.symm
def zv {P:Program} {G:Nat->Option (List IV)} [KN P G] (az:List Attr) (hx:az.length<=B)
  (hN:∀a∈az,aj P G 88 [.str a.name] (.bool (named a.name))) (hP:∀a∈az,aj P G 55 [.str a.val] (.bool (plain a.val))) :
  aj P G 147 [.list (aQ az)] (.bool (cR az)):=by
 refine au (cw 147 [.f 12 1 (.rw [.loc 4] []),.f 12 6 (.rw [.loc 4] []),.f 12 21 (.rw [.loc 4] [])]) ajL ajO ajP ?_;simp only[↓lP,lK,lX,List.take,List.drop,seval,aE];refine jJ (σ:={i:Nat // i<=az.length/\∀j,j<i->fI az j=true}) (λq=>zu az q.1) (λ_=>Hp.none) (λq=>az.length - q.1) ⟨0,ajL⟩ id ?_ ?_
 ·refine .none ?_ ?_
  ·exact Ta
  exact O2
 rintro⟨i,hi,hs⟩;simp only[↓lP,lK,lX,List.take,List.drop,seval,zu,aE];by_cases aF:i<az.length
 ·rw[dT aF];obtain⟨a,ha⟩:=gE aF;have hw:=w1 i ajZ;simp only[↓lP,lK,lX,List.take,List.drop,seval,ln,ha,kx,Attr.ax,Attr.cs];refine⟨le_max ajN,rfl,dG (hN a (af3 ha)) ?_⟩;have next:fI az i=true->∃q:{i:Nat // i<=az.length/\∀j,j<i->fI az j=true},q.1=i+1:=λhp=>⟨⟨i+1,aF,λj hj=>by
   by_cases e:j=i
   ·rw[e];exact hp
   exact hs j ajK⟩,rfl⟩
  have stop:fI az i=false->cR az=false:=λhp=>by rw[cR,B_ aF hp];rfl
  have kn:fI az i=(named a.name&&(plain a.val&&(i==0||match az[i - 1]? with|some p=>Op.bytesLess p.name a.name|none=>true))):=by unfold fI;rw[ha]
  cases h1:named a.name with
  |false=>
   simp only[↓lP,lK,lX,List.take,List.drop,seval,af1];rw[stop (by rw[kn,h1];rfl)]
  |true=>
  simp only[↓lP,lK,lX,List.take,List.drop,seval,af4];refine dG (hP a (af3 ha)) ?_;cases h2:plain a.val with
  |false=>
   simp only[↓lP,lK,lX,List.take,List.drop,seval,af1];rw[stop anI]
  |true=>
  simp only[↓lP,lK,lX,List.take,List.drop,seval,af4];by_cases h3:i=0
  ·subst h3;rw[show decide (((0:Nat):Int)>0)=false by simp];obtain⟨q,hq⟩:=next anI
   simp only[↓lP,lK,lX,List.take,List.drop,seval,hw];refine⟨q,ajK,id,.drop ?_ ?_ ?_⟩
   ·exact O9
   ·exact O2
   exact gj (gj mn)
  rw[show decide ((i:Int)>0)=true by simp;omega];obtain⟨p,hp⟩:∃p,az[i - 1]?=some p:=⟨_,af7 ajK⟩;have gz:IntKind.i64.wrap ((i:Int) - 1)=((i - 1:Nat):Int):=akr
  simp only[↓lP,lK,lX,List.take,List.drop,seval,gz,ln,hp,kx,Attr.ax,Attr.cs];cases h4:Op.bytesLess p.name a.name with
  |false=>
   simp only[↓lP,lK,lX,List.take,List.drop,seval,af1];rw[stop (by rw[kn,h1,h2,hp];simp[h3,h4])]
  |true=>
  obtain⟨q,hq⟩:=next (by rw[kn,h1,h2,hp];simp[h4])
  simp only[↓lP,lK,lX,List.take,List.drop,seval,af4,hw];refine⟨q,ajK,id,.drop ?_ ?_ ?_⟩
  ·exact O9
  ·exact O2
  exact gj (gj mn)
 rw[dF aF];simp only[↓lP,lK,lX,List.take,List.drop,seval,aE];have:(List.range az.length).all (fI az)=true:=by
  rw[agJ];intro j hj;exact hs j (by simp at hj;omega)
 rw[cR,this];rfl

mutual
def Tree.dep:Tree->Nat
 | .mk _ _ _ ks=>gU ks+1
def gU:List Tree->Nat
 |[]=>0
 |x::r=>max x.dep (gU r)
end
mutual
def Tree.cC:Tree->Nat
 | .mk _ _ _ ks=>aJ ks+1
def aJ:List Tree->Nat
 |[]=>0
 |x::r=>x.cC+aJ r
end
def Tree.qL (x:Tree):x.dep=gU x.kids+1:=by cases x;simp[Tree.dep,Tree.kids]
def Tree.ff (x:Tree):x.cC=aJ x.kids+1:=by cases x;simp[Tree.cC,Tree.kids]
theorem uZ:∀xs ys:List Tree,gU (xs++ys)=max (gU xs) (gU ys)
 |[],ys=>by simp[gU]
 |x::r,ys=>by simp only[List.cons_append,gU,uZ r ys];omega
theorem dM:∀xs ys:List Tree,aJ (xs++ys)=aJ xs+aJ ys
 |[],ys=>by simp[aJ]
 |x::r,ys=>by simp[aJ,dM r ys];omega
mutual
theorem Tree.Pd:∀x:Tree,x.dep<=x.wt
 | .mk _ _ _ ks=>by have:=yM ks;simp only[Tree.dep,Tree.wt];omega
theorem yM:∀xs:List Tree,gU xs<=bH xs
 |[]=>by simp[gU]
 |x::r=>by have:=x.Pd;have:=yM r;simp only[gU,bH];omega
end
mutual
theorem Tree.wD:∀x:Tree,x.cC<=x.wt
 | .mk _ _ _ ks=>by have:=mo ks;simp only[Tree.cC,Tree.wt];omega
theorem mo:∀xs:List Tree,aJ xs<=bH xs
 |[]=>by simp[aJ]
 |x::r=>by have:=x.wD;have:=mo r;simp only[aJ,bH];omega
end
def ey (xs:List Tree) (i:Nat):bH (xs.take i)<=bH xs:=by
 have:=dQ (xs.take i) (xs.drop i);rw[agD] at this;omega
def a_ {env:Env} {H:Hp} (t u:Nat) (R:AV->Hp->Prop):eZ [(none,t),(none,u)] R .ret env H=R (.bq [env t,env u]) H:=ami
def Fc (ks:List Tree) (i:Nat):Env:=put (put (put (put (put Env.any 4 (.int .i64 (gU (ks.take i)))) 5 (.int .i64 ((aJ (ks.take i)+1:Nat):Int))) 11 (.list (aM ks))) 12 (.int .i64 ks.length)) 13 (.int .i64 i)
def abC {P:Program} {G:Nat->Option (List IV)} [KN P G] (x:Tree) (hx:x.wt<=B)
  (hS:∀k∈x.kids,aj P G 92 [k.av] (.bq [.int .i64 k.dep,.int .i64 k.cC])) :
  aj P G 92 [x.av] (.bq [.int .i64 x.dep,.int .i64 x.cC]):=by
 refine au (cw 92 []) ajL akb ajU ?_;have hk:bH x.kids<=B:=alI
 have hl:x.kids.length<=B:=ag' (bO _) hk;simp only[↓lP,lK,lX,List.take,List.drop,seval,Tree.av,ar];refine⟨le_max ajN,?_⟩;refine jJ (σ:={i:Nat // i<=x.kids.length}) (λq=>Fc x.kids q.1) (λ_=>Hp.none) (λq=>x.kids.length - q.1) ⟨0,ajL⟩ id ?_ ?_
 ·refine .drop ?_ ?_ (gj mn)
  ·exact cz rfl (cz rfl (cz rfl (cz (by simp[tm,aH,aJ]) (cz (by simp[tm,aH,gU]) (og _ _)))))
  exact abk
 rintro⟨i,hi⟩;simp only[↓lP,lK,lX,List.take,List.drop,seval,Fc,ar];by_cases aF:i<x.kids.length
 ·rw[dT aF];obtain⟨k,wE⟩:∃k,x.kids[i]?=some k:=⟨_,af7 aF⟩;have hw:=w1 i (by unfold B at hl;omega);simp only[↓lP,lK,lX,List.take,List.drop,seval,dc,wE,fa,Tree.ax,Tree.cs];refine⟨le_max ajN,ah (hS k (af3 wE)) ?_⟩;have h1:x.kids.take (i+1)=x.kids.take i++[k]:=by rw[agz,wE];rfl
  have h2:=ey x.kids i;have h3:=mo (x.kids.take i);have h4:=yM (x.kids.take i);have h5:=iS _ _ _ wE;have h6:=k.wD;have hc:IntKind.i64.wrap (((aJ (x.kids.take i)+1:Nat):Int)+(k.cC:Int))=((aJ (x.kids.take (i+1))+1:Nat):Int):=by
   rw[wrap64 ajK (by unfold B at hk;omega),h1,dM];simp[aJ];omega
  have hd:(if(k.dep:Int)>(gU (x.kids.take i):Int) then(k.dep:Int) else(gU (x.kids.take i):Int))=(gU (x.kids.take (i+1)):Int):=by
   rw[h1,uZ];simp only[gU];split<;>omega
  simp only[↓lP,lK,lX,List.take,List.drop,seval,hw,hc,hd];refine⟨⟨i+1,aF⟩,ajM,id,.drop ?_ ?_ (gj (gj mn))⟩
  ·exact cz rfl (cz rfl (cz rfl (cz rfl (cz rfl (og _ _)))))
  exact abk
 rw[dF aF];have h1:x.kids.take i=x.kids:=af2 ajK;have h4:=yM x.kids;have hd:IntKind.i64.wrap ((gU x.kids:Int)+1)=(x.dep:Int):=by rw[wrap64 ajK (by unfold B at hk;omega),x.qL];omega
 simp only[↓lP,lK,lX,List.take,List.drop,seval,↓a_,h1,hd,x.ff]

mutual
def Tree.iu:Tree->Bool
 | .mk t s az ks=>if t then plain s&&(s !=[]&&(az.length==0&&ks.length==0)) else named s&&(cR az&&cD none ks)
def cD:Option Bool->List Tree->Bool
 |_,[]=>true
 |p,x::r=>x.iu&&(!(p==some true&&x.text)&&cD (some x.text) r)
end
def Tree.zw (x:Tree) (h:x.text=true):x.iu=(plain x.s&&(x.s !=[]&&(x.attrs.length==0&&x.kids.length==0))):=by
 cases x;simp only[Tree.text] at h;subst h;simp[Tree.iu,Tree.s,Tree.attrs,Tree.kids]
theorem Tree.tu (x:Tree) (h:x.text=false):x.iu=(named x.s&&(cR x.attrs&&cD none x.kids)):=by
 cases x;simp only[Tree.text] at h;subst h;simp[Tree.iu,Tree.s,Tree.attrs,Tree.kids]
def Vu {P:Program} {G:Nat->Option (List IV)} [KN P G] (x:Tree)
  (hP:aj P G 55 [.str x.s] (.bool (plain x.s))) (hN:aj P G 88 [.str x.s] (.bool (named x.s))) (hA:aj P G 147 [.list (aQ x.attrs)] (.bool (cR x.attrs)))
  (hFs:aj P G 93 [.list (aM x.kids)] (.bool (cD none x.kids))):aj P G 106 [x.av] (.bool x.iu):=by
 refine au (cw 106 []) ajL akb ajP ?_;simp only[↓lP,lK,lX,List.take,List.drop,seval,Tree.av];refine⟨le_max ajN,?_⟩;cases h0:x.text with
 |true=>
  rw[x.zw h0];simp only[↓lP,lK,lX,List.take,List.drop,seval];refine ah hP ?_;cases h1:plain x.s with
  |false=>simp only[↓lP,lK,lX,List.take,List.drop,seval,aha]
  |true=>
  simp only[↓lP,lK,lX,List.take,List.drop,seval];cases h2:(!(x.s==[])) with
  |false=>
   simp only[↓lP,lK,lX,List.take,List.drop,seval];rw[show(x.s !=[])=false from h2];rfl
  |true=>
  simp only[↓lP,lK,lX,List.take,List.drop,seval,aE,ar];rw[show(x.s !=[])=true from h2];have e1:((x.attrs.length:Int)==0)=(x.attrs.length==0):=by
   rw[agP];simp
  have e2:((x.kids.length:Int)==0)=(x.kids.length==0):=by
   rw[agP];simp
  rw[e1];cases h3:(x.attrs.length==0) with
  |false=>simp only[↓lP,lK,lX,List.take,List.drop,seval,aha]
  |true=>simp only[↓lP,lK,lX,List.take,List.drop,seval,ar,e2]
 |false=>
 rw[x.tu h0];simp only[↓lP,lK,lX,List.take,List.drop,seval];refine ah hN ?_;cases h1:named x.s with
 |false=>simp only[↓lP,lK,lX,List.take,List.drop,seval,aha]
 |true=>
 simp only[↓lP,lK,lX,List.take,List.drop,seval];refine ah hA ?_;cases h2:cR x.attrs with
 |false=>simp only[↓lP,lK,lX,List.take,List.drop,seval,aha]
 |true=>
 simp only[↓lP,lK,lX,List.take,List.drop,seval];refine ah hFs ?_;simp only[↓lP,lK,lX,List.take,List.drop,seval]
def sR (ks:List Tree) (i:Nat):Option Bool:=if i=0 then none else(ks[i - 1]?).map Tree.text
def Dv (ks:List Tree) (i:Nat):Env:=put (put (put (put Env.any 0 (.list (aM ks))) 5 (.list (aM ks))) 6 (.int .i64 ks.length)) 7 (.int .i64 i)
def XY {P:Program} {G:Nat->Option (List IV)} [KN P G] (ks:List Tree) (hx:ks.length<=B)
  (hK:∀k∈ks,aj P G 106 [k.av] (.bool k.iu)):aj P G 93 [.list (aM ks)] (.bool (cD none ks)):=by
 refine au (cw 93 []) ajL ajO ajP ?_;simp only[↓lP,lK,lX,List.take,List.drop,seval,ar];refine jJ (σ:={i:Nat // i<=ks.length/\cD none ks=cD (sR ks i) (ks.drop i)}) (λq=>Dv ks q.1) (λ_=>Hp.none) (λq=>ks.length - q.1) ⟨0,by simp[sR]⟩ id ?_ ?_
 ·refine .none ?_ ?_
  ·exact Ta
  exact O2
 rintro⟨i,hi,hs⟩;simp only[↓lP,lK,lX,List.take,List.drop,seval,Dv,ar];by_cases aF:i<ks.length
 ·rw[dT aF];obtain⟨k,hk⟩:=gE aF;have hw:=w1 i ajZ;have hd:ks.drop i=k::ks.drop (i+1):=by
   rw[ag1 aF];rw[af7 aF] at hk;cases hk;rfl
  have fE:sR ks (i+1)=some k.text:=by simp[sR,hk]
  have ka:cD none ks=(k.iu&&(!(sR ks i==some true&&k.text)&&cD (some k.text) (ks.drop (i+1)))):=by rw[hs,hd];simp only[cD]
  have next:(k.iu&& !(sR ks i==some true&&k.text))=true->∃q:{i:Nat // i<=ks.length/\cD none ks=cD (sR ks i) (ks.drop i)},q.1=i+1:=λh=>by
   rw[agm] at h;exact⟨⟨i+1,aF,by rw[fE,ka,h.1,h.2];rfl⟩,rfl⟩
  simp only[↓lP,lK,lX,List.take,List.drop,seval,dc,hk,fa,Tree.ax,Tree.cs];refine⟨le_max ajN,ah (hK k (af3 hk)) ?_⟩;cases h1:k.iu with
  |false=>
   simp only[↓lP,lK,lX,List.take,List.drop,seval,af1];rw[ka,h1];rfl
  |true=>
  simp only[↓lP,lK,lX,List.take,List.drop,seval,af4];by_cases h3:i=0
  ·subst h3;rw[show decide (((0:Nat):Int)>0)=false by simp];obtain⟨q,hq⟩:=next (by rw[h1];simp[sR])
   simp only[↓lP,lK,lX,List.take,List.drop,seval,hw];refine⟨q,ajK,id,.drop ?_ ?_ ?_⟩
   ·exact O9
   ·exact O2
   exact gj (gj mn)
  rw[show decide ((i:Int)>0)=true by simp;omega];obtain⟨p,hp⟩:∃p,ks[i - 1]?=some p:=⟨_,af7 ajK⟩;have Sb:sR ks i=some p.text:=by simp[sR,h3,hp]
  have gz:IntKind.i64.wrap ((i:Int) - 1)=((i - 1:Nat):Int):=akr
  simp only[↓lP,lK,lX,List.take,List.drop,seval];cases h2:k.text with
  |false=>
   obtain⟨q,hq⟩:=next (by rw[h1,h2];simp)
   simp only[↓lP,lK,lX,List.take,List.drop,seval,hw];refine⟨q,ajK,id,.drop ?_ ?_ ?_⟩
   ·exact O9
   ·exact O2
   exact gj (gj mn)
  |true=>
  simp only[↓lP,lK,lX,List.take,List.drop,seval,gz,dc,hp,fa,Tree.ax,Tree.cs];cases h4:p.text with
  |true=>
   simp only[↓lP,lK,lX,List.take,List.drop,seval];rw[ka,Sb,h1,h2,h4];rfl
  |false=>
  obtain⟨q,hq⟩:=next (by rw[h1,h2,Sb,h4];rfl)
  simp only[↓lP,lK,lX,List.take,List.drop,seval,hw];refine⟨q,ajK,id,.drop ?_ ?_ ?_⟩
  ·exact O9
  ·exact O2
  exact gj (gj mn)
 rw[dF aF];simp only[↓lP,lK,lX,List.take,List.drop,seval,ar];rw[hs,aio ajK];rfl
def Tree.cA (x:Tree):Bool:= !x.text&&(decide ((x.dep:Int)<=8)&&(decide ((x.cC:Int)<=80)&&x.iu))
def Vv {P:Program} {G:Nat->Option (List IV)} [KN P G] (x:Tree)
  (hS:aj P G 92 [x.av] (.bq [.int .i64 x.dep,.int .i64 x.cC])) (hK:aj P G 106 [x.av] (.bool x.iu)):aj P G 67 [x.av] (.bool x.cA):=by
 refine au (cw 67 []) ajL akb ajP ?_;simp only[↓lP,lK,lX,List.take,List.drop,seval,Tree.av];refine⟨le_max ajN,ah hS ?_⟩;simp only[↓lP,lK,lX,List.take,List.drop,seval];cases h0:x.text with
 |true=>
  simp only[↓lP,lK,lX,List.take,List.drop,seval,af4];simp[Tree.cA,h0]
 |false=>
 simp only[↓lP,lK,lX,List.take,List.drop,seval,af1];cases h1:decide ((x.dep:Int)<=8) with
 |false=>
  simp only[↓lP,lK,lX,List.take,List.drop,seval];rw[Tree.cA,h0,h1];rfl
 |true=>
 simp only[↓lP,lK,lX,List.take,List.drop,seval];cases h2:decide ((x.cC:Int)<=80) with
 |false=>
  simp only[↓lP,lK,lX,List.take,List.drop,seval];rw[Tree.cA,h0,h1,h2];rfl
 |true=>
 simp only[↓lP,lK,lX,List.take,List.drop,seval];refine ah (by rw[<-h0];exact hK) ?_;simp only[↓lP,lK,lX,List.take,List.drop,seval];rw[Tree.cA,h0,h1,h2];rfl

structure Node where
 text:Bool
 s:Bs
 attrs:List Attr
 parent:Int
 kids:List Int
abbrev Doc:=List Node
def aC (n:Int):IV:= .int .i64 n
def Node.cs (x:Node):List IV:=[.bool x.text,.str x.s,.list (aQ x.attrs),.int .i64 x.parent,.list (x.kids.map aC)]
def Node.iv (x:Node):IV:= .agg x.cs
def Node.av (x:Node):AV:= .agg [.bool x.text,.str x.s,.list (aQ x.attrs),.int .i64 x.parent,.list (x.kids.map aC)]
def Node.ax (x:Node):x.iv.cells=x.cs:=rfl
def zx {α:Type} (f:α->IV) (n:Nat) (h:∀x,(f x).cells.length=n) (xs:List α):dV n (xs.map f):=by
 intro x hx
 grind
def u0 {α:Type} (f:α->IV) (h:∀x,∀z∈(f x).cells,∀cs,z≠ .agg cs) (xs:List α):Flat (xs.map f):=by
 intro x hx
 grind
def mi (xs:List Int):dV 1 (xs.map aC):=zx aC 1 (λ_=>rfl) xs
theorem mj (xs:List Int):Flat (xs.map aC):=u0 _ (by intro x z hz cs;simp[aC,IV.cells] at hz;subst hz;simp) _
def Node.rJ (x:Node):∀z∈x.cs,∀cs,z≠ .agg cs:=by
 simp[Node.cs,aga,agf]
def iY (xs:List Node):dV 5 (xs.map Node.iv):=zx Node.iv 5 (λ_=>rfl) xs
def J_ (xs:List Node):Flat (xs.map Node.iv):=u0 _ (λx=>x.rJ) _
def Node.ext' {x y:Node} (h1:x.text=y.text) (h2:x.s=y.s) (h3:x.attrs=y.attrs) (h4:x.parent=y.parent) (h5:x.kids=y.kids):x=y:=by
 cases x;cases y;simp_all
def aG (off:Nat):List Tree->List Int
 |[]=>[]
 |k::r=>(off:Int)::aG (off+k.cC) r
mutual
def Tree.flat (off:Nat) (p:Int):Tree->List Node
 | .mk t s az ks=>⟨t,s,az,p,aG (off+1) ks⟩::ct (off+1) off ks
def ct (off:Nat) (p:Nat):List Tree->List Node
 |[]=>[]
 |k::r=>k.flat off p++ct (off+k.cC) p r
end
def Tree.node (off:Nat) (p:Int) (x:Tree):Node:=⟨x.text,x.s,x.attrs,p,aG (off+1) x.kids⟩
def Tree.nY (off:Nat) (p:Int) (x:Tree):x.flat off p=x.node off p::ct (off+1) off x.kids:=by
 cases x;simp[Tree.flat,Tree.node,Tree.text,Tree.s,Tree.attrs,Tree.kids]
mutual
theorem Tree.dY (off:Nat) (p:Int):∀x:Tree,(x.flat off p).length=x.cC
 | .mk t s az ks=>by simp[Tree.flat,Tree.cC,jV (off+1) off ks]
theorem jV (off:Nat) (p:Nat):∀xs:List Tree,(ct off p xs).length=aJ xs
 |[]=>by simp[ct,aJ]
 |k::r=>by simp[ct,aJ,k.dY,jV _ p r]
end
theorem ek:∀(off:Nat) (xs:List Tree),(aG off xs).length=xs.length
 |_,[]=>rfl
 |off,k::r=>by simp[aG,ek _ r]
theorem mE:∀(off p:Nat) (xs ys:List Tree),ct off p (xs++ys)=ct off p xs++ct (off+aJ xs) p ys
 |off,p,[],ys=>by simp[ct,aJ]
 |off,p,k::r,ys=>by simp[ct,aJ,mE _ p r ys,agT]
theorem mZ:∀(off:Nat) (xs ys:List Tree),aG off (xs++ys)=aG off xs++aG (off+aJ xs) ys
 |off,[],ys=>by simp[aG,aJ]
 |off,k::r,ys=>by simp[aG,aJ,mZ _ r ys,agT]
def ay (x:Tree):Doc:=x.flat 0 (-1)
def Tree.ca (x:Tree):0<x.cC:=by rw[x.ff];omega

def Ka {P:Program} {G:Nat->Option (List IV)} [KN P G] (xs:List Attr) (hx:xs.length<=B):aj P G 45 [.list (aQ xs)] (.list (aQ xs)):=by
 refine cO (cw 45 [.r (.tj (.loc 7) 2)]) ajL ajO ajP ?_;simp only[↓aX,mX,seval,Dt];refine yK (λh=> ?_) ?_
 ·simp only[↓aX,mX,seval,norm,h]
 simp only[↓aX,mX,seval,norm];rw[lI 2 32 7 (aQ xs) (kx _) (gn _) anC ajN rfl];simp only[↓aX,mX,seval,norm];exact⟨2,aQ xs,0,_,rfl,rfl,ajL,gn _,ajL⟩
def Tc {P:Program} {G:Nat->Option (List IV)} [KN P G] (xs:List Int) (hx:xs.length<=B):aj P G 46 [.list (xs.map aC)] (.list (xs.map aC)):=by
 refine cO (cw 46 [.r (.tj (.loc 7) 2)]) ajL ajO ajP ?_;simp only[↓aX,mX,seval,Dt];refine yK (λh=> ?_) ?_
 ·simp only[↓aX,mX,seval,norm,h]
 simp only[↓aX,mX,seval,norm];rw[lI 1 8 7 (xs.map aC) (mi _) (mj _) anD ajN rfl];simp only[↓aX,mX,seval,norm];exact⟨1,xs.map aC,0,_,rfl,rfl,ajL,mj _,by rw[agj,af2 ajL]⟩

def Td (sz b d:Nat) (l:Lb) (xs:List IV) (x:IV) {n:Nat} {H:Hp} (hf:l.fresh=false) (hl:H l= .live ⟨sz,ak xs⟩) (hn:xs.length=n) (he:x.cells.length=sz) (ux:∀z∈x.cells,∀cs,z≠ .agg cs) (hb:(n+1)*b<=140737488355328) (h0:0<b)
  (hd:l≠ .gen d) (hu:H (.gen d)= .unused) :
  iQ sz b d (.sl l sz 0 n) (.list [x]) H=some (.sl (.gen d) sz 0 (n+1),aS (aS H l .dead) (.gen d) (.live ⟨sz,ak (xs++[x])⟩)):=by
 grind [Lb.app,nX,bw,fR]
def cU (u:Lb->Bool) (rs:List (Lb×Row)):Hp:=λq=>match eQ rs q with
 | .unused=>if u q then .dead else .unused
 |s=>s
def bg {u:Lb->Bool} {rs:List (Lb×Row)} {l:Lb} {r:Row}:cU u rs l= .live r↔eQ rs l= .live r:=by
 unfold cU
 grind
def lJ {u:Lb->Bool} {rs:List (Lb×Row)} {l:Lb} (h:l∈rs.map Prod.fst\/u l=true):cU u rs l≠ .unused:=by
 grind [cU,qI,eQ,live]
def eF {u:Lb->Bool} {rs:List (Lb×Row)} {l:Lb} (h:l∉rs.map Prod.fst):cU u rs l=if u l then .dead else .unused:=by
 have:eQ rs l= .unused:=by
  induction rs with
  |nil=>rfl
  |cons p t ih=>
  simp_all[agC,aga,eQ,aS]
 grind [cU]
structure WU (ls:List Lb) (u:Lb->Bool) (ps:List (Nat×AV)) (rs:List (Lb×Row)) (env:Env) (H:Hp) (m:List (Lb×Lb)):Prop where
 nf:∀l:Lb,l.fresh=false->H l≠ .unused->l∈ls\/u l=true
 e:dp (aD m) env ps
 r:eL (aD m) H rs
 inj:(ls.map (aD m)).Nodup
 fr:∀l∈ls,(l.fresh=true->(aD m l).fresh=true)/\(l.fresh=false->aD m l=l)
def WU.wk {ls:List Lb} {u:Lb->Bool} {ps:List (Nat×AV)} {rs:List (Lb×Row)} {env:Env} {H:Hp} {m:List (Lb×Lb)} (h:WU ls u ps rs env H m) (pf:rs.map Prod.fst=ls) (hp:∀l∈ai (ps.map Prod.snd),l∈ls)
  (hr:∀q∈rs,∀cs∈q.2.els,∀l∈ai cs,l∈ls):Wk (aD m) env H (iX ps) (cU u rs):=by
 have zn:∀l,live (cU u rs) l->l∈ls:=λl ⟨r,h⟩=>by rw[<-pf];exact agp.2 ⟨_,fQ (bg.1 h),rfl⟩
 refine⟨h.e.we,λl r hl=>yH h.r (fQ (bg.1 hl)),λl l' h1 h2 e=>jy h.inj l (zn l h1) l' (zn l' h2) e,tn λl hl=>lJ (.inl ajV),λl r hl cs aZ q hq=> ?_,
  λl hf=>⟨λhu=> ?_,λhl=>(h.fr l (zn l hl)).2 (Lb.lC hf)⟩,λl hl hf=>(h.fr l (zn l hl)).1 hf⟩
 ·exact lJ (.inl al3)
 exact lJ amN
def br {σ:Type} {S:St} {Q:ir} {c:AC} {k:List It} {env:Env} {H:Hp} (ls:σ->List Lb) (u:σ->Lb->Bool) (ps:σ->List (Nat×AV)) (rs:σ->List (Lb×Row)) (μ:σ->Nat) (s0:σ)
  (pf:∀s,(rs s).map Prod.fst=ls s) (hp:∀s,∀l∈ai ((ps s).map Prod.snd),l∈ls s) (hr:∀s,∀q∈rs s,∀cs∈q.2.els,∀l∈ai cs,l∈ls s) (h0:∃m,WU (ls s0) (u s0) (ps s0) (rs s0) env H m)
  (round:∀s,go S (qG S Q k (λenv H s=>∃m,WU (ls s) (u s) (ps s) (rs s) env H m) μ (μ s)) [.code c] (iX (ps s)) (cU (u s) (rs s))):oL S Q c k env H:=
 oN (λs=>iX (ps s)) (λs=>cU (u s) (rs s)) _ (λ_ _ s ⟨m,h⟩=>⟨_,h.wk (pf s) (hp s) (hr s)⟩) μ s0 h0 round
def Pe (sz:Nat) (l:Lb) (o:Option Lb) (xs:List IV) (H:Hp):Prop:=match o with
 |none=>H l= .live ⟨1,[[.nil0]]⟩/\xs=[]
 |some L=>L≠l/\H l= .live ⟨1,[[.sl L sz 0 xs.length]]⟩/\H L= .live ⟨sz,ak xs⟩
def lL (sz:Nat) (xs:List IV):Bool->Hp
 |false=>aS Hp.none (.par 0) (.live ⟨1,[[.nil0]]⟩)
 |true=>aS (aS Hp.none (.par 1) (.live ⟨sz,ak xs⟩)) (.par 0) (.live ⟨1,[[.sl (.par 1) sz 0 xs.length]]⟩)
def H_ (P:Program) (G:Nat->Option (List IV)) (sz f:Nat) (args:List AV) (xs:List IV) (res:AV) (ys:List IV):Prop:=
 (∀l∈ai args,l= .par 0)/\res.aq=[]/\∀b:Bool,(b=false->xs=[])->er P G f args (lL sz xs b) λx H'=>x=res/\∃L,Pe sz (.par 0) (some L) ys H'
theorem aK (ρ:Lb->Lb) (sz:Nat) (xs:List IV):aP ρ ⟨sz,ak xs⟩=⟨sz,ak xs⟩:=EY ρ sz xs
def er.abD {P:Program} {G:Nat->Option (List IV)} {f:Nat} {args:List AV} {H:Hp} {Q:AV->Hp->Prop} (h:er P G f args H Q) (kp:Hp->Lb->Prop) :
  er P G f args H λx H'=>∃H1,Q x H1/\H'=dA (kp H1) H1:=by
 intro w A β vs hr hv;refine(h w A β vs hr hv).mono ?_;rintro e w' ⟨v,x,H1,β',rfl,hq,qf,hx,hm⟩;exact⟨v,x,dA (kp H1) H1,β',rfl,⟨H1,hq,rfl⟩,qf.dA _,hx.dA _,λl hl=>by rw[Ne,gJ];exact hm l hl⟩
mutual
theorem Ca {ρ ρ':Lb->Lb}:∀x:AV,(∀l∈x.aq,ρ l=ρ' l)->aH ρ x=aH ρ' x
 | .sl l ..,h| .slk l ..,h| .ptr l ..,h=>by simp[aH,h l ajP]
 | .any,_| .un,_| .bool _,_| .int ..,_| .str _,_| .list _,_| .nil0,_| .mT,_| .jS,_| .lptr _,_| .mis _,_=>by simp[aH]
 | .agg cs,h=>by simp only[AV.aq] at h;simp[aH,iD cs h]
 | .bq cs,h=>by simp only[AV.aq] at h;simp[aH,iD cs h]
 | .fn f fs cs,h=>by
  simp only[AV.aq,agi] at h;simp[aH,iD fs (λl hl=>h l (.inl hl)),iD cs (λl hl=>h l (.inr hl))]
 | .ifc t x,h=>by simp only[AV.aq] at h;simp[aH,Ca x h]
theorem iD {ρ ρ':Lb->Lb}:∀xs:List AV,(∀l∈ai xs,ρ l=ρ' l)->aA ρ xs=aA ρ' xs
 |[],_=>by simp[aA]
 |x::r,h=>by
  simp only[ai,agi] at h;simp[aA,Ca x (λl hl=>h l (.inl hl)),iD r (λl hl=>h l (.inr hl))]
end
def gK {sz:Nat} {xs:List IV} {b:Bool} {q:Lb} {r:Row} (h:lL sz xs b q= .live r) :
  (q= .par 0/\r=⟨1,[[if b then .sl (.par 1) sz 0 xs.length else .nil0]]⟩)\/(b=true/\q= .par 1/\r=⟨sz,ak xs⟩):=by
 cases b with
 |false=>
  simp only[lL] at h;by_cases e:q= .par 0
  ·simp_all
  grind [an,Hp.none]
 |true=>
 simp only[lL] at h;by_cases e:q= .par 0
 ·simp_all
 rw[an _ _ e] at h;by_cases e1:q= .par 1
 ·simp_all
 grind [an,Hp.none]
open Classical in
def Cb {S:St} {sz f:Nat} {args bW:List AV} {xs ys:List IV} {res:AV} {H:Hp} {k:AV→Hp→Prop} {u:Tw k} {l N:Lb} {o:Option Lb} (h:H_ S.P S.G sz f bW xs res ys)
  (ha:args=aA (iP l) bW) (hl:Pe sz l o xs H) (hN:H N= .unused) (XZ:N.fresh=true→l.fresh=true∧∀L,o=some L→L.fresh=true)
  (hk:∀L' lS,(L'=N∨o=some L')→Pe sz l (some L') ys lS→(∀q,q≠l→q≠N→o≠some q→lS q=H q)→(∀q,H q≠ .unused→lS q≠ .unused)→k res lS):Hm S f args H k u:=by
 obtain⟨h1,h2,h3⟩:=h;have hob:o.isSome=false→xs=[]:=by
  intro ho;cases o with
  |none=>exact hl.2
  |some L=>simp at ho
 have abE:=(h3 o.isSome hob).abD fun H1 q=>q= .par 0∨∃n,H1 (.par 0)= .live ⟨1,[[.sl q sz 0 n]]⟩
 let L0:Lb:=o.getD N
 let ρ:Lb→Lb:=fun q=>if q= .par 0 then l else if q= .par 1 then L0 else q
 have L3:ρ (.par 0)=l:=by simp[ρ]
 have L4:ρ (.par 1)=L0:=by simp[ρ]
 have hHl:H l≠ .unused:=by cases o with
  |none=>rw[hl.1];simp
  |some L=>rw[hl.2.1];simp
 have X3:N≠l:=by rintro rfl;exact hHl hN
 have abF:L0≠l:=by cases o with
  |none=>exact X3
  |some L=>exact hl.1
 refine .inr<| .inr ⟨⟨ρ,lL sz xs o.isSome,bW,_,abE,?_,?_,?_,?_,?_,?_,?_,?_⟩⟩
 ·rw[ha];exact iD _ fun q hq=>by rw[h1 q hq];simp[iP,ρ]
 ·intro q r hq;rcases gK hq with⟨rfl,rfl⟩|⟨hb,rfl,rfl⟩
  ·rw[L3];cases o with
   |none=>rw[hl.1];simp[aP,aA,aH]
   |some L=>rw[hl.2.1];simp[aP,aA,aH,ρ,L0]
  rw[L4,aK];cases o with
  |none=>simp at hb
  |some L=>exact hl.2.2
 ·intro q hq;cases hb:o.isSome with
  |false=>
   rw[hb] at hq;simp only[lL] at hq;by_cases e:q= .par 0
   ·subst e;exact⟨_,by simp[lL];rfl⟩
   rw[an _ _ e] at hq;simp[Hp.none] at hq
  |true=>
  rw[hb] at hq;simp only[lL] at hq;by_cases e:q= .par 0
  ·subst e;exact⟨_,by simp[lL];rfl⟩
  rw[an _ _ e] at hq;by_cases e1:q= .par 1
  ·subst e1;exact⟨_,by simp[lL,aS];rfl⟩
  rw[an _ _ e1] at hq;simp[Hp.none] at hq
 ·rintro q q' ⟨r,hq⟩ ⟨r',xu⟩ he;rcases gK hq with⟨rfl,_⟩|⟨_,rfl,_⟩<;>rcases gK xu with⟨rfl,_⟩|⟨_,rfl,_⟩
  ·rfl
  ·rw[L3,L4] at he;exact absurd he.symm abF
  ·rw[L3,L4] at he;exact absurd he abF
  rfl
 ·intro q hq;rw[h1 q hq];cases o.isSome<;>simp[lL]
 ·rintro q ⟨r,hq⟩;rcases gK hq with⟨rfl,_⟩|⟨_,rfl,_⟩<;>rfl
 ·intro q r hq cs aZ z hz;rcases gK hq with⟨rfl,rfl⟩|⟨hb,rfl,rfl⟩
  ·simp only[List.mem_singleton] at aZ;subst aZ;cases hb:o.isSome with
   |false=>rw[hb] at hz;simp[ai,AV.aq] at hz
   |true=>rw[hb] at hz;simp[ai,AV.aq] at hz;subst hz;simp[lL,aS]
  exact Bp
 rintro x H' ⟨H1,⟨rfl,L,hLa⟩,rfl⟩;obtain⟨j8,hp,hLr⟩:=hLa
 let L1:Lb:=if L= .par 1∧o.isSome=true then L0 else N
 have X4:L1=N∨o=some L1:=by
  by_cases e:L= .par 1∧o.isSome=true
  ·right;simp only[L1,if_pos e,L0];cases o with
   |none=>simp at e
   |some Lo=>rfl
  left;simp only[L1,if_neg e]
 have Te:L1≠l:=by
  rcases X4 with e|e
  ·rw[e];exact X3
  intro e2;rw[e2] at e;cases o with
  |none=>simp at e
  |some Lo=>simp only[Option.some.injEq] at e;exact hl.1 e
 let ρ':Lb→Lb:=fun q=>if q= .par 0 then l else if q=L then L1 else q
 have Kb:ρ' (.par 0)=l:=by simp[ρ']
 have zy:ρ' L=L1:=by simp[ρ',j8]
 let Hk:Hp:=match o with
  |some Lo=>aS H Lo .dead
  |none=>H
 have WB:∀q,o≠some q→Hk q=H q:=by
  intro q hq;cases o with
  |none=>rfl
  |some Lo=>exact an _ _ (fun e=>hq (by rw[e]))
 have abG:∀q,o=some q→Hk q= .dead:=by
  intro q hq;subst hq;simp[Hk]
 have aT:∀q r,dA (fun q=>q= .par 0∨∃n,H1 (.par 0)= .live ⟨1,[[.sl q sz 0 n]]⟩) H1 q= .live r→(q= .par 0∧r=⟨1,[[.sl L sz 0 ys.length]]⟩)∨(q=L∧r=⟨sz,ak ys⟩):=by
  intro q r hq;obtain⟨g1,g2⟩:=cL.1 hq;rcases g2 with rfl|⟨n,g2⟩
  ·rw[hp] at g1;cases g1;exact .inl ⟨rfl,rfl⟩
  rw[hp] at g2;simp only[Slot.live.injEq,Row.mk.injEq,List.cons.injEq,and_true,true_and,AV.sl.injEq] at g2;obtain⟨rfl,_⟩:=g2;rw[hLr] at g1;cases g1;exact .inr ⟨rfl,rfl⟩
 have X5:dA (fun q=>q= .par 0∨∃n,H1 (.par 0)= .live ⟨1,[[.sl q sz 0 n]]⟩) H1 (.par 0)= .live ⟨1,[[.sl L sz 0 ys.length]]⟩:=cL.2 ⟨hp,.inl rfl⟩;have Pf:dA (fun q=>q= .par 0∨∃n,H1 (.par 0)= .live ⟨1,[[.sl q sz 0 n]]⟩) H1 L= .live ⟨sz,ak ys⟩:=cL.2 ⟨hLr,.inr ⟨_,hp⟩⟩
 let lS:Hp:=aS (aS Hk l (.live ⟨1,[[.sl L1 sz 0 ys.length]]⟩)) L1 (.live ⟨sz,ak ys⟩)
 have Vw:lS L1= .live ⟨sz,ak ys⟩:=by simp[lS]
 have X6:lS l= .live ⟨1,[[.sl L1 sz 0 ys.length]]⟩:=by
  show aS _ L1 _ l=_;rw[an _ _ (Ne.symm Te)];simp
 have hHo:∀q,q≠L1→q≠l→lS q=Hk q:=by
  intro q e1 e2;show aS _ L1 _ q=_;rw[an _ _ e1,an _ _ e2]
 have u5:∀q,H q≠ .unused→lS q≠ .unused:=by
  intro q hq;by_cases e1:q=L1
  ·rw[e1,Vw];simp
  by_cases e2:q=l
  ·rw[e2,X6];simp
  rw[hHo q e1 e2];by_cases e3:o=some q
  ·rw[abG q e3];simp
  rw[WB q e3];exact hq
 refine⟨ρ',lS,?_,?_,?_,u5,?_,?_,?_,?_,?_⟩
 ·rintro q ⟨r,hq⟩ ⟨r',xu⟩;rcases gK hq with⟨rfl,_⟩|⟨hb,rfl,_⟩
  ·rw[L3,Kb]
  rcases aT _ _ xu with⟨e,_⟩|⟨e,_⟩
  ·cases e
  rw[L4,e,zy];simp only[L1,if_pos (⟨e.symm,hb⟩:L= .par 1∧o.isSome=true)]
 ·intro q r hq;by_cases e1:q=L1
  ·subst e1;rw[Vw] at hq;simp only[Slot.live.injEq] at hq;exact .inr ⟨L,_,Pf,zy,by rw[aK];exact hq.symm⟩
  by_cases e2:q=l
  ·subst e2;rw[X6] at hq;simp only[Slot.live.injEq] at hq;refine .inr ⟨.par 0,_,X5,Kb,?_⟩;rw[←hq];simp[aP,aA,aH,zy]
  rw[hHo q e1 e2] at hq;by_cases e3:o=some q
  ·rw[abG q e3] at hq;cases hq
  rw[WB q e3] at hq;refine .inl ⟨hq,?_⟩;rintro z ⟨r',hz⟩ hzq;rcases gK hz with⟨rfl,_⟩|⟨hb,rfl,_⟩
  ·rw[L3] at hzq;exact e2 hzq.symm
  rw[L4] at hzq;apply e3;cases o with
  |none=>simp at hb
  |some Lo=>simp only[L0,Option.getD_some] at hzq;rw[hzq]
 ·rintro q q' ⟨r,hq⟩ ⟨r',xu⟩ he;rcases aT _ _ hq with⟨rfl,_⟩|⟨rfl,_⟩<;>rcases aT _ _ xu with⟨rfl,_⟩|⟨rfl,_⟩
  ·rfl
  ·rw[Kb,zy] at he;exact absurd he.symm Te
  ·rw[Kb,zy] at he;exact absurd he Te
  rfl
 ·intro q hq;rw[h2] at hq;simp at hq
 ·intro q r hq cs aZ z hz;rcases aT _ _ hq with⟨rfl,rfl⟩|⟨rfl,rfl⟩
  ·simp only[List.mem_singleton] at aZ;subst aZ;simp only[ai,AV.aq,List.append_nil,List.mem_singleton] at hz;subst hz;rw[zy,Vw];simp
  exact Bp
 ·rintro q ⟨r,hq⟩;rcases aT _ _ hq with⟨rfl,_⟩|⟨rfl,_⟩
  ·left;cases o.isSome<;>exact⟨_,by simp[lL];rfl⟩
  by_cases e:q= .par 1∧o.isSome=true
  ·left;rw[e.1,e.2];exact⟨_,by simp[lL,aS];rfl⟩
  right;rw[zy];simp only[L1,if_neg e];refine⟨hN,fun hf=> .inr ?_⟩;obtain⟨g1,g2⟩:=XZ hf;rintro z ⟨r',hz⟩;rcases gK hz with⟨rfl,_⟩|⟨hb,rfl,_⟩
  ·rw[L3];exact g1
  rw[L4];cases o with
  |none=>simp at hb
  |some Lo=>exact g2 Lo rfl
 ·rintro q (hq|⟨l1,r1,cs,g1,g2,g3⟩) _
  ·rw[h2] at hq;simp at hq
  rcases aT _ _ g1 with⟨rfl,rfl⟩|⟨rfl,rfl⟩
  ·simp only[List.mem_singleton] at g2;subst g2;simp only[ai,AV.aq,List.append_nil,List.mem_singleton] at g3;subst g3;exact⟨_,Pf⟩
  rw[bc g2] at g3;simp at g3
 rw[oO _ _ h2];refine hk L1 lS X4 ⟨Te,X6,Vw⟩ ?_ u5;intro q e1 e2 e3;have:q≠L1:=by
  rintro rfl;rcases X4 with e|e
  ·exact e2 e
  exact e3 e
 rw[hHo q this e1,WB q e3]
end Go.Am

namespace Go.Am
open Go Go.RowKit
def wk (d:Doc):Nat->Int->Int->Int->Option Int
 |0,_,_,_=>none
 |f+1,n,p,nx=>if n=nx then match d[n.toNat]? with
   |some x=>if x.parent=p then x.kids.foldlM (λq k=>wk d f k n q) (nx+1) else none
   |none=>none
  else none
def zz {α:Type} {l:List α} {n:Nat} {x:α} {r:List α} (h:l.drop n=x::r):l[n]?=some x/\l.drop (n+1)=r:=by
 have h1:(l.drop n)[0]?=some x:=ajV
 refine⟨aj8,?_⟩;have:(l.drop n).drop 1=r:=ajV
 grind [ahJ]
def drop_eq {α:Type} {l:List α} {n:Nat} {x:α} (h:l[n]?=some x):l.drop n=x::l.drop (n+1):=by
 obtain⟨hn,rfl⟩:=afY.1 h;simp
def Kc (d:Doc):∀(f:Nat),
  (∀(m:Nat) (n p r:Int),wk d f n p m=some r->n=m/\∃x:Tree,x.dep<=f/\(∃post,d.drop m=x.flat m p++post)/\r=((m+x.cC:Nat):Int)):=by
 intro f;induction f with
 |zero=>intro m n p r h;simp[wk] at h
 |succ f ih=>
 intro m n p r h;unfold wk at h;split at h
 ·rename_i hn;subst hn;simp only[af0] at h;cases hx:d[m]? with
  |none=>rw[hx] at h;simp at h
  |some nd=>
  rw[hx] at h;simp only at h;split at h
  ·rename_i hp;refine⟨rfl,?_⟩;have kids:∀(ks:List Int) (q:Nat) (r:Int),ks.foldlM (λq k=>wk d f k (m:Int) q) (q:Int)=some r->∃xs:List Tree,ks=aG q xs/\gU xs<=f/\(∃post,d.drop q=ct q m xs++post)/\r=((q+aJ xs:Nat):Int):=by
    intro ks;induction ks with
    |nil=>intro q r h;simp at h;subst h;exact⟨[],rfl,by simp[gU],⟨_,by simp[ct];rfl⟩,by simp[aJ]⟩
    |cons k ks ihk=>
    intro q r h;rw[ajh] at h;obtain⟨q',h1,h2⟩:=afX.1 h;obtain⟨rfl,x,x1,⟨post,x2⟩,rfl⟩:=ih q k m q' h1;obtain⟨xs,e1,e2,⟨abH,e3⟩,rfl⟩:=ihk _ _ h2;refine⟨x::xs,by simp only[aG,e1],by simp only[gU];omega,⟨abH,?_⟩,by simp only[aJ,agT]⟩;have:d.drop (q+x.cC)=post:=by
     rw[<-ahJ,x2,ahF (by rw[x.dY];exact af6 _),aio (by rw[x.dY];exact af6 _)];rfl
    rw[x2,<-this,e3];simp[ct]
   obtain⟨xs,e1,e2,⟨post,e3⟩,rfl⟩:=kids nd.kids (m+1) r aj6;refine⟨.mk nd.text nd.s nd.attrs xs,by simp only[Tree.dep];omega,⟨post,?_⟩,by simp only[Tree.cC];congr 1;omega⟩;rw[drop_eq hx,e3];simp only[Tree.flat,List.cons_append,agY,ajg];exact Node.ext' rfl rfl rfl hp e1
  simp at h
 simp at h
def abI (d:Doc):∀(f:Nat) (x:Tree) (m:Nat) (p:Int),x.dep<=f->(∃post,d.drop m=x.flat m p++post)->wk d f m p m=some ((m+x.cC:Nat):Int):=by
 intro f;induction f with
 |zero=>intro x m p h;rw[x.qL] at h;omega
 |succ f ih=>
 intro x m p hd ⟨post,hx⟩;rw[x.nY] at hx;obtain⟨h1,h2⟩:=zz hx;unfold wk;rw[af0,h1];simp[Tree.node,agn];have kids:∀(xs:List Tree) (q:Nat),gU xs<=f->(∃post,d.drop q=ct q m xs++post)->(aG q xs).foldlM (λq k=>wk d f k (m:Int) q) (q:Int)=some ((q+aJ xs:Nat):Int):=by
  intro xs;induction xs with
  |nil=>grind [aG,aJ]
  |cons y ys ihk=>
  intro q hq ⟨post,hp⟩;simp only[gU] at hq;simp[ct,agM] at hp;simp only[aG,ajh];rw[ih y q m ajK ⟨_,hp⟩];simp only[aiX,af_];rw[ihk (q+y.cC) ajK ⟨post,by rw[<-ahJ,hp,ahF (by rw[y.dY];exact af6 _),aio (by rw[y.dY];exact af6 _)];rfl⟩];simp[aJ,agT]
 have abJ:=x.qL;have:=kids x.kids (m+1) ajK ⟨post,h2⟩;rw[show((m:Int)+1)=((m+1:Nat):Int) by omega,this,x.ff]
 grind
mutual
theorem Tree.zA:∀(x y:Tree) (off:Nat) (p:Int) (r r':List Node),x.flat off p++r=y.flat off p++r'->x=y
 | .mk t s az ks,.mk t' s' as' ui,off,p,r,r',h=>by
  simp only[Tree.flat,List.cons_append,agY,Node.mk.injEq] at h;obtain⟨⟨rfl,rfl,rfl,_,hk⟩,h⟩:=h;have hl:ks.length=ui.length:=by have:=ahp List.length hk;simpa[ek] using this
  rw[Cc ks ui (off+1) off r r' hl h]
theorem Cc:∀(xs ys:List Tree) (off p:Nat) (r r':List Node),xs.length=ys.length->ct off p xs++r=ct off p ys++r'->xs=ys
 |[],[],_,_,_,_,_,_=>rfl
 |[],_::_,_,_,_,_,h,_=>by simp at h
 |_::_,[],_,_,_,_,h,_=>by simp at h
 |x::xs,y::ys,off,p,r,r',hl,h=>by
  simp only[ct,agM] at h;have e:=x.zA y off p _ _ h;subst e;have:=List.append_cancel_left h;rw[Cc xs ys _ p r r' (by simpa using hl) this]
end
def L5 {x y:Tree} (h:ay x=ay y):x=y:=x.zA y 0 (-1) [] [] (by simpa[ay] using h)
theorem eR (x:Tree):(ay x).length=x.cC:=x.dY 0 (-1)
def zB (d:Doc):Prop:=∃x:Tree,x.cA=true/\d=ay x
open Classical in
noncomputable def bQ (d:Doc):Bool:=decide (zB d)
def dm {d:Doc}:bQ d=true↔zB d:=by simp[bQ]
theorem m_ {x:Tree} (h:x.cA=true):bQ (ay x)=true:=dm.2 ⟨x,h,rfl⟩
def oR {d:Doc} (h:¬zB d):bQ d=false:=by simp[bQ,h]
theorem fg (x:Tree):x.cA=true↔x.text=false/\x.dep<=8/\x.cC<=80/\x.iu=true:=by
 grind [Tree.cA]
def X7 {d:Doc} (h:wk d 8 0 (-1) 0=some (d.length:Int)):∃x:Tree,x.dep<=8/\d=ay x:=by
 obtain⟨_,x,h1,⟨post,h2⟩,h3⟩:=Kc d 8 0 0 (-1) _ h;refine⟨x,h1,?_⟩;simp at h2 h3;have hl:post=[]:=by
  have:=ahp List.length h2;rw[age,x.dY] at this
  grind [agL]
 rw[h2,hl,agb];rfl
def Tf {x:Tree} (h:x.dep<=8):wk (ay x) 8 0 (-1) 0=some ((ay x).length:Int):=by
 have:=abI (ay x) 8 x 0 (-1) h ⟨[],akJ⟩
 grind [eR]
end Go.Am

namespace Go.Am
open Go Go.RowKit
def Tree.kb (x:Tree) (s:Bs):Tree:= .mk x.text s x.attrs x.kids
def u6 (p:Bool):List Tree->Bool
 |[]=>p
 |x::r=>u6 x.text r
def grow (s:Bs):List Tree->List Tree
 |[]=>[]
 |[x]=>[x.kb (x.s++s)]
 |x::y::r=>x::grow s (y::r)
def push (out:List Tree) (x:Tree):List Tree:=
 if x.text&&x.s==[] then out else if x.text&&u6 false out then grow x.s out else out++[x]
mutual
def Tree.jn:Tree->Tree
 | .mk t s az ks=> .mk t s az (dB [] ks)
def dB (out:List Tree):List Tree->List Tree
 |[]=>out
 |x::r=>dB (push out x.jn) r
end
def cP (l:List Tree):List Tree:=dB [] l
def Tree.Fe (x:Tree):x.jn= .mk x.text x.s x.attrs (cP x.kids):=by cases x;simp[Tree.jn,cP,Tree.text,Tree.s,Tree.attrs,Tree.kids]
def Tree.gL (x:Tree):x.jn.text=x.text:=anh
def Tree.BJ (x:Tree):x.jn.s=x.s:=anh
def Tree.u7 (x:Tree):x.jn.attrs=x.attrs:=anh
def Tree.yN (x:Tree):x.jn.kids=cP x.kids:=anh
theorem rK:∀(xs ys out:List Tree),dB out (xs++ys)=dB (dB out xs) ys
 |[],ys,out=>by simp[dB]
 |x::r,ys,out=>by simp[dB,rK r ys]
theorem tv (x:Tree):∀(p:Bool) (xs:List Tree),u6 p (xs++[x])=x.text
 |_,[]=>rfl
 |p,y::r=>tv x y.text r
theorem Cd (p:Bool):∀(xs:List Tree),xs≠[]->∃y,xs[xs.length - 1]?=some y/\u6 p xs=y.text
 |[],h=>absurd rfl h
 |[x],_=>⟨x,rfl,rfl⟩
 |x::y::r,_=>by
  obtain⟨z,h1,h2⟩:=Cd x.text (y::r) ajL
  grind [u6]
theorem Ff (s:Bs):∀(xs:List Tree),(grow s xs).length=xs.length
 |[]=>rfl
 |[x]=>rfl
 |x::y::r=>by simp only[grow,agd,Ff s (y::r)]
theorem Ke (s:Bs):∀(xs:List Tree) (y:Tree),xs[xs.length - 1]?=some y->grow s xs=xs.set (xs.length - 1) (y.kb (y.s++s))
 |[],y,h=>by simp at h
 |[x],y,h=>by simp at h;subst h;rfl
 |x::z::r,y,h=>by
  simp_all[Ke,grow]
theorem Ce (s:Bs) (x:Tree):∀(xs:List Tree),grow s (xs++[x])=xs++[x.kb (x.s++s)]
 |[]=>rfl
 |[y]=>rfl
 |y::z::r=>by simp only[List.cons_append,grow,agY,agt];exact Ce s x (z::r)
mutual
def Tree.jd:Tree->Bool
 | .mk _ _ _ ks=>jds false ks
def jds (p:Bool):List Tree->Bool
 |[]=>true
 |x::r=> !(x.text&&(p||x.s==[]))&&(x.jd&&jds x.text r)
end
theorem Fg (s:Bs):∀(xs:List Tree),bH (grow s xs)<=bH xs+s.length
 |[]=>by simp[grow,bH]
 |[x]=>by cases x;simp[grow,bH,Tree.kb,Tree.wt,Tree.text,Tree.s,Tree.attrs,Tree.kids];omega
 |x::y::r=>by have:=Fg s (y::r);simp only[grow,bH] at this ⊢;omega
def Pg (out:List Tree) (x:Tree):bH (push out x)<=bH out+x.wt:=by
 unfold push;split
 ·omega
 split
 ·have:=Fg x.s out;have:=x.dL;omega
 grind [dQ,bH]
mutual
theorem Tree.abK:∀x:Tree,x.jn.wt<=x.wt
 | .mk t s az ks=>by have:=mF [] ks;simp only[Tree.jn,Tree.wt,bH] at this ⊢;omega
theorem mF:∀(out l:List Tree),bH (dB out l)<=bH out+bH l
 |out,[]=>by simp[dB,bH]
 |out,x::r=>by
  have:=mF (push out x.jn) r;have:=Pg out x.jn;have:=x.abK;simp only[dB,bH];omega
end
def zC (l:List Tree):bH (cP l)<=bH l:=by have:=mF [] l;simp only[bH] at this;unfold cP;omega
def nM (xs:List Tree):Bs:=xs.flatMap Tree.s
def nc (xs:List Tree):Option Tree:=xs.find? λx=> !(x.s==[])
def L6 (xs:List Tree) (x:Tree):nM (xs++[x])=nM xs++x.s:=by simp[nM]
def Fh (xs:List Tree) (x:Tree):nc (xs++[x])=(nc xs).or (if x.s==[] then none else some x):=by
 simp only[nc]
 grind
def Fi (x:Tree) (a b:Bs):(x.kb a).kb b=x.kb b:=rfl
def Dw (x:Tree) (a:Bs):(x.kb a).s=a:=rfl
def tw (x:Tree) (a:Bs):(x.kb a).text=x.text:=rfl
theorem zD (x:Tree):x.kb x.s=x:=by cases x;rfl
theorem zE:∀(xs:List Tree) (out:List Tree) (y:Tree),(∀x∈xs,x.text=true)->y.text=true->dB (out++[y]) xs=out++[y.kb (y.s++nM xs)]
 |[],out,y,_,_=>by simp[dB,nM,zD]
 |x::r,out,y,h,hy=>by
  have hx:=h x ajL;have hp:push (out++[y]) x.jn=out++[y.kb (y.s++x.s)]:=by
   unfold push;rw[x.gL,hx,x.BJ,tv,hy]
   grind [zD,Ce]
  simp_all[dB,zE,tw,nM,Dw,Fi]
theorem Cf:∀(xs:List Tree) (out:List Tree),(∀x∈xs,x.text=true)->u6 false out=false ->
  dB out xs=match nc xs with
   |none=>out
   |some f=>out++[f.jn.kb (nM xs)]
 |[],out,_,_=>by simp[dB,nc]
 |x::r,out,h,ho=>by
  have hx:=h x ajL;by_cases e:x.s=[]
  ·have hp:push out x.jn=out:=(by unfold push;rw[x.gL,hx,x.BJ,e];simp);simp_all[Cf,dB,nc,nM]
  have hp:push out x.jn=out++[x.jn]:=by unfold push;rw[x.gL,x.BJ,ho];simp[e]
  simp[dB,hp];rw[zE r out _ (λz hz=>h z ajV) (by rw[x.gL];exact hx)];simp[nc,e,nM,x.BJ]
def Ia (out:List Tree) (x:Tree) (h:x.text=false):dB out [x]=out++[x.jn]:=by
 simp[dB,push];rw[x.gL,h];simp

def Tree.abL (x:Tree):x.cs.map IV.dw=[.bool x.text,.str x.s,.list (aQ x.attrs),.list (aM x.kids)]:=rfl
def Tg {P:Program} {G:Nat->Option (List IV)} [KN P G] (l:List Tree) (hx:bH l<=B)
  (hJ:∀x∈l,aj P G 116 [.list (aM x.kids)] (.list (aM (cP x.kids)))):aj P G 116 [.list (aM l)] (.list (aM (cP l))):=by
 refine au (cw 116 [.f 46 7 (.rw [.loc 5] []),.a 3 (.own 3 4),.r (.tj (.loc 3) 2),.f 48 5 (.rw [.loc 3] []),.f 48 11 (.rw [] [.loc 3])]) ajL ajO ajP ?_;have hl:=bO l;simp only[↓aX,mX,seval,ar];refine qH (σ:={i:Nat // i<=l.length}) 3 4 (λq=>[(7,.list (aM l)),(8,.int .i64 l.length),(9,.int .i64 q.1)]) (λq=>aM (dB [] (l.take q.1))) (λq=>l.length - q.1) ⟨0,ajL⟩ (λ_=>rfl) ?_ ?_
 ·simp only[J',↓aX,mX,reduceCtorEq,Int.reduceLT,Nat.reduceEqDiff,Int.reduceLE,Nat.reduceLT,Nat.reduceLeDiff,Nat.reduceAdd,Nat.reduceMul,Int.reduceToNat];exact⟨rfl,3,[],rfl,rfl,rfl⟩
 rintro⟨i,hi⟩;have yn:=mF [] (l.take i);have gz:=ey l i;have ml:=bO (dB [] (l.take i));simp only[bH] at yn;simp only[↓aX,mX,seval,ar];refine j7 (λh=> ?_) (λh=> ?_)
 ·have aF:i<l.length:=by simpa using h
  obtain⟨x,xI⟩:=gE aF;have hw:=w1 i ajZ;have eW:dB [] (l.take (i+1))=push (dB [] (l.take i)) x.jn:=by rw[agz,xI,rK];rfl
  simp only[↓aX,mX,seval,h,hw,dc,xI,fa,Tree.ax,Tree.cs];generalize Fj:dB [] (l.take i)=out at *;refine ah (hJ x (af3 xI)) ?_;have hlen:(aM out).length=out.length:=ar _;have Dx:aM (out++[x.jn])=aM out++[.agg [.bool x.text,.str x.s,.list (aQ x.attrs),.list (aM (cP x.kids))]]:=by
   rw[ed];simp[aM,Tree.mY,Tree.cs,x.gL,x.BJ,x.u7,x.yN]
  have next:∀(Th:List Tree) (env:Env) (H:Hp) (n:Nat),push out x.jn=Th->NF H->env 7= .list (aM l)->env 8= .int .i64 l.length->env 9= .int .i64 ((i+1:Nat):Int)->env 3= .sl (.loc n) 4 0 Th.length->H (.loc n)= .live ⟨4,ak (aM Th)⟩ ->
    ∃s:{i:Nat // i<=l.length},l.length - s.1<l.length - i/\WR 3 4 (λq:{i:Nat // i<=l.length}=>[(7,.list (aM l)),(8,.int .i64 l.length),(9,.int .i64 q.1)]) (λq=>aM (dB [] (l.take q.1))) env H s:=by
   intro Th env H n h1 h2 h3 h4 h5 h6 h7;refine⟨⟨i+1,aF⟩,ajM,?_⟩;rw[J'];simp only[E5,J4,ajg,eW,h1,ar];exact⟨h2,⟨h3,h4,h5⟩,n,_,h6,h7,rfl⟩
  simp only[↓aX,mX,seval,ar];cases ht:x.text with
  |false=>
   have hp:push out x.jn=out++[x.jn]:=(by unfold push;rw[x.gL,ht];simp);simp only[↓aX,mX,seval,ar];rw[bX 4 72 22 3 (aM out) (.agg [.bool false,.str x.s,.list (aQ x.attrs),.list (aM (cP x.kids))]) ajR hlen rfl aj0 ajZ ajN ajN ajX];simp only[↓aX,mX,seval,hw];refine next _ _ _ 22 hp aj4 rfl rfl rfl alY ?_
   rw[Dx,ht];simp only[↓aX,mX,seval]
  |true=>
  simp only[↓aX,mX,seval,ar];cases hs:(x.s==[]) with
  |true=>
   have hp:push out x.jn=out:=(by unfold push;rw[x.gL,ht,x.BJ,hs];rfl);simp only[↓aX,mX,seval,hw];exact next _ _ _ 3 hp aj4 rfl rfl rfl (by simp only[↓aX,mX,seval,ar]) rfl
  |false=>
  simp only[↓aX,mX,seval];by_cases h0:out=[]
  ·have hp:push out x.jn=out++[x.jn]:=(by unfold push;rw[x.gL,ht,x.BJ,hs,h0];rfl);rw[show decide ((out.length:Int)>0)=false by rw[h0];rfl];simp only[↓aX,mX,seval,ar];rw[bX 4 72 22 3 (aM out) (.agg [.bool true,.str x.s,.list (aQ x.attrs),.list (aM (cP x.kids))]) ajR hlen rfl aj0 ajZ ajN ajN ajX];simp only[↓aX,mX,seval,hw];refine next _ _ _ 22 hp aj4 rfl rfl rfl alY ?_
   rw[Dx,ht];simp only[↓aX,mX,seval]
  have EU:0<out.length:=ahL.2 h0;obtain⟨y,hy,zF⟩:=Cd false out h0;have Cg:IntKind.i64.wrap ((out.length:Int) - 1)=((out.length - 1:Nat):Int):=akr
  have bU:(ak (aM out))[out.length - 1]?=some [.bool y.text,.str y.s,.list (aQ y.attrs),.list (aM y.kids)]:=by rw[uY,dc,hy];simp[Tree.ax,Tree.cs,IV.dw]
  have iw:out.length - 1<out.length:=ajK
  rw[show decide ((out.length:Int)>0)=true by simp;exact EU];simp only[↓aX,mX,seval,Cg,iw,bU,ar];cases Fk:y.text with
  |false=>
   have hp:push out x.jn=out++[x.jn]:=al_;simp only[↓aX,mX,seval,ar];rw[bX 4 72 22 3 (aM out) (.agg [.bool true,.str x.s,.list (aQ x.attrs),.list (aM (cP x.kids))]) ajR hlen rfl aj0 ajZ ajN ajN ajX];simp only[↓aX,mX,seval,hw];refine next _ _ _ 22 hp aj4 rfl rfl rfl alY ?_
   rw[Dx,ht];simp only[↓aX,mX,seval]
  |true=>
  have hp:push out x.jn=grow x.s out:=al_
  have hg:=Ke x.s out y hy;simp only[↓aX,mX,seval,Cg,iw,bU,ar,Fk];refine⟨rfl,?_⟩;have wF:y.s.length+x.s.length<=9223372036854775807:=by
   have h1:=iS _ _ _ hy;have h2:=y.dL;have h3:=iS _ _ _ xI;have h4:=x.dL;unfold B at hx;omega
  simp only[↓aX,mX,seval,wF,Cg,iw,bU,ar,Fk,bw,hw];refine next (grow x.s out) _ _ 3 hp aj4 rfl rfl rfl (by simp only[↓aX,mX,seval,ar,Ff]) ?_
  have hiv:(y.kb (y.s++x.s)).iv.cells.map IV.dw=[.bool true,.str (y.s++x.s),.list (aQ y.attrs),.list (aM y.kids)]:=by
   rw[Tree.ax,Tree.abL];simp[Tree.kb,Tree.text,Tree.s,Tree.attrs,Tree.kids];rw[<-Fk];rfl
  simp only[↓aX,mX,seval];have kH:aM (out.set (out.length - 1) (y.kb (y.s++x.s)))=(aM out).set (out.length - 1) (y.kb (y.s++x.s)).iv:=by rw[ll,ll,aiT]
  rw[hg,kH,<-zq,hiv]
 simp only[↓aX,mX,seval,h];refine⟨4,aM (dB [] (l.take i)),0,_,rfl,rfl,akD,gd _,?_⟩;have je:i=l.length:=aki
 subst je;simp only[cP,agu,agj,ar];congr 1;exact af2 alw
end Go.Am
