import Derived.Test.YtfeijflhfhkbnaaGreatDoorKAc0S
set_option linter.all false
/- JoinedOf. -/
namespace Go.Am
open Go Go.RowKit
def l9:Option Tree->AV
 |none=> .mT
 |some f=> .lptr f.cs
def Ib (o:Option Tree):(l9 o).aq=[]:=by cases o<;>rfl
theorem cn {α:Type} {l:List α} {i:Nat} {x:α} (h:l[i]?=some x):l.take (i+1)=l.take i++[x]:=by rw[agz,h];rfl
def ng {α:Type} {l:List α} {i j:Nat} {x:α} (NR:i<=j) (h:l[j]?=some x):(l.drop i).take (j+1 - i)=(l.drop i).take (j - i)++[x]:=by
 rw[show j+1 - i=(j - i)+1 by omega];exact cn (by rw[ahv,show i+(j - i)=j by omega];exact h)
theorem Kf:∀xs:List Tree,(nM xs).length<=bH xs
 |[]=>by simp[nM,bH]
 |x::r=>by have:=Kf r;have:=x.dL;simp only[nM,ah7,age,bH] at *;omega
def Ph (xs:List Tree) (i:Nat):bH (xs.drop i)<=bH xs:=by
 have:=dQ (xs.take i) (xs.drop i);rw[agD] at this;omega
def L7 {P:Program} {G:Nat->Option (List IV)} [KN P G] (l:List Tree) (hx:bH l<=B)
  (hJ:∀x∈l,aj P G 80 [.list (aM x.kids)] (.list (aM (cP x.kids)))):aj P G 80 [.list (aM l)] (.list (aM (cP l))):=by
 refine au (cw 80 [.a 3 (.own 3 4),.r (.tj (.loc 3) 2)]) ajL ajO ajP ?_;have hl:=bO l;simp only[↓aX,mX,seval,ar];refine qH (σ:={i:Nat // i<=l.length/\(u6 false (dB [] (l.take i))=false\/∀x,l[i]?=some x->x.text=false)}) 3 4 (λq=>[(0,.list (aM l)),(4,.int .i64 q.1)]) (λq=>aM (dB [] (l.take q.1))) (λq=>l.length - q.1) ⟨0,by simp[u6,dB]⟩ (λ_=>rfl) ?_ ?_
 ·exact pZ 3 aj4 ajT rfl rfl
 rintro⟨i,hi,fG⟩;have yn:=mF [] (l.take i);have gz:=ey l i;have ml:=bO (dB [] (l.take i));simp only[bH] at yn;simp only[↓aX,mX,seval,ar];refine j7 (λh=> ?_) (λh=> ?_)
 ·have aF:i<l.length:=by simpa using h
  obtain⟨x,xI⟩:=gE aF;have hw:=w1 i ajZ;simp only[↓aX,mX,seval,h,dc,xI,fa,Tree.ax,Tree.cs];generalize Fj:dB [] (l.take i)=out at *;have hlen:(aM out).length=out.length:=ar _;cases ht:x.text with
  |false=>
   have eW:dB [] (l.take (i+1))=out++[x.jn]:=(by rw[cn xI,rK,Fj,Ia _ _ ht]);have Dx:aM (out++[x.jn])=aM out++[.agg [.bool false,.str x.s,.list (aQ x.attrs),.list (aM (cP x.kids))]]:=by
    rw[ed];simp[aM,Tree.mY,Tree.cs,x.gL,x.BJ,x.u7,x.yN,ht]
   simp only[↓aX,mX,seval,h,dc,xI,fa,Tree.ax,Tree.cs,ht];refine ah (hJ x (af3 xI)) ?_;simp only[↓aX,mX,seval,ar];rw[bX 4 72 32 3 (aM out) (.agg [.bool false,.str x.s,.list (aQ x.attrs),.list (aM (cP x.kids))]) ajR hlen rfl aj0 ajZ ajN ajN ajX];simp only[↓aX,mX,seval,hw];refine⟨⟨i+1,aF,.inl (by rw[eW,tv,x.gL,ht])⟩,ajM,?_⟩;refine pZ 32 aj4 ajT ?_ ?_
   ·simp only[↓aX,mX,seval,eW,ar];simp
   simp only[↓aX,mX,seval,eW,Dx]
  |true=>
  simp only[↓aX,mX,seval];have zF:u6 false out=false:=by
   rcases fG with fG|fG
   ·exact fG
   have:=fG x xI;rw[ht] at this;cases this
  refine qH (σ:={j:Nat // i<=j/\j<=l.length/\∀y∈(l.drop i).take (j - i),y.text=true}) 3 4 (λq=>[(0,.list (aM l)),(4,.int .i64 q.1),(6,l9 (nc ((l.drop i).take (q.1 - i)))),(7,.str (nM ((l.drop i).take (q.1 - i))))]) (λ_=>aM out) (λq=>l.length - q.1) ⟨i,amy⟩ (λq=>by simp[ai,AV.aq,Ib]) ?_ ?_
  ·refine pZ 3 aj4 ?_ rfl rfl;simp only[ahc,ai0]
   repeat' constructor
  rintro⟨j,NR,hj,bV⟩;simp only[↓aX,mX,seval,ar];by_cases yE:∃y,l[j]?=some y/\y.text=true
  ·obtain⟨y,Kg,Fk⟩:=yE;have kE:j<l.length:=(afY.1 Kg).1;have Ch:=w1 j ajZ;rw[dT kE];have wF:(nM ((l.drop i).take (j - i))).length+y.s.length<=9223372036854775807:=by
    have h1:=Kf ((l.drop i).take (j - i));have h2:=ey (l.drop i) (j - i);have h3:=Ph l i;have h4:=iS _ _ _ Kg;have h5:=y.dL;unfold B at hx;omega
   have X8:nM ((l.drop i).take (j+1 - i))=nM ((l.drop i).take (j - i))++y.s:=(by rw[ng NR Kg,L6]);have Ti:=Fh ((l.drop i).take (j - i)) y;rw[<-ng NR Kg] at Ti;have Pj:∀z∈(l.drop i).take (j+1 - i),z.text=true:=by
    intro z hz;rw[ng NR Kg] at hz;simp only[agi,af'] at hz;rcases hz with hz|rfl
    ·exact bV z hz
    exact Fk
   simp only[↓aX,mX,seval,dc,Kg,fa,Tree.ax,Tree.cs,Fk,wF,Ch];cases hf:nc ((l.drop i).take (j - i)) with
   |some f=>
    simp only[↓aX,mX,seval,l9,JH,dc,Kg,fa,Tree.ax,Tree.cs,Fk,wF,Ch];refine⟨⟨j+1,ajK,kE,Pj⟩,ajM,pZ 3 aj4 ?_ rfl rfl⟩;simp only[X8,Ti,hf,Option.some_or]
    repeat' constructor
   |none=>
   simp only[↓aX,mX,seval,l9,JH,dc,Kg,fa,Tree.ax,Tree.cs,Fk,wF,Ch];cases hs:(y.s==[]) with
   |true=>
    simp only[↓aX,mX,seval,l9,JH,dc,Kg,fa,Tree.ax,Tree.cs,Fk,wF,Ch];refine⟨⟨j+1,ajK,kE,Pj⟩,ajM,pZ 3 aj4 ?_ rfl rfl⟩;simp only[X8,Ti,hf,hs,Option.none_or,agn,l9]
    repeat' constructor
   |false=>
   simp only[↓aX,mX,seval,l9,JH,dc,Kg,fa,Tree.ax,Tree.cs,Fk,wF,Ch];refine⟨⟨j+1,ajK,kE,Pj⟩,ajM,pZ 3 aj4 ?_ rfl rfl⟩;simp only[X8,Ti,hf,hs,Option.none_or,agl,agk,l9];refine⟨rfl,rfl,?_,rfl,trivial⟩;rw[<-Fk];rfl
  have Ci:∀y,l[j]?=some y->y.text=false:=λy hy=>by
   cases Fk:y.text with
   |false=>rfl
   |true=>exact absurd ⟨y,hy,Fk⟩ yE
  have cf:i≠j:=by rintro rfl;have:=Ci x xI;rw[ht] at this;cases this
  have gz:IntKind.i64.wrap ((j:Int) - 1)=(j:Int) - 1:=wrap64 ajK ajZ;have ml:IntKind.i64.wrap ((j:Int) - 1+1)=(j:Int):=akr
  have ig:l.take j=l.take i++(l.drop i).take (j - i):=by
   conv=>lhs;rw[show j=i+(j - i) by omega,List.take_add]
  have mm:=Cf ((l.drop i).take (j - i)) out bV zF;have yO:dB [] (l.take j)=dB out ((l.drop i).take (j - i)):=by rw[ig,rK,Fj]
  rw[mm] at yO;have Ch:=mF [] (l.take j);have afJ:=ey l j;have Tj:=bO (dB [] (l.take j));simp only[bH] at Ch;by_cases kE:j<l.length
  ·obtain⟨y,Kg⟩:=gE kE;rw[dT kE];have Fk:=Ci y Kg;simp only[↓aX,mX,seval,dc,Kg,fa,Tree.ax,Tree.cs,Fk,gz,ml];cases hf:nc ((l.drop i).take (j - i)) with
   |none=>
    simp only[↓aX,mX,seval,l9,JH,gz,ml];rw[hf] at yO;refine⟨⟨j,hj,.inr Ci⟩,ajM,pZ 3 aj4 ajT ?_ ?_⟩
    ·simp only[↓aX,mX,seval,yO,ar]
    simp only[↓aX,mX,seval,yO]
   |some f=>
   rw[hf] at yO;simp only at yO;have qD:f∈(l.drop i).take (j - i):=ajc hf;have hft:=bV f qD;have ux:f∈l:=ahf (agH qD);rw[yO] at Tj;simp only[age,agd,agx] at Tj;rw[yO] at Ch;have Dx:aM (out++[f.jn.kb (nM ((l.drop i).take (j - i)))])=aM out++[.agg [.bool true,.str (nM ((l.drop i).take (j - i))),.list (aQ f.attrs),.list (aM (cP f.kids))]]:=by
    rw[ed];simp only[aM,Tree.mY,Tree.cs,Dw,tw,f.gL,hft];rw[<-f.u7,<-f.yN];rfl
   simp only[↓aX,mX,seval,l9,JH,gz,ml,Tree.cs,hft];refine ah (hJ f ux) ?_;simp only[↓aX,mX,seval,gz,ml,ar];rw[bX 4 72 84 3 (aM out) (.agg [.bool true,.str (nM ((l.drop i).take (j - i))),.list (aQ f.attrs),.list (aM (cP f.kids))]) ajR hlen rfl aj0 ajZ ajN ajN ajX];simp only[↓aX,mX,seval,gz,ml];refine⟨⟨j,hj,.inr Ci⟩,ajM,pZ 84 aj4 ajT ?_ ?_⟩
   ·simp only[↓aX,mX,seval,yO,ar];simp
   simp only[↓aX,mX,seval,yO,Dx]
  rw[dF kE];simp only[↓aX,mX,seval,gz,ml];cases hf:nc ((l.drop i).take (j - i)) with
  |none=>
   simp only[↓aX,mX,seval,l9,JH,gz,ml];rw[hf] at yO;refine⟨⟨j,hj,.inr Ci⟩,ajM,pZ 3 aj4 ajT ?_ ?_⟩
   ·simp only[↓aX,mX,seval,yO,ar]
   simp only[↓aX,mX,seval,yO]
  |some f=>
  rw[hf] at yO;simp only at yO;have qD:f∈(l.drop i).take (j - i):=ajc hf;have hft:=bV f qD;have ux:f∈l:=ahf (agH qD);rw[yO] at Tj;simp only[age,agd,agx] at Tj;rw[yO] at Ch;have Dx:aM (out++[f.jn.kb (nM ((l.drop i).take (j - i)))])=aM out++[.agg [.bool true,.str (nM ((l.drop i).take (j - i))),.list (aQ f.attrs),.list (aM (cP f.kids))]]:=by
   rw[ed];simp only[aM,Tree.mY,Tree.cs,Dw,tw,f.gL,hft];rw[<-f.u7,<-f.yN];rfl
  simp only[↓aX,mX,seval,l9,JH,gz,ml,Tree.cs,hft];refine ah (hJ f ux) ?_;simp only[↓aX,mX,seval,gz,ml,ar];rw[bX 4 72 84 3 (aM out) (.agg [.bool true,.str (nM ((l.drop i).take (j - i))),.list (aQ f.attrs),.list (aM (cP f.kids))]) ajR hlen rfl aj0 ajZ ajN ajN ajX];simp only[↓aX,mX,seval,gz,ml];refine⟨⟨j,hj,.inr Ci⟩,ajM,pZ 84 aj4 ajT ?_ ?_⟩
  ·simp only[↓aX,mX,seval,yO,ar];simp
  simp only[↓aX,mX,seval,yO,Dx]
 have je:i=l.length:=aki
 subst je;simp only[↓aX,mX,seval,h];rw[agu];refine⟨4,aM (dB [] l),0,_,rfl,rfl,akD,gd _,?_⟩;simp only[cP,agu,agj,ar];congr 1;exact af2 alw

def Fl {M:List Tree->Prop} (step:∀l,(∀x∈l,M x.kids)->M l):∀l,M l:=by
 have key:∀(n:Nat) (l:List Tree),bH l<=n->M l:=by
  intro n;induction n with
  |zero=>
   intro l hn;refine step l λx hx=> ?_;obtain⟨i,hi⟩:=agE hx;have:=iS l i x hi;have:=x.dL;omega
  |succ n ih=>
  intro l hn;refine step l λx hx=>ih _ ?_;obtain⟨i,hi⟩:=agE hx;have:=iS l i x hi;have:=x.dL;omega
 exactλl=>key _ l (af6 _)
def kP {l:List Tree} {x:Tree} (h:x∈l):x.wt<=bH l:=by
 obtain⟨i,hi⟩:=agE h;exact iS l i x hi
def nZ (x:Tree):bH x.kids<=x.wt:=alI
def abM (x:Tree):x.s.length<=x.wt:=alI
def oS (x:Tree):fm x.attrs<=x.wt:=alI
theorem u9:∀{l:List Attr} {a:Attr},a∈l->a.wt<=fm l
 |[],a,h=>by simp at h
 |b::r,a,h=>by
  simp only[aga] at h;rcases h with rfl|h
  ·simp[fm]
  have:=u9 h;simp only[fm];omega
section
variable {P:Program} {G:Nat->Option (List IV)} [KN P G]
def Tm (l:List Tree):bH l<=B->aj P G 116 [.list (aM l)] (.list (aM (cP l))):=
 Fl (M:=λl=>bH l<=B->aj P G 116 [.list (aM l)] (.list (aM (cP l)))) (λl h hB=>Tg l hB λx hx=>h x hx alZ) l
def L8 (l:List Tree):bH l<=B->aj P G 80 [.list (aM l)] (.list (aM (cP l))):=
 Fl (M:=λl=>bH l<=B->aj P G 80 [.list (aM l)] (.list (aM (cP l)))) (λl h hB=>L7 l hB λx hx=>h x hx alZ) l
def Vx:∀x:Tree,x.wt<=B->aj P G 92 [x.av] (.bq [.int .i64 x.dep,.int .i64 x.cC]):=by
 have key:=Fl (M:=λl=>∀x∈l,x.wt<=B->aj P G 92 [x.av] (.bq [.int .i64 x.dep,.int .i64 x.cC])) (λl h x hx hB=>abC x hB λk hk=>h x hx k hk anp);exactλx=>key [x] x ajL
def Ic (l:List Tree):bH l<=B->aj P G 93 [.list (aM l)] (.bool (cD none l)):=by
 refine Fl (M:=λl=>bH l<=B->aj P G 93 [.list (aM l)] (.bool (cD none l))) (λl h hB=>XY l (by have:=bO l;omega) λx hx=> ?_) l;have h1:=kP hx;have h2:=nZ x;have h3:=abM x;have h4:=oS x;have h5:=fS x.attrs;refine Vu x (wB _ ajK) (wC _ ajK) (zv _ ajK (λa ha=>wC _ ?_) (λa ha=>wB _ ?_)) (h x hx ajK)
 ·have:=u9 ha;unfold Attr.wt at this;omega
 have:=u9 ha;unfold Attr.wt at this;omega
def Vy (x:Tree) (hB:x.wt<=B):aj P G 106 [x.av] (.bool x.iu):=by
 have h2:=nZ x;have h3:=abM x;have h4:=oS x;have h5:=fS x.attrs;refine Vu x (wB _ ajK) (wC _ ajK) (zv _ ajK (λa ha=>wC _ ?_) (λa ha=>wB _ ?_)) (Ic _ ajK)
 ·have:=u9 ha;unfold Attr.wt at this;omega
 have:=u9 ha;unfold Attr.wt at this;omega
end

def Tree.Fm (x:Tree) (p:Int):Node:=⟨x.text,x.s,x.attrs,p,[]⟩
def nh (d:Doc) (x:Tree) (p:Int) (i:Nat):Doc:=d++[x.Fm p]++ct (d.length+1) d.length (x.kids.take i)
def u_ (d:Doc) (x:Tree) (p:Int) (i:Nat):(nh d x p i).length=d.length+1+aJ (x.kids.take i):=by simp[nh,jV];omega
def L9 {d:Doc} {x:Tree} {p:Int} {i:Nat} {k:Tree} (h:x.kids[i]?=some k):nh d x p (i+1)=nh d x p i++k.flat (nh d x p i).length d.length:=by
 rw[u_];unfold nh;rw[agz,h,mE];simp[ct]
structure L_ (x:Tree) where
 i:Nat
 L:Lb
 u:Lb->Bool
 hi:i<=x.kids.length
 l0:L≠ .par 0
 l8:L≠ .loc 8
 l10:L≠ .loc 10
 l47:L≠ .loc 47
 lg:∀j,i<=j->L≠ .gen (1000+j)
 u10:u (.loc 10)=false
 u47:u (.loc 47)=false
 ug:∀j,i<=j->u (.gen (1000+j))=false
def oT {x:Tree} (q:L_ x):List Lb:=[.par 0,q.L,.loc 8]
def vb (d:Doc) {x:Tree} (q:L_ x):List (Nat×AV):=
 [(0,.ptr (.par 0) 1 0 0),(7,.int .i64 d.length),(8,.sl (.loc 8) 1 0 (aG (d.length+1) (x.kids.take q.i)).length),(35,.list (aM x.kids)),(36,.int .i64 x.kids.length),(37,.int .i64 q.i)]
def jA (d:Doc) (p:Int) {x:Tree} (q:L_ x):List (Lb×Row):=
 [(.par 0,⟨1,[[.sl q.L 5 0 (nh d x p q.i).length]]⟩),(q.L,⟨5,ak ((nh d x p q.i).map Node.iv)⟩),(.loc 8,⟨1,ak ((aG (d.length+1) (x.kids.take q.i)).map aC)⟩)]
def Ma {x:Tree} (d:Doc) (p:Int) (q:L_ x):∀r∈jA d p q,∀cs∈r.2.els,∀l∈ai cs,l∈oT q:=by
 intro r hr cs aZ l hl;simp only[jA,aga,agf,agI] at hr;rcases hr with rfl|rfl|rfl
 ·simp only[af'] at aZ;subst aZ;simp only[ai,AV.aq,agb,af'] at hl;subst hl;simp[oT]
 ·rw[bc aZ] at hl;simp at hl
 rw[bc aZ] at hl;simp at hl
def edU:List Ed:=[.f 16 6 (.rw [.loc 4] []),.f 16 8 (.rw [.loc 4] []),.f 16 10 (.rw [.loc 4] []),.a 8 (.own 8 1),.b 49 (.tj (.loc 8) 8),.f 16 4 (.rw [.par 0] []),.f 16 15 (.rw [] [.par 1,.gen 31,.loc 31]),.f 16 18 (.rw [] [.par 0])]
noncomputable def u_C:AC:=match(Ds 68 edU).Se (fun| .block 0 (.loop _)=>true|_=>false) with
 |some (.block _ (.loop c))=>c
 |_=> .skip
noncomputable def u_T:AC:=(Ds 68 edU).NS 49
def adX:=BI u_C
def adY:=BI u_T
def adZ (C T:AC):=XW 68 (edU++[.t 49 T]) λx=>(x.fst (fun| .block 0 (.loop _)=>true|_=>false) λ_=> .block 0 (.loop C)).1
def Fo {P:Program} {G:Nat->Option (List IV)} (x:Tree) (d:Doc) (p:Int) (hx:d.length+x.wt<=B)
  (hK:∀k∈x.kids,∀(d':Doc),d'.length+k.wt<=d.length+x.wt->H_ P G 5 68 [.ptr (.par 0) 1 0 0,k.av,.int .i64 d.length] (d'.map Node.iv) (.int .i64 d'.length) ((d'++k.flat d'.length d.length).map Node.iv))
  {Q:ir} {E:Env} {H:Hp} (q0:L_ x) (h0:∃m,WU (oT q0) q0.u (vb d q0) (jA d p q0) E H m)
  (Fj:∀(E':Env) (H':Hp) (L:Lb),L≠ .par 0->H' (.par 0)= .live ⟨1,[[.sl L 5 0 (d++x.flat d.length p).length]]⟩->H' L= .live ⟨5,ak ((d++x.flat d.length p).map Node.iv)⟩->E' 6= .int .i64 d.length->Q .ret E' H') :
  oL ⟨P,G,58⟩ Q u_C [.yF 0,.code (.gh (.tj (.loc 8) 8) u_T)] E H:=by
 have hlB:d.length<=B:=ajK
 have hwx:=x.dL;have xx:=bO x.kids;have p9:(x.Fm p).iv= .agg [.bool x.text,.str x.s,.list (aQ x.attrs),.int .i64 p,.list []]:=rfl;refine br (σ:=L_ x) oT (λq=>q.u) (vb d) (jA d p) (λq=>x.kids.length - q.i) q0 (λ_=>rfl) (λq=>by simp[ai,AV.aq,vb,oT]) (Ma d p) h0 ?_;intro q;have a0:cU q.u (jA d p q) (.par 0)= .live ⟨1,[[.sl q.L 5 0 (nh d x p q.i).length]]⟩:=by simp[cU,jA,eQ,aS]
 have aL:cU q.u (jA d p q) q.L= .live ⟨5,ak ((nh d x p q.i).map Node.iv)⟩:=by simp[cU,jA,eQ,aS,q.l0]
 have a8:cU q.u (jA d p q) (.loc 8)= .live ⟨1,ak ((aG (d.length+1) (x.kids.take q.i)).map aC)⟩:=by simp[cU,jA,eQ,aS,agQ q.l8]
 have a10:cU q.u (jA d p q) (.loc 10)= .unused:=by simp[cU,jA,eQ,aS,agQ q.l10,q.u10,Hp.none]
 have a47:cU q.u (jA d p q) (.loc 47)= .unused:=by simp[cU,jA,eQ,aS,agQ q.l47,q.u47,Hp.none]
 have ag:cU q.u (jA d p q) (.gen (1000+q.i))= .unused:=by simp[cU,jA,eQ,aS,agQ (q.lg q.i (af6 _)),q.ug q.i (af6 _),Hp.none]
 have anf:∀l:Lb,l.fresh=false->cU q.u (jA d p q) l≠ .unused->l= .par 0\/l=q.L\/q.u l=true:=by
  intro l hf hu;by_cases e0:l= .par 0
  ·exact .inl e0
  by_cases e1:l=q.L
  ·exact .inr (.inl e1)
  by_cases e2:q.u l=true
  ·exact .inr (.inr e2)
  exfalso;apply hu;have e3:l≠ .loc 8:=ak_
  simp[cU,jA,eQ,aS,e0,e1,e2,e3,Hp.none]
 have pf:ai ((vb d q).map Prod.snd)=[.par 0,.loc 8]:=by simp[ai,AV.aq,vb]
 generalize cU q.u (jA d p q)=H0 at *;have X9:=q.l10;have hn8:=q.l8;have X':=q.l47;have hi:=q.hi;have zd:(aG (d.length+1) (x.kids.take q.i)).length=q.i:=anJ
 have hct:=mo (x.kids.take q.i);have Kh:=ey x.kids q.i;rw[adX];simp only[↓aX,mX,seval,vb];refine j7 (λh=> ?_) (λh=> ?_)
 ·have aF:q.i<x.kids.length:=by simpa using h
  obtain⟨k,wE⟩:∃k,x.kids[q.i]?=some k:=⟨_,af7 aF⟩;have hw:=w1 q.i ajZ;have ig:x.kids.take (q.i+1)=x.kids.take q.i++[k]:=cn wE;have Hn:bH (x.kids.take q.i)+k.wt<=bH x.kids:=by
   have:=ey x.kids (q.i+1);rw[ig,dQ] at this;simp only[bH] at this;omega
  simp only[↓aX,mX,seval,dc,wE,fa,Tree.ax,Tree.cs,a10];refine Cb (l:= .par 0) (N:= .gen (1000+q.i)) (o:=some q.L) (hK k (af3 wE) (nh d x p q.i) (by rw[u_];omega)) rfl ⟨q.l0,by simp only[↓aX,mX,seval,a0,eD],by simp only[↓aX,mX,seval,aL,af8 X9]⟩ (by simp only[↓aX,mX,seval,ag]) (by intro h;simp[Lb.fresh] at h) ?_;rintro L' lS Vz ⟨b1,b2,b3⟩ et u5;have c8:lS (.loc 8)= .live ⟨1,ak ((aG (d.length+1) (x.kids.take q.i)).map aC)⟩:=by
   rw[et _ ajL ajL (by simpa using hn8)];simp only[↓aX,mX,seval,a8]
  have c47:lS (.loc 47)= .unused:=by
   rw[et _ ajL ajL (by simpa using X')];simp only[↓aX,mX,seval,a47]
  simp only[↓aX,mX,seval];rw[bX 1 8 47 8 ((aG (d.length+1) (x.kids.take q.i)).map aC) (.int .i64 (nh d x p q.i).length) c8 (by rw[eD]) rfl aj0 (by rw[zd];unfold B at hx;omega) ajN ajN c47];simp only[↓aX,mX,seval,hw];have hL8:L'≠ .loc 8:=by rcases Vz with rfl|e;simp;simp only[afZ] at e;rw[<-e];exact hn8
  have ad0:L'≠ .loc 10:=by rcases Vz with rfl|e;simp;simp only[afZ] at e;rw[<-e];exact X9
  have X_:L'≠ .loc 47:=by rcases Vz with rfl|e;simp;simp only[afZ] at e;rw[<-e];exact X'
  refine⟨{i:=q.i+1,L:=L',u:=λl=>q.u l||(decide (l=q.L)||decide (l= .gen (1000+q.i))),hi:=aF,l0:=b1,l8:=hL8,l10:=ad0,l47:=X_,lg:= ?_,u10:= ?_,u47:= ?_,ug:= ?_},ajM,[(.loc 8,.loc 47)],?_⟩
  ·intro j hj;rcases Vz with rfl|e
   ·simp;omega
   simp only[afZ] at e;rw[<-e];exact q.lg j ajK
  ·simp[q.u10,agQ X9]
  ·simp[q.u47,agQ X']
  ·intro j hj;have:=agQ (q.lg j ajK);simp[q.ug j ajK,this];omega
  have hP:=L9 (d:=d) (p:=p) wE;have Pk:aG (d.length+1) (x.kids.take (q.i+1))=aG (d.length+1) (x.kids.take q.i)++[((nh d x p q.i).length:Int)]:=by
   rw[ig,mZ,u_];simp[aG]
  refine⟨?_,?_,?_,?_,?_⟩
  ·intro l hf hu;by_cases e0:l= .par 0
   ·subst e0;simp[oT]
   by_cases e1:l=q.L
   ·right;simp[e1]
   by_cases e2:l= .gen (1000+q.i)
   ·right;simp[e2]
   have e3:l≠ .loc 47:=ak_;have e4:l≠ .loc 8:=ak_;have e5:l≠ .loc 10:=ak_;rw[an _ _ e3,an _ _ e4,et l e0 e2 (by simpa using agQ e1),an _ _ e5,an _ _ e5] at hu;rcases anf l hf hu with h|h|h
   ·exact absurd h e0
   ·exact absurd h e1
   right;simp[h]
  ·simp[vb,dp,aD,aH,put,zd,ig,mZ,aG]
  ·have r0:aD [(.loc 8,.loc 47)] (.par 0)= .par 0:=rfl;have rL:aD [(.loc 8,.loc 47)] L'=L':=(by simp[aD,hL8]);have r8:aD [(.loc 8,.loc 47)] (.loc 8)= .loc 47:=rfl;refine⟨?_,?_,?_,trivial⟩
   ·show aS (aS lS (.loc 8) .dead) (.loc 47) _ (.par 0)= .live (aP (aD [(.loc 8,.loc 47)]) ⟨1,[[.sl L' 5 0 (nh d x p (q.i+1)).length]]⟩);rw[an _ _ ajL,an _ _ ajL,b2,hP];simp[aP,aA,aH,rL]
   ·show aS (aS lS (.loc 8) .dead) (.loc 47) _ (aD [(.loc 8,.loc 47)] L')= .live (aP (aD [(.loc 8,.loc 47)]) ⟨5,ak ((nh d x p (q.i+1)).map Node.iv)⟩);rw[rL,an _ _ X_,an _ _ hL8,b3,aK,hP]
   show aS (aS lS (.loc 8) .dead) (.loc 47) _ (.loc 47)= .live (aP (aD [(.loc 8,.loc 47)]) ⟨1,ak ((aG (d.length+1) (x.kids.take (q.i+1))).map aC)⟩);rw[aK,Pk,ag2];simp only[↓aX,mX,seval];rfl
  ·simp[oT,aD,hL8,agQ b1,X_]
  intro l hl;simp only[oT,aga,agf,agI] at hl;rcases hl with rfl|rfl|rfl
  ·exact⟨id,λ_=>rfl⟩
  ·have rL:aD [(.loc 8,.loc 47)] l=l:=(by simp[aD,hL8]);rw[rL];exact⟨id,λ_=>rfl⟩
  exact⟨λ_=>rfl,λh=>by simp[Lb.fresh] at h⟩
 have je:q.i=x.kids.length:=aki
 have yk:x.kids.take q.i=x.kids:=by rw[je,agu]
 rw[yk] at a8;have xy:=u_ d x p q.i;have aF:d.length<(nh d x p q.i).length:=ajK
 have bU:(ak ((nh d x p q.i).map Node.iv))[d.length]?=some [.bool x.text,.str x.s,.list (aQ x.attrs),.int .i64 p,.list []]:=by
  rw[uY,ago,nh,agM,agr (af6 _),ahc];rfl
 simp only[↓aX,mX,seval,adY,h,yk];refine⟨1,(aG (d.length+1) x.kids).map aC,0,_,rfl,a8,ajL,mj _,?_⟩;simp only[↓aX,mX,seval,a0,aL,aF,hn8,bU,bw,eD];have Ie:(ak ((nh d x p q.i).map Node.iv)).set d.length ((x.node d.length p).iv.cells.map IV.dw)=ak ((d++x.flat d.length p).map Node.iv):=by
  rw[x.nY,zq,nh,yk];congr 1;simp[List.set_append]
 have sS:(d++x.flat d.length p).length=(nh d x p q.i).length:=by
  rw[age,x.dY,xy,yk,x.ff];omega
 refine Fj _ _ q.L q.l0 ?_ ?_ rfl
 ·rw[an _ _ (agQ q.l0),an _ _ ajL,a0,sS]
 rw[<-Ie];have:(List.take (aG (d.length+1) x.kids).length ((aG (d.length+1) x.kids).map aC))=(aG (d.length+1) x.kids).map aC:=af2 ajL;rw[this];simp only[↓aX,mX,seval];rfl
def ad1 {P:Program} {G:Nat->Option (List IV)} [KN P G] (x:Tree) (d:Doc) (p:Int) (hx:d.length+x.wt<=B)
  (hC:aj P G 45 [.list (aQ x.attrs)] (.list (aQ x.attrs)))
  (hK:∀k∈x.kids,∀(d':Doc),d'.length+k.wt<=d.length+x.wt->H_ P G 5 68 [.ptr (.par 0) 1 0 0,k.av,.int .i64 d.length] (d'.map Node.iv) (.int .i64 d'.length) ((d'++k.flat d'.length d.length).map Node.iv)) :
  H_ P G 5 68 [.ptr (.par 0) 1 0 0,x.av,.int .i64 p] (d.map Node.iv) (.int .i64 d.length) ((d++x.flat d.length p).map Node.iv):=by
 refine⟨akb,rfl,λb hb=> ?_⟩;refine e_ (XX (adZ u_C u_T)) ajL ?_ ?_ ?_
 ·rintro l ⟨r,h⟩;rcases gK h with⟨rfl,_⟩|⟨_,rfl,_⟩<;>rfl
 ·intro l hl;simp[ai,AV.aq,Tree.av] at hl;subst hl;cases b<;>simp[lL]
 have hlB:d.length<=B:=ajK
 have hwx:=x.dL;have xx:=bO x.kids;have p9:(x.Fm p).iv= .agg [.bool x.text,.str x.s,.list (aQ x.attrs),.int .i64 p,.list []]:=rfl;cases b with
 |true=>
  simp only[↓aX,mX,seval,lL,Tree.av,eD];refine⟨rfl,dG hC ?_⟩;simp only[↓aX,mX,seval];rw[Td 5 80 31 (.par 1) (d.map Node.iv) (.agg [.bool x.text,.str x.s,.list (aQ x.attrs),.int .i64 p,.list []]) rfl ajR ajL rfl aj0 (by unfold B at hlB;omega) ajN ajL ajX];simp only[↓aX,mX,seval,ar];refine⟨akc,?_⟩;refine Fo x d p hx hK {i:=0,L:= .gen 31,u:=λq=>decide (q= .par 1),hi:=agO _,l0:=by simp,l8:=by simp,l10:=by simp,l47:=by simp,lg:=λj _=>by simp;omega,u10:=by simp,u47:=by simp,ug:=λj _=>by simp} ⟨[],?_⟩ λE' H' L h1 h2 h3 h6=>by simp only[↓aX,mX,seval,↓cJ,h6];exact⟨L,h1,by rw[eD];exact h2,h3⟩
  refine⟨?_,?_,?_,by simp[oT,aD],λl _=>⟨id,λ_=>rfl⟩⟩
  ·intro l hf hu;by_cases e0:l= .par 0
   ·subst e0;simp[oT]
   by_cases e1:l= .gen 31
   ·subst e1;simp[oT]
   by_cases e2:l= .par 1
   ·subst e2;simp
   exfalso;apply hu;cases l<;>simp_all[Lb.fresh,ae,Hp.none]
  ·simp[vb,dp,aD,aH,aG,put,fH]
  simp[jA,eL,aD,ae,aP,aA,aH,nh,ct,aG,ak,Node.iv,Node.cs,Tree.Fm,IV.cells,IV.dw,lG]
 |false=>
 have hd:d=[]:=by simpa using hb rfl
 have Tn:d.length=0:=by rw[hd];rfl
 simp only[↓aX,mX,seval,lL,Tree.av];refine⟨rfl,dG hC ?_⟩;simp only[↓aX,mX,seval];rw[lI 5 80 31 [.agg [.bool x.text,.str x.s,.list (aQ x.attrs),.int .i64 p,.list []]] alE alq ajL ajN ajX];simp only[↓aX,mX,seval,ar];refine⟨ajL,?_⟩;refine Fo x d p hx hK {i:=0,L:= .loc 31,u:=λq=>false,hi:=agO _,l0:=by simp,l8:=by simp,l10:=by simp,l47:=by simp,lg:=λj _=>by simp,u10:=rfl,u47:=rfl,ug:=λj _=>rfl} ⟨[],?_⟩ λE' H' L h1 h2 h3 h6=>by simp only[↓aX,mX,seval,↓cJ,h6];exact⟨L,h1,by rw[eD];exact h2,h3⟩
 refine⟨?_,?_,?_,by simp[oT,aD],λl _=>⟨id,λ_=>rfl⟩⟩
 ·intro l hf hu;by_cases e0:l= .par 0
  ·subst e0;simp[oT]
  exfalso;apply hu;cases l<;>simp_all[Lb.fresh,ae,Hp.none]
 ·simp[vb,dp,aD,aH,aG,put,fH,hd]
 simp[jA,eL,aD,ae,aP,aA,aH,nh,ct,aG,ak,Node.iv,Node.cs,Tree.Fm,IV.cells,IV.dw,lG,hd]

theorem zG {p:Lb}:∀{ds:List AV},p∈ai ds->∃y∈ds,p∈y.aq
 |[],h=>by simp[ai] at h
 |y::r,h=>by
  simp only[ai,agi] at h;rcases h with h|h
  ·exact⟨y,ajL,h⟩
  obtain⟨z,hz,hp⟩:=zG h;exact⟨z,akI,hp⟩
def jW {S:St} {env:Env} {H:Hp} {q:Lb} {cs:List AV} {j d sz:Nat} (g1:H q= .live ⟨cs.length,[cs]⟩) (g2:cs[j]?=some .nil0) (g3:H (.loc d)= .unused) (g4:0<sz) :
  eE S env H env (aS (aS H (.loc d) (.live ⟨sz,[]⟩)) q (.live ⟨cs.length,[cs.set j (.sl (.loc d) sz 0 0)]⟩)):=by
 intro K β a w hKS hS hr;have hk:=hr.qx (.loc d) g3 (r:=⟨sz,[]⟩) (Below.refl _ _) none ajL ajL ⟨g4,ajL,ajL⟩;have Pl:q≠ .loc d:=amY
 have hq:aS H (.loc d) (.live ⟨sz,[]⟩) q= .live ⟨cs.length,[cs]⟩:=by rw[an _ _ Pl];exact g1
 have j9:0<cs.length:=(hr.rows q _ g1).1;have hbq:aS β (.loc d) none q=β q:=an _ _ Pl;cases hb:β q with
 |none=>
  have:=(hr.rows q _ g1).2.2;simp[hb] at this
 |some g=>
 obtain⟨cur,e0,cap,k1,k2,k3,k4,k5⟩:=(hk.rows q _ hq).block (hbq.trans hb);have kE:j<cs.length:=(afY.1 g2).1;have kH:=hk.setRow q (r':=⟨cs.length,[cs.set j (.sl (.loc d) sz 0 0)]⟩) (cur':=cur) (cap:=cap) hq (hbq.trans hb) k1 rfl rfl k2 k3 amM ajL
  (by
   intro ds Bw p hp;simp at Bw;subst Bw;obtain⟨y,hy,R_⟩:=zG hp;rcases ahq hy with hy|rfl
   ·obtain⟨m,hm⟩:=agE hy;exact hk.cB q _ hq cs ajL p (dW _ _ _ hm p R_)
   simp only[AV.aq,af'] at R_;subst R_;simp)
  (by
   intro i' j' ds x0 gT nI;cases i' with
   |succ i'=>simp at gT
   |zero=>
   simp at gT;subst gT;by_cases e:j'=j
   ·subst e;rw[ahj kE] at nI;cases nI;obtain⟨v,q1,q2⟩:=k5 0 j' cs _ ajL g2;simp only[RV] at q2;obtain⟨ad,rfl⟩:=q2;refine⟨_,q1,?_⟩;simp only[RV];exact⟨ad,0,rfl,af6 _,akZ,ajL,λ_=> .inl rfl⟩
   rw[ahg (agQ e)] at nI;exact k5 0 j' cs x0 ajL nI)
 have et:w.setRow g cur=w:=setRow_self w g cur e0 (0,0) k1;rw[et] at kH;exact⟨_,kH⟩
section
variable {env:Env} {H:Hp}
def cS (m:Option Nat) (t u:Nat) (R:AV->Hp->Prop):eZ [(some m,t),(none,u)] R .ret env H=yp (eV m (env t) H) (λx=>R (.bq [x,env u]) H) .mk:=by
 simp only[eZ,eY,qF,yp];cases eV m (env t) H<;>simp[fw]
end

inductive Sub:Nat->Int->Tree->Nat->Int->Tree->Prop
 |self (off:Nat) (p:Int) (t:Tree):Sub off p t off p t
 |Bm {off:Nat} {p:Int} {t:Tree} {n:Nat} {q:Int} {y:Tree} (a b:List Tree) (k:Tree):t.kids=a++k::b->Sub (off+1+aJ a) off k n q y->Sub off p t n q y
def jh (d:Doc) (n:Nat) (q:Int) (y:Tree):Prop:=∃post,d.drop n=y.flat n q++post
def Sub.Ig {off:Nat} {p:Int} {t:Tree} {n:Nat} {q:Int} {y:Tree} (h:Sub off p t n q y):off<=n/\n+y.cC<=off+t.cC:=by
 induction h with
 |self=>simp
 |@Bm off p t n q y a b k hk _ ih=>
 have h1:=t.ff
 grind [dM,aJ]
def Pm {α:Type} {a b c:List α} {n:Nat} (h:a.length=n):(a++b).drop n=b:=by subst h;simp
def Sub.vc {off:Nat} {p:Int} {t:Tree} {n:Nat} {q:Int} {y:Tree} (h:Sub off p t n q y):∀d:Doc,jh d off p t->jh d n q y:=by
 induction h with
 |self=>simp
 |@Bm off p t n q y a b k hk _ ih=>
 rintro d ⟨post,h⟩;refine ih d ⟨ct (off+1+aJ a+k.cC) off b++post,?_⟩;rw[t.nY,hk] at h;have h2:=(zz h).2;rw[mE] at h2;have h3:d.drop (off+1)=ct (off+1) off a++(ct (off+1+aJ a) off (k::b)++post):=by rw[h2];exact agM _ _ _
 rw[<-ahJ,h3,Pm (c:=[]) (jV _ _ _)];simp[ct]
def Sub.parent {off:Nat} {p:Int} {t:Tree} {n:Nat} {q:Int} {y:Tree} (h:Sub off p t n q y) :
  (n=off/\q=p/\y=t)\/∃(m:Nat) (z:Tree) (r:Int),q=(m:Int)/\Sub off p t m r z/\m<n/\n+y.cC<=m+z.cC/\y∈z.kids/\off<=m:=by
 induction h with
 |self=>simp
 |@Bm off p t n q y a b k hk hs ih=>
 right;rcases ih with⟨rfl,rfl,rfl⟩|⟨m,z,r,e1,e2,e3,e4,e5,e6⟩
 ·have h1:=t.ff;rw[hk,dM] at h1;simp only[aJ] at h1;exact⟨off,t,p,rfl,.self _ _ _,ajK,ajK,by rw[hk];simp,af6 _⟩
 exact⟨m,z,r,e1,.Bm a b k hk e2,e3,e4,e5,ajK⟩
def Sub.trans {off:Nat} {p:Int} {t:Tree} {n:Nat} {q:Int} {y:Tree} (h:Sub off p t n q y) {m:Nat} {r:Int} {z:Tree} (h2:Sub n q y m r z):Sub off p t m r z:=by
 induction h with
 |self=>grind
 |Bm a b k hk _ ih=>exact .Bm a b k hk (ih h2)
def Ki:∀(sz:Nat) (t:Tree) (off:Nat) (p:Int) (n:Nat),t.cC<=sz->off<=n->n<off+t.cC->∃q y,Sub off p t n q y:=by
 intro sz;induction sz with
 |zero=>grind
 |succ sz ih=>
 intro t off p n h h1 h2;by_cases e:n=off
 ·subst e;exact⟨_,_,.self _ _ _⟩
 have key:∀(ks a:List Tree),t.kids=a++ks->off+1+aJ a<=n->n<off+1+aJ a+aJ ks->∃q y,Sub off p t n q y:=by
  intro ks;induction ks with
  |nil=>grind [aJ]
  |cons k ks ihk=>
  intro a hk h3 h4;by_cases aF:n<off+1+aJ a+k.cC
  ·have hc:=t.ff;rw[hk,dM] at hc;simp only[aJ] at hc;obtain⟨q,y,hs⟩:=ih k (off+1+aJ a) off n ajK h3 aF;exact⟨q,y,.Bm a ks k hk hs⟩
  grind [aJ,dM]
 refine key t.kids [] rfl ?_ ?_
 ·grind [aJ]
 have:=t.ff;simp;omega
def jh.node {d:Doc} {n:Nat} {q:Int} {y:Tree} (h:jh d n q y):d[n]?=some (y.node n q):=by
 obtain⟨post,h⟩:=h;rw[y.nY] at h;exact(zz h).1
def jh.len {d:Doc} {n:Nat} {q:Int} {y:Tree} (h:jh d n q y):n+y.cC<=d.length:=by
 obtain⟨post,h⟩:=h;have:=ahp List.length h;rw[ahe,age,y.dY] at this;have:=y.ca;omega
def jh.Bm {d:Doc} {n:Nat} {q:Int} {y:Tree} (h:jh d n q y) (a b:List Tree) (k:Tree) (hk:y.kids=a++k::b):jh d (n+1+aJ a) n k:=
 (Sub.Bm (off:=n) (p:=q) a b k hk (.self _ _ _)).vc d h
def jh.uniq {d:Doc} {n:Nat} {q q':Int} {y y':Tree} (h:jh d n q y) (h':jh d n q' y'):y=y'/\q=q':=by
 have e:q=q':=by
  have:=h.node.symm.trans h'.node;simp at this;exact ahp Node.parent this
 subst e;obtain⟨post,h⟩:=h;obtain⟨abN,h'⟩:=h';exact⟨y.zA y' n q post abN (h.symm.trans h'),rfl⟩
def qM {t:Tree} {n:Nat} (h:n<(ay t).length):∃q y,jh (ay t) n q y/\Sub 0 (-1) t n q y:=by
 rw[eR] at h;obtain⟨q,y,hs⟩:=Ki t.cC t 0 (-1) n (af6 _) (agO _) ajK;exact⟨q,y,hs.vc _ ⟨[],akJ⟩,hs⟩
theorem rM:∀{p:Option Bool} {l:List Tree},cD p l=true->∀x∈l,x.iu=true
 |_,[],_,x,hx=>by simp at hx
 |p,y::r,h,x,hx=>by
  simp[cD,agm] at h;simp at hx;rcases hx with rfl|hx
  ·grind
  exact rM h.2.2 x hx
def Tree.wG {x:Tree} (h:x.iu=true):cD none x.kids=true:=by
 cases ht:x.text with
 |true=>
  rw[x.zw ht] at h;simp at h;rw[h.2.2.2];rfl
 |false=>
 rw[x.tu ht] at h
 grind
def Sub.iu {off:Nat} {p:Int} {t:Tree} {n:Nat} {q:Int} {y:Tree} (h:Sub off p t n q y):t.iu=true->y.iu=true:=by
 induction h with
 |self=>exact id
 |Bm a b k hk _ ih=>exactλh=>ih (rM (Tree.wG h) k (by rw[hk];simp))
def Tree.rN {x:Tree} (h:x.iu=true) (ht:x.text=true):x.kids=[]/\x.attrs=[]/\x.s≠[]:=by
 rw[x.zw ht] at h
 grind

def jX (xs:List Tree):List Tree:=xs.flatMap Tree.kids
theorem tz (x:Tree) (r:List Tree):jX (x::r)=x.kids++jX r:=by simp[jX]
theorem Cj:∀(xs:List Tree),xs≠[]->gU xs=gU (jX xs)+1
 |[],h=>absurd rfl h
 |[x],_=>by simp[jX,gU,x.qL]
 |x::y::r,_=>by
  have:=Cj (y::r) ajL;rw[tz,uZ];simp[gU,x.qL] at this ⊢;omega
theorem rO:∀(xs:List Tree),aJ xs=xs.length+aJ (jX xs)
 |[]=>by simp[jX,aJ]
 |x::r=>by rw[tz,dM];simp only[aJ,x.ff,rO r,agd];omega
theorem vd:∀(xs:List Tree),bH (jX xs)+xs.length<=bH xs
 |[]=>by simp[jX,bH]
 |x::r=>by
  have:=vd r;have:=x.dL
  grind [tz,dQ,bH]
def gp:Nat->List (Tree×Int)->List (Nat×Int)
 |_,[]=>[]
 |n,(t,p)::r=>(n,p)::gp (n+t.cC) r
def jj (j:Int) (ps:List (Nat×Int)):List Int:=(ps.filter λx=>x.2==j).map λx=>(x.1:Int)
def l_:Nat->List (Tree×Int)->List Node
 |_,[]=>[]
 |n,(t,p)::r=>t.flat n p++l_ (n+t.cC) r
def fill (ps:List (Nat×Int)):Nat->List Node->List Node
 |_,[]=>[]
 |j,x::r=>{x with kids:=x.kids++jj j ps}::fill ps (j+1) r
def whole (d:List Node) (l:List (Tree×Int)):List Node:=fill (gp d.length l) 0 d++l_ d.length l
theorem zH:∀(n:Nat) (a b:List (Tree×Int)),gp n (a++b)=gp n a++gp (n+aJ (a.map Prod.fst)) b
 |n,[],b=>by simp[gp,aJ]
 |n,(t,p)::a,b=>by simp only[List.cons_append,gp,zH _ a b,agC,aJ,agT]
theorem zI:∀(n:Nat) (a b:List (Tree×Int)),l_ n (a++b)=l_ n a++l_ (n+aJ (a.map Prod.fst)) b
 |n,[],b=>by simp[l_,aJ]
 |n,(t,p)::a,b=>by simp only[List.cons_append,l_,zI _ a b,agC,aJ,agT,agM]
theorem xK:∀(n m:Nat) (ks:List Tree),jj m (gp n (ks.map λk=>(k,(m:Int))))=aG n ks
 |n,m,[]=>rfl
 |n,m,k::r=>by
  have:=xK (n+k.cC) m r
  grind [gp,jj,aG]
theorem ve:∀(n m:Nat) (j:Int) (ks:List Tree),j≠m->jj j (gp n (ks.map λk=>(k,(m:Int))))=[]
 |n,m,j,[],_=>rfl
 |n,m,j,k::r,h=>by
  have:=ve (n+k.cC) m j r h
  grind [gp,jj]
theorem xL:∀(n m:Nat) (ks:List Tree),l_ n (ks.map λk=>(k,(m:Int)))=ct n m ks
 |n,m,[]=>rfl
 |n,m,k::r=>by simp only[agC,l_,ct,xL _ m r]
def zJ (j:Int) (a b:List (Nat×Int)):jj j (a++b)=jj j a++jj j b:=by simp[jj]
def xM (j:Int) (n:Nat) (p:Int) (b:List (Nat×Int)):jj j ((n,p)::b)=(if p=j then [(n:Int)] else [])++jj j b:=by
 grind [jj,ahP]
theorem zK (ps:List (Nat×Int)):∀(d:List Node) (j i:Nat),(fill ps j d)[i]?=d[i]?.map λx=>{x with kids:=x.kids++jj ((j+i:Nat):Int) ps}
 |[],j,i=>by simp[fill]
 |x::r,j,0=>by simp[fill]
 |x::r,j,i+1=>by simp only[fill,aho,zK ps r (j+1) i,show j+1+i=j+(i+1) by omega]
theorem qN (ps:List (Nat×Int)):∀(d:List Node) (j:Nat),(fill ps j d).length=d.length
 |[],j=>rfl
 |x::r,j=>by simp[fill,qN ps r]
theorem Fq:∀(d:List Node) (j:Nat),fill [] j d=d
 |[],j=>rfl
 |x::r,j=>by simp[fill,jj,Fq r]
def kQ (d:List Node) (p n:Int):List Node:=
 if 0<=p then match d[p.toNat]? with
  |some x=>d.set p.toNat {x with kids:=x.kids++[n]}
  |none=>d
 else d
def zL (d:List Node) (p n:Int):(kQ d p n).length=d.length:=by
 grind [kQ]
def Ih (d:List Node) (t:Tree) (p:Int) (r:List (Tree×Int)) (hp:p<d.length) (hr:∀x∈r,x.2<(d.length:Int)) :
  whole d ((t,p)::r)=whole (kQ (d++[⟨t.text,t.s,t.attrs,p,[]⟩]) p d.length) (t.kids.map (λk=>(k,(d.length:Int)))++r):=by
 have hlen:(kQ (d++[⟨t.text,t.s,t.attrs,p,[]⟩]) p d.length).length=d.length+1:=by rw[zL];simp
 have hc:d.length+t.cC=d.length+1+aJ ((t.kids.map λk=>(k,(d.length:Int))).map Prod.fst):=by
  rw[t.ff,aiE,show(Prod.fst∘λk:Tree=>(k,(d.length:Int)))=id from rfl,ajJ];omega
 unfold whole;rw[hlen,zH,zI,xL,<-hc];simp only[gp,l_,t.nY];have xD:((d.length:Int))≠p:=ajK
 have key:fill (gp (d.length+1) (t.kids.map λk=>(k,(d.length:Int)))++gp (d.length+t.cC) r) 0 (kQ (d++[⟨t.text,t.s,t.attrs,p,[]⟩]) p d.length) =
   fill ((d.length,p)::gp (d.length+t.cC) r) 0 d++[{t.node d.length p with kids:=aG (d.length+1) t.kids++jj d.length (gp (d.length+t.cC) r)}]:=by
  apply agV;intro i;rw[zK];simp only[agh];have wF:(kQ (d++[⟨t.text,t.s,t.attrs,p,[]⟩]) p d.length)[i]?=(d++[⟨t.text,t.s,t.attrs,p,[]⟩])[i]?.map λx=>if(i:Int)=p then {x with kids:=x.kids++[(d.length:Int)]} else x:=by
   unfold kQ;by_cases h0:0<=p
   ·rw[agc h0];obtain⟨q,rfl⟩:=ahx h0;have hq:q<d.length:=ajK;rw[af0,agB hq,af7 hq];simp only;rw[ah8];by_cases e:q=i
    ·subst e;rw[agc rfl,agc ajY,agB hq,af7 hq];simp
    rw[af8 e];have:¬(i:Int)=(q:Int):=ajK;cases (d++[(⟨t.text,t.s,t.attrs,(q:Int),[]⟩:Node)])[i]?<;>simp[this]
   rw[af8 h0];have:¬(i:Int)=p:=ajK;cases (d++[(⟨t.text,t.s,t.attrs,p,[]⟩:Node)])[i]?<;>simp[this]
  rw[wF];by_cases hi:i<d.length
  ·rw[agB hi,agB (by rw[qN];exact hi),zK,af7 hi];simp only[af9,agh];congr 1;rw[zJ,xM,ve _ _ _ _ ajK];by_cases e:(i:Int)=p
   ·rw[agc e,agc e.symm];simp
   rw[af8 e,af8 (agQ e)]
  by_cases e:i=d.length
  ·subst e;rw[agr (af6 _),agr (by rw[qN];exact af6 _),qN,ahc];simp only[agF,af9];rw[af8 xD];congr 1;rw[zJ,xK];rfl
  rw[agK ajY,agK (by rw[age,qN];simp;omega)];rfl
 rw[key];have oe:∀(n:Nat) (r:List (Tree×Int)),(∀x∈r,x.2<(d.length:Int))->jj d.length (gp n r)=[]:=by
  intro n r;induction r generalizing n with
  |nil=>intro _;rfl
  |cons x r ih=>
  obtain⟨t',p'⟩:=x;intro h;have h1:=h (t',p') ajL;simp only[gp,xM];rw[af8 (by simp only at h1;omega),ih _ (λy hy=>h y alK)];rfl
 rw[oe _ r hr];simp[Tree.node]
def Mb (d:List Node):whole d []=d:=by simp[whole,gp,l_,Fq]
def Fs (t:Tree):whole [] [(t,-1)]=ay t:=by simp[whole,gp,l_,fill,ay]

def bT (m:Int):Nat->List Node->List Nat
 |_,[]=>[]
 |j,x::r=>(if x.parent=m then [j] else [])++bT m (j+1) r
theorem kR (m:Int):∀(j:Nat) (a b:List Node),bT m j (a++b)=bT m j a++bT m (j+a.length) b
 |j,[],b=>by simp[bT]
 |j,x::a,b=>by simp only[List.cons_append,bT,kR m (j+1) a b,agd,agM,ajf 1,agT]
theorem tE (m:Int):∀(j:Nat) (a:List Node) (k:Nat),k∈bT m j a↔j<=k/\∃x,a[k - j]?=some x/\x.parent=m
 |j,[],k=>by simp[bT]
 |j,x::a,k=>by
  simp only[bT,agi,tE m (j+1) a k]
  grind
mutual
theorem Tree.Kj (off:Nat) (p m:Int):∀x:Tree,(m<off\/(off+x.cC:Nat)<=m)->bT m off (x.flat off p)=if p=m then [off] else []
 | .mk t s az ks,h=>by
  simp only[Tree.flat,bT];simp only[Tree.cC] at h;rw[vf (off+1) off m ks ajK ajK];simp
theorem vf (off p:Nat) (m:Int):∀xs:List Tree,(m<off\/(off+aJ xs:Nat)<=m)->(p:Int)≠m->bT m off (ct off p xs)=[]
 |[],_,_=>rfl
 |k::r,h,hp=>by
  simp only[aJ] at h;simp only[ct,kR,k.dY];rw[k.Kj off p m ajK,vf (off+k.cC) p m r ajK hp,af8 hp];rfl
end
def bC (off:Nat):List Tree->List Nat
 |[]=>[]
 |k::r=>off::bC (off+k.cC) r
theorem wH:∀(off:Nat) (xs:List Tree),(bC off xs).map (λk:Nat=>(k:Int))=aG off xs
 |_,[]=>rfl
 |off,k::r=>by simp[bC,aG,wH _ r]
theorem Ck (off p:Nat):∀xs:List Tree,p<off->bT p off (ct off p xs)=bC off xs
 |[],_=>rfl
 |k::r,h=>by
  simp[ct,kR,k.dY,bC];rw[k.Kj off p p ajK,Ck (off+k.cC) p r ajK];simp
def Sub.ad3 {off:Nat} {p:Int} {t:Tree} {n:Nat} {q:Int} {y:Tree} (h:Sub off p t n q y):p<off->bT n off (t.flat off p)=bC (n+1) y.kids:=by
 induction h with
 |self off p t=>
  intro hp;rw[t.nY];simp only[bT];rw[af8 (show ¬(t.node off p).parent=(off:Int) by show ¬p=(off:Int);omega),Ck (off+1) off t.kids ajK];rfl
 |@Bm off p t n q y a b k hk hs ih=>
 intro hp;have hr:=hs.Ig;have h1:=t.ff;rw[hk,dM] at h1;have hy:=y.ca;rw[t.nY,hk,mE];simp[bT,kR,jV,ct,k.dY];rw[af8 (show ¬(t.node off p).parent=(n:Int) by show ¬p=(n:Int);omega),vf (off+1) off n a ajK ajK,ih ajK,vf (off+1+aJ a+k.cC) off n b ajK ajK];simp
def Ft {t:Tree} {n:Nat} {q:Int} {y:Tree} (h:Sub 0 (-1) t n q y):bT n 0 (ay t)=bC (n+1) y.kids:=h.ad3 ajK
def ij (d:Doc):Nat->Nat->Tree
 |0,_=> .mk false [] [] []
 |f+1,n=>match d[n]? with
  |some x=> .mk x.text x.s x.attrs ((bT n (n+1) (d.drop (n+1))).map (ij d f))
  |none=> .mk false [] [] []
def Fu {d:Doc} {m:Int} {n:Nat} (h:∀k∈bT m 0 d,n<=k) (hn:n<=d.length):bT m n (d.drop n)=bT m 0 d:=by
 have e:d=d.take n++d.drop n:=(agD n d).symm;have h2:bT m 0 d=bT m 0 (d.take n)++bT m n (d.drop n):=by
  grind [kR]
 have h3:bT m 0 (d.take n)=[]:=by
  apply aij.2
  grind [tE,afY]
 grind
theorem qO:∀(off:Nat) (xs:List Tree),∀k∈bC off xs,off<=k
 |_,[],k,h=>by simp[bC] at h
 |off,x::r,k,h=>by
  simp[bC,aga] at h;rcases h with rfl|h
  ·simp
  have:=qO _ r k h;omega
theorem xN {t:Tree}:∀(f:Nat) (n:Nat) (q:Int) (y:Tree),Sub 0 (-1) t n q y->y.dep<=f->ij (ay t) f n=y:=by
 intro f;induction f with
 |zero=>intro n q y _ h;rw[y.qL] at h;omega
 |succ f ih=>
 intro n q y hs hd;have hl:=hs.vc (ay t) ⟨[],akJ⟩;have p9:=hl.node;have hlen:=hl.len;have hp:=Ft hs;have hy:=y.ca;unfold ij;rw[p9];rw[Fu (by rw[hp];exact qO _ _) ajK,hp];have kids:∀(b a:List Tree),y.kids=a++b->(bC (n+1+aJ a) b).map (ij (ay t) f)=b:=by
  intro b;induction b with
  |nil=>intro a _;rfl
  |cons k b ihb=>
  intro a hk;simp only[bC,agC];have hdk:k.dep<=f:=by
   have h1:=y.qL
   grind [uZ,gU]
  rw[ih _ n k (hs.trans (.Bm a b k hk (.self _ _ _))) hdk];have:=ihb (a++[k]) ajV
  grind [dM,aJ]
 have:=kids y.kids [] rfl;simp only[aJ] at this;rw[this];cases y;rfl

noncomputable def cY (d:Doc) (n:Int):Tree×Int:=if bQ d=true then(if 0<=n/\n<d.length then(ij d d.length n.toNat,0) else(.mk false [] [] [],3)) else(.mk false [] [] [],1)
def c_ (x:Tree):Doc×Int:=if x.cA=true then(ay x,0) else([],1)
section
variable {t:Tree}
def zM (ht:t.cA=true) {n:Nat} {q:Int} {y:Tree} (hs:Sub 0 (-1) t n q y):cY (ay t) n=(y,0):=by
 have h:=hs.vc (ay t) ⟨[],akJ⟩;have hl:=h.len;have hc:=y.ca;unfold cY;rw[agc (m_ ht),agc ⟨ajK,ajK⟩,af0];have hd:y.dep<=(ay t).length:=by
  have h1:=(fg t).1 ht;have h2:∀x:Tree,x.dep<=x.cC:=by
   have key:∀n:Nat,(∀x:Tree,x.cC<=n->x.dep<=x.cC)/\∀xs:List Tree,aJ xs<=n->gU xs<=aJ xs:=by
    intro n;induction n with
    |zero=>exact⟨λx h=>by have:=x.ca;omega,λxs h=>by cases xs with|nil=>simp[gU]|cons a r=>have:=a.ca;simp[aJ] at h;omega⟩
    |succ n ih=>
    have one:∀x:Tree,x.cC<=n+1->x.dep<=x.cC:=λx h=>by
     have:=ih.2 x.kids (by have:=x.ff;omega);rw[x.qL,x.ff];omega
    refine⟨one,λxs=> ?_⟩;induction xs with
    |nil=>grind [gU]
    |cons a r ihr=>
    grind [aJ,gU]
   exactλx=>(key x.cC).1 x (af6 _)
  grind
 grind [xN]
end

def Doc.av (d:Doc):AV:= .agg [.list (d.map Node.iv)]
section
variable {P:Program} {G:Nat->Option (List IV)} [KN P G]
def ad4 (hC:∀xs:List Attr,xs.length<=B->aj P G 45 [.list (aQ xs)] (.list (aQ xs))) (x:Tree) (d:Doc) (p:Int) (hx:d.length+x.wt<=B) :
  H_ P G 5 68 [.ptr (.par 0) 1 0 0,x.av,.int .i64 p] (d.map Node.iv) (.int .i64 d.length) ((d++x.flat d.length p).map Node.iv):=by
 have key:=Fl (M:=λl=>∀x∈l,∀(d:Doc) (p:Int),d.length+x.wt<=B->H_ P G 5 68 [.ptr (.par 0) 1 0 0,x.av,.int .i64 p] (d.map Node.iv) (.int .i64 d.length) ((d++x.flat d.length p).map Node.iv))
  (λl h x hx d p hB=>ad1 x d p hB (hC _ (by have:=oS x;have:=fS x.attrs;omega)) λk hk d' hd'=>h x hx k hk d' d.length ajK)
 exact key [x] x ajL d p hx
end
def abO {P:Program} {G:Nat->Option (List IV)} [KN P G] (x:Tree) (hx:x.wt<=B)
  (hG:aj P G 67 [x.av] (.bool x.cA)) (hP:H_ P G 5 68 [.ptr (.par 0) 1 0 0,x.av,.int .i64 (-1)] [] (.int .i64 0) ((ay x).map Node.iv)) :
  aj P G 30 [x.av] (.bq [Doc.av (c_ x).1,.int .i64 (c_ x).2]):=by
 refine cO (cw 30 [.r (.uJ (.loc 100) (.loc 2) 0)]) ajL akb alM ?_;simp only[↓aX,mX,seval,Tree.av];refine ah hG ?_;cases hg:x.cA with
 |false=>
  simp only[↓aX,mX,seval,cS];simp[norm,bP,c_,hg,Doc.av]
 |true=>
 simp only[↓aX,mX,seval];refine Cb (l:= .loc 4) (N:= .loc 100) (o:=none) hP rfl ⟨aj4,rfl⟩ aj4 (λ_=>⟨rfl,ajL⟩) ?_;rintro L' lS Vz ⟨b1,b2,b3⟩ et u5;have hL:L'= .loc 100:=by simpa using Vz
 subst hL;have c2:lS (.loc 2)= .live ⟨1,[[.nil0]]⟩:=by rw[et _ ajL ajL ajL];simp only[↓aX,mX,seval]
 simp only[↓aX,mX,seval,b2,c2,cS];refine⟨5,(ay x).map Node.iv,0,(ay x).length,[.sl (.loc 100) 5 0 (ay x).length],rfl,rfl,b3,ajL,ajL,J_ _,?_⟩;simp only[↓aX,mX,seval,cS,norm,bP,c_,hg,Doc.av,eD];simp;exact af2 ajL
def To {d:Doc} {f:Nat} {n p nx:Int} {x:Node} (hn:n=nx) (hx:d[n.toNat]?=some x) (hp:x.parent=p):wk d (f+1) n p nx=x.kids.foldlM (λq k=>wk d f k n q) (nx+1):=by
 rw[wk,agc hn,hx];simp[hp]
def Pn {d:Doc}:∀{f:Nat} {n p nx v:Int},0<=nx->wk d f n p nx=some v->nx<v/\v<=d.length:=by
 intro f n p nx v h0 h;have hn:n=nx:=by
  cases f with
  |zero=>simp[wk] at h
  |succ f=>rw[wk] at h;split at h;assumption;simp at h
 obtain⟨m,rfl⟩:∃m:Nat,nx=m:=⟨nx.toNat,ajK⟩;obtain⟨_,x,_,⟨post,h2⟩,rfl⟩:=Kc d f m n p v h;have hc:=x.ca;have:=ahp List.length h2;rw[ahe,age,x.dY] at this;omega
def Doc.iE {d:Doc} {n:Nat} {x:Node} (h:d[n]?=some x):(d.map Node.iv)[n]?=some x.iv:=by rw[ago,h];rfl
def pz (l:List Int) (i:Nat):(l.map aC)[i]?=(l[i]?).map aC:=ago ..
def VA {d:Doc} {f:Nat} {n p nx:Int} (h:n≠nx):wk d f n p nx=none:=by
 cases f with
 |zero=>rfl
 |succ f=>rw[wk,af8 h]
def Ya {d:Doc} {f:Nat} {n p nx:Int} (h:d[n.toNat]?=none):wk d f n p nx=none:=by
 cases f with
 |zero=>rfl
 |succ f=>rw[wk,h];simp
def Yb {d:Doc} {f:Nat} {n p nx:Int} {x:Node} (h:d[n.toNat]?=some x) (hp:x.parent≠p):wk d f n p nx=none:=by
 cases f with
 |zero=>rfl
 |succ f=>rw[wk,h];simp[hp]
def abP {P:Program} {G:Nat->Option (List IV)} [KN P G] (d:Doc) (hd:d.length<=B) (hk:∀x∈d,x.kids.length<=B):∀(f:Nat) (n p nx:Int),f<=8->0<=nx->nx<=B ->
  cM P G 117 [Doc.av d,.int .i64 n,.int .i64 p,.int .i64 (9 - (f:Int)),.ptr (.par 0) 1 0 0] [.int .i64 nx] λx cs=>∃v,x= .bool (wk d f n p nx).isSome/\cs=[.int .i64 v]/\∀r,wk d f n p nx=some r->v=r:=by
 intro f;induction f with
 |zero=>
  intro n p nx hf h0 hB;refine dk (cw 117 []) ajL aka ajO ?_;have hd9:decide ((9:Int) - ((0:Nat):Int)>8)=true:=ajN
  simp only[↓aX,mX,reduceCtorEq,Int.reduceLT,Nat.reduceEqDiff,Int.reduceLE,Nat.reduceLT,Nat.reduceLeDiff,Nat.reduceAdd,Nat.reduceMul,Int.reduceToNat,Doc.av,jK];cases h1:(n !=nx) with
  |true=>
   simp only[↓aX,mX,seval];exact⟨_,⟨nx,rfl,rfl,an6⟩,rfl,rfl,rfl,rfl⟩
  |false=>
  have:n=nx:=aj8
  subst this;obtain⟨m,rfl⟩:∃m:Nat,n=m:=⟨n.toNat,ajK⟩;cases hx:d[m]? with
  |none=>
   have EF:decide ((m:Int)>=(d.length:Int))=true:=by
    have:=aiB.1 hx;simp;omega
   simp only[↓aX,mX,seval,eD,EF];exact⟨_,⟨m,rfl,rfl,an6⟩,rfl,rfl,rfl,rfl⟩
  |some x=>
  have aF:=(afY.1 hx).1;have EF:decide ((m:Int)>=(d.length:Int))=false:=ajY
  simp only[↓aX,mX,reduceCtorEq,Int.reduceLT,Nat.reduceEqDiff,Int.reduceLE,Nat.reduceLT,Nat.reduceLeDiff,Nat.reduceAdd,Nat.reduceMul,Int.reduceToNat,eD,EF,Doc.iE hx,iY,Node.ax,Node.cs];cases h2:(x.parent !=p) with
  |true=>
   simp only[↓aX,mX,seval];exact⟨_,⟨m,rfl,rfl,an6⟩,rfl,rfl,rfl,rfl⟩
  |false=>
  simp only[↓aX,mX,reduceCtorEq,Int.reduceLT,Nat.reduceEqDiff,Int.reduceLE,Nat.reduceLT,Nat.reduceLeDiff,Nat.reduceAdd,Nat.reduceMul,Int.reduceToNat,hd9];exact⟨_,⟨m,rfl,rfl,an6⟩,rfl,rfl,rfl,rfl⟩
 |succ f ih=>
 intro n p nx hf h0 hB;refine dk (cw 117 []) ajL aka ajO ?_;have hd9:decide ((9:Int) - ((f+1:Nat):Int)>8)=false:=ajY
 have hw9:IntKind.i64.wrap ((9:Int) - ((f+1:Nat):Int)+1)=9 - (f:Int):=ajW
 simp only[↓aX,mX,seval,Doc.av,jK];cases h1:(n !=nx) with
 |true=>
  have Ep:n≠nx:=aj8
  simp only[↓aX,mX,seval];exact⟨_,⟨nx,by rw[VA Ep];rfl,rfl,by rw[VA Ep];simp⟩,rfl,rfl,rfl,rfl⟩
 |false=>
 have:n=nx:=aj8
 subst this;obtain⟨m,rfl⟩:∃m:Nat,n=m:=⟨n.toNat,ajK⟩;cases hx:d[m]? with
 |none=>
  have EF:decide ((m:Int)>=(d.length:Int))=true:=by
   have:=aiB.1 hx;simp;omega
  have Hn:wk d (f+1) (m:Int) p (m:Int)=none:=Ya ak5;simp only[↓aX,mX,seval,eD,EF];exact⟨_,⟨m,by rw[Hn];rfl,rfl,by rw[Hn];simp⟩,rfl,rfl,rfl,rfl⟩
 |some x=>
 have aF:=(afY.1 hx).1;have EF:decide ((m:Int)>=(d.length:Int))=false:=ajY
 have Mc:=hk x (af3 hx);have Sf:IntKind.i64.wrap ((m:Int)+1)=(m:Int)+1:=wrap64 ajK (by unfold B at hd;omega);simp only[↓aX,mX,seval,eD,EF,Doc.iE hx,iY,Node.ax,Node.cs];cases h2:(x.parent !=p) with
 |true=>
  have Hn:wk d (f+1) (m:Int) p (m:Int)=none:=Yb ak5 akN;simp only[↓aX,mX,seval];exact⟨_,⟨m,by rw[Hn];rfl,rfl,by rw[Hn];simp⟩,rfl,rfl,rfl,rfl⟩
 |false=>
 have hp:x.parent=p:=akN
 have fG:=To (d:=d) (f:=f) (n:=m) (nx:=m) rfl ak5 hp;simp only[↓aX,mX,seval,hd9,Sf,eD,Doc.iE hx,iY,Node.ax,Node.cs];refine b_ (σ:={q:Nat×Int // q.1<=x.kids.length/\0<=q.2/\q.2<=d.length/\wk d (f+1) (m:Int) p (m:Int)=(x.kids.drop q.1).foldlM (λq k=>wk d f k (m:Int) q) q.2}) [.par 0,.loc 5]
  (λq=>[(1,.int .i64 m),(3,.int .i64 (9 - ((f+1:Nat):Int))),(4,.ptr (.par 0) 1 0 0),(5,.ptr (.loc 5) 1 0 0),(49,.list (x.kids.map aC)),(50,.int .i64 x.kids.length),(51,.int .i64 q.1.1)])
  (λq=>[(.par 0,⟨1,[[.int .i64 q.1.2]]⟩),(.loc 5,⟨1,[[.list (d.map Node.iv)]]⟩)]) (λq=>x.kids.length - q.1.1) ⟨(0,(m:Int)+1),ajL,ajM,ajM,by rw[fG];rfl⟩
  (λ_=>rfl) ajN ajO ajO ?_ ?_
 ·refine eu ?_ ajT ajT;intro l hl hu;by_cases e:l= .par 0
  ·subst e;simp
  exact Dq
 rintro⟨⟨i,q⟩,hi,hq0,Pl,hs⟩;simp only at hi hq0 Pl hs;simp only[↓aX,mX,seval,aR,aI];by_cases aF:i<x.kids.length
 ·obtain⟨k,wE⟩:∃k,x.kids[i]?=some k:=⟨_,af7 aF⟩;have hw:=w1 i (by unfold B at Mc;omega);rw[dT aF];simp only[↓aX,mX,seval,pz,wE,mi,eD,af9,aC,IV.cells,hw9];refine ba (l:= .par 0) (ih k m q ajK hq0 (by unfold B at hd ⊢;omega)) rfl am3 ?_
  rintro x1 fB ⟨v,rfl,rfl,hv⟩ _ _ _;have hdr:x.kids.drop i=k::x.kids.drop (i+1):=drop_eq wE;rw[hdr,ajh] at hs;cases hr:wk d f k m q with
  |none=>
   rw[hr] at hs;simp only[aiX,aib] at hs;simp only[↓aX,mX,seval,ahG,af1];exact⟨_,⟨v,by rw[hs];rfl,rfl,by rw[hs];simp⟩,rfl,rfl,rfl,rfl⟩
  |some r=>
  have hvr:=hv r hr;subst hvr;rw[hr] at hs;simp only[aiX,af_] at hs;have hb:=Pn hq0 hr;simp only[↓aX,mX,seval,ai2,af4,hw];refine⟨⟨(i+1,v),aF,ajM,ajM,hs⟩,ajM,eu ?_ ajT ajT⟩;intro l hl hu;by_cases e:l= .par 0
  ·subst e;simp
  exact Dq
 have je:i=x.kids.length:=ajK
 subst je;rw[aic] at hs;simp only[List.foldlM_nil] at hs;rw[show decide ((x.kids.length:Int)<(x.kids.length:Int))=false by simp];simp only[↓aX,mX,seval];exact⟨_,⟨q,by rw[hs];rfl,rfl,by rw[hs];rintro r h;cases h;rfl⟩,rfl,rfl,rfl,rfl⟩

def dq (rs:List (Lb×Row)):cU (λ_=>false) rs=eQ rs:=by
 funext q;unfold cU;cases eQ rs q<;>rfl
theorem tF:∀(off:Nat) (xs:List Tree) (i:Nat),i<xs.length->(aG off xs)[i]?=some ((off+aJ (xs.take i):Nat):Int)
 |_,[],i,h=>by simp at h
 |off,x::r,0,_=>by simp[aG,aJ]
 |off,x::r,i+1,h=>by
  simp only[aG,aho,ahA,aJ];rw[tF (off+x.cC) r i aj6,agT]
def pAt {P:Program} {G:Nat->Option (List IV)} [KN P G] (d:Doc) (hd:d.length<=B) (n:Nat) (q:Int) (x:Tree) (hL:jh d n q x) (hx:x.wt<=B)
  (hC:aj P G 45 [.list (aQ x.attrs)] (.list (aQ x.attrs)))
  (hK:∀k∈x.kids,∀(m:Nat) (p:Int),jh d m p k->aj P G 73 [Doc.av d,.int .i64 m] k.av):aj P G 73 [Doc.av d,.int .i64 n] x.av:=by
 refine cO (cw 73 [.f 14 1 (.rw [.loc 5] []),.f 14 3 (.rw [.loc 5] []),.f 14 5 (.rw [.loc 5] []),.f 14 8 (.rw [] [.loc 6]),.f 14 9 (.rw [] [.loc 6]),.f 29 1 (.rw [.loc 6] []),.f 29 2 (.rw [.loc 2] []),.f 29 8 (.rw [] [.loc 6]),.b 25 .jf,.b 38 (.uJ (.loc 50) (.loc 6) 3),.f 29 6 (.rw [] [.loc 50,.loc 35])]) ajL aka (by simp[AV.aq,Tree.av,ai]) ?_;have p9:=hL.node;have hlen:=hL.len;have aF:=(afY.1 p9).1;have hwx:=x.dL;have xx:=bO x.kids;have zd:(aG (n+1) x.kids).length=x.kids.length:=ek _ _;simp only[↓aX,mX,seval,Doc.av,eD,Doc.iE p9,iY,Node.ax,Node.cs,Tree.node];refine⟨rfl,dG hC ?_⟩;simp only[↓aX,mX,seval,eD];rw[ec];refine⟨_,_,jW (q:= .loc 6) (cs:=[.bool x.text,.str x.s,.list (aQ x.attrs),.nil0]) (j:=3) (d:=50) (sz:=4) rfl rfl ajX ajN,?_⟩;simp only[↓aX,mX,seval];refine br (σ:={i:Nat // i<=x.kids.length}) (λ_=>[.loc 2,.loc 4,.loc 6,.loc 50]) (λ_ _=>false)
  (λq=>[(2,.ptr (.loc 2) 1 0 0),(4,.ptr (.loc 4) 4 0 0),(6,.ptr (.loc 6) 4 0 0),(23,.list ((aG (n+1) x.kids).map aC)),(24,.int .i64 x.kids.length),(25,.int .i64 q.1)])
  (λq=>[(.loc 2,⟨1,[[.list (d.map Node.iv)]]⟩),(.loc 4,⟨4,[[.bool false,.str [],.nil0,.nil0]]⟩),(.loc 6,⟨4,[[.bool x.text,.str x.s,.list (aQ x.attrs),.sl (.loc 50) 4 0 q.1]]⟩),(.loc 50,⟨4,ak (aM (x.kids.take q.1))⟩)])
  (λq=>x.kids.length - q.1) ⟨0,agO _⟩ (λ_=>rfl) (λq=>by simp[ai,AV.aq]) ?_ ⟨[],?_⟩ ?_
 ·exact aa5
 ·refine⟨?_,?_,?_,ajS,λl _=>⟨id,λ_=>rfl⟩⟩
  ·exact ow
  ·simp[dp,aD,aH,put,zd]
  simp[eL,aD,ae,aP,aA,aH,ak,aM]
 rintro⟨i,hi⟩;rw[dq];simp only[↓aX,mX,seval,aR,aI];by_cases aF:i<x.kids.length
 ·rw[dT aF];obtain⟨k,wE⟩:∃k,x.kids[i]?=some k:=⟨_,af7 aF⟩;have hw:=w1 i ajZ;have hg:=tF (n+1) x.kids i aF;simp only[↓aX,mX,seval,pz,hg,mi,eD,af9,aC,IV.cells];have hkm:=af3 wE;have hkL:jh d (n+1+aJ (x.kids.take i)) n k:=hL.Bm (x.kids.take i) (x.kids.drop (i+1)) k (by rw[<-drop_eq wE,agD]);have hl4:(aM (x.kids.take i)).length=i:=by rw[ar,agA];omega
  have za:aM (x.kids.take (i+1))=aM (x.kids.take i)++[.agg [.bool k.text,.str k.s,.list (aQ k.attrs),.list (aM k.kids)]]:=amo
  refine⟨rfl,dG (hK k hkm _ _ hkL) ?_⟩;simp only[↓aX,mX,seval,Tree.av];rw[bX 4 72 35 50 (aM (x.kids.take i)) (.agg [.bool k.text,.str k.s,.list (aQ k.attrs),.list (aM k.kids)]) ajR hl4 rfl aj0 ajZ ajN ajN ajX];simp only[↓aX,mX,seval,hw];refine⟨akc,?_⟩;refine⟨⟨i+1,aF⟩,ajM,[(.loc 50,.loc 35)],?_⟩;refine⟨?_,?_,?_,ajS,?_⟩
  ·exact ow
  ·exact wz
  ·have hr:∀xs:List IV,aP (aD [(.loc 50,.loc 35)]) ⟨4,ak xs⟩=⟨4,ak xs⟩:=λxs=>aK _ _ _;simp[eL,aD,ae,aP,aA,aH,za];simp[ak,lG]
  exact aa7
 have je:i=x.kids.length:=ajK
 subst je;rw[show decide ((x.kids.length:Int)<(x.kids.length:Int))=false by simp];simp only[↓aX,mX,seval,agu];refine⟨4,aM x.kids,0,x.kids.length,[.bool x.text,.str x.s,.list (aQ x.attrs),.sl (.loc 50) 4 0 x.kids.length],rfl,rfl,rfl,ajL,akD,gd _,?_⟩;simp only[↓aX,mX,seval,agj,af2 (show(aM x.kids).length<=x.kids.length by rw[ar];exact af6 _)];rfl

def Node.wt (x:Node):Nat:=1+x.s.length+fm x.attrs+x.kids.length
def mr:Doc->Nat
 |[]=>0
 |x::r=>x.wt+mr r
theorem vg:∀a b:Doc,mr (a++b)=mr a+mr b
 |[],b=>by simp[mr]
 |x::r,b=>by simp[mr,vg r b,agT]
theorem kc:∀d:Doc,d.length<=mr d
 |[]=>by simp
 |x::r=>by have:=kc r;simp only[mr,Node.wt,agd];omega
theorem vh:∀{d:Doc} {x:Node},x∈d->x.wt<=mr d
 |[],x,h=>by simp at h
 |y::r,x,h=>by
  simp only[aga] at h;rcases h with rfl|h
  ·simp[mr]
  have:=vh h;simp only[mr];omega
mutual
theorem Tree.Kk (off:Nat) (p:Int):∀x:Tree,x.wt<=mr (x.flat off p)
 | .mk t s az ks=>by
  have:=Fv (off+1) off ks;simp only[Tree.flat,mr,Node.wt,Tree.wt];omega
theorem Fv (off p:Nat):∀xs:List Tree,bH xs<=mr (ct off p xs)
 |[]=>by simp[bH]
 |k::r=>by
  have:=k.Kk off p;have:=Fv (off+k.cC) p r;simp only[ct,vg,bH];omega
end
def jh.wt {d:Doc} {n:Nat} {q:Int} {y:Tree} (h:jh d n q y):y.wt<=mr d:=by
 obtain⟨post,h⟩:=h;have h1:=y.Kk n q;have h2:=vg (d.take n) (d.drop n);rw[agD,h,vg] at h2;omega
section
variable {P:Program} {G:Nat->Option (List IV)} [KN P G]
def wAt (hC:∀xs:List Attr,xs.length<=B->aj P G 45 [.list (aQ xs)] (.list (aQ xs))) (d:Doc) (hd:mr d<=B) (n:Nat) (q:Int) (x:Tree) (hL:jh d n q x) :
  aj P G 73 [Doc.av d,.int .i64 n] x.av:=by
 have key:=Fl (M:=λl=>∀x∈l,∀(n:Nat) (q:Int),jh d n q x->aj P G 73 [Doc.av d,.int .i64 n] x.av)
  (λl h x hx n q hL=>pAt d (by have:=kc d;omega) n q x hL (by have:=hL.wt;omega) (hC _ (by have:=hL.wt;have:=oS x;have:=fS x.attrs;omega)) λk hk m p Vz=>h x hx k hk m p Vz)
 exact key [x] x ajL n q hL
end
def Fw (x:Tree):bQ (ay x)=x.cA:=by
 cases h:x.cA with
 |true=>exact m_ h
 |false=>exact oR λ⟨y,h1,h2⟩=>by rw[L5 h2,h1] at h;cases h
def zB.len {d:Doc} (h:zB d):1<=d.length/\d.length<=80:=by
 obtain⟨x,hx,rfl⟩:=h;have:=(fg x).1 hx;have:=x.ca;rw[eR];omega
def zB.wk {d:Doc} (h:zB d):wk d 8 0 (-1) 0=some (d.length:Int):=by
 obtain⟨x,hx,rfl⟩:=h;exact Tf ((fg x).1 hx).2.1
def Po {P:Program} {G:Nat->Option (List IV)} [KN P G] (d:Doc) (hd:mr d<=B)
  (hW:cM P G 117 [Doc.av d,.int .i64 0,.int .i64 (-1),.int .i64 (9 - ((8:Nat):Int)),.ptr (.par 0) 1 0 0] [.int .i64 0] λx cs=>∃v,x= .bool (wk d 8 0 (-1) 0).isSome/\cs=[.int .i64 v]/\∀r,wk d 8 0 (-1) 0=some r->v=r)
  (hA:∀x,d=ay x->aj P G 73 [Doc.av d,.int .i64 0] x.av) (hG:∀x,d=ay x->aj P G 67 [x.av] (.bool x.cA)):aj P G 72 [Doc.av d] (.bool (bQ d)):=by
 refine au (cw 72 []) ajL aka ajP ?_;have hlen:=kc d;simp only[↓aX,mX,seval,Doc.av,eD];cases h1:decide ((d.length:Int)<1) with
 |true=>
  have:bQ d=false:=oR λh=>by have:=h.len;simp at h1;omega
  simp only[↓aX,mX,seval,this]
 |false=>
 cases h2:decide ((d.length:Int)>80) with
 |true=>
  have:bQ d=false:=oR λh=>by have:=h.len;simp at h2;omega
  simp only[↓aX,mX,seval,eD,h2,this]
 |false=>
 simp only[↓aX,mX,seval,eD,h2];refine ba (l:= .loc 3) hW rfl am3 ?_
 rintro x1 fB ⟨v,rfl,rfl,hv⟩ _ _ _;cases hr:wk d 8 0 (-1) 0 with
 |none=>
  have:bQ d=false:=oR λh=>by have:=h.wk;rw[hr] at this;cases this
  simp only[↓aX,mX,seval,ahG,af1,this]
 |some r=>
 have:=hv r hr;subst this;simp only[↓aX,mX,seval,ai2,af4,eD];cases h3:(v !=(d.length:Int)) with
 |true=>
  have:bQ d=false:=oR λh=>by have:=h.wk;rw[hr] at this;cases this;simp at h3
  simp only[↓aX,mX,seval,this]
 |false=>
 have LA:v=d.length:=ak6
 rw[LA] at hr;obtain⟨x,nE,NT⟩:=X7 hr;simp only[↓aX,mX,seval];refine ah (hA x NT) ?_;simp only[↓aX,mX,seval];refine ah (hG x NT) ?_;simp only[↓aX,mX,seval];rw[NT,Fw]
def Pp {P:Program} {G:Nat->Option (List IV)} [KN P G] (d:Doc) (hd:mr d<=B) (n:Int)
  (hG:aj P G 72 [Doc.av d] (.bool (bQ d))) (hA:∀(m:Nat) (q:Int) (x:Tree),jh d m q x->aj P G 73 [Doc.av d,.int .i64 m] x.av) :
  aj P G 34 [Doc.av d,.int .i64 n] (.bq [(cY d n).1.av,.int .i64 (cY d n).2]):=by
 refine cO (cw 34 []) ajL aka ale ?_;simp only[↓aX,mX,seval,Doc.av,eD];refine ah hG ?_;cases hg:bQ d with
 |false=>
  simp only[↓aX,mX,seval,cS];simp[norm,bP,cY,hg,Tree.av,Tree.text,Tree.s,Tree.attrs,Tree.kids];exact⟨rfl,rfl⟩
 |true=>
 obtain⟨t,ht,rfl⟩:=dm.1 hg;simp only[↓aX,mX,seval,eD];cases h1:decide (n<0) with
 |true=>
  have:cY (ay t) n=(.mk false [] [] [],3):=by unfold cY;rw[agc hg,af8 alj]
  simp only[↓aX,mX,seval,cS];rw[this];rfl
 |false=>
 obtain⟨m,rfl⟩:∃m:Nat,n=m:=⟨n.toNat,alj⟩;simp only[↓aX,mX,seval,eD];cases h2:decide ((m:Int)>=((ay t).length:Int)) with
 |true=>
  have:cY (ay t) m=(.mk false [] [] [],3):=by unfold cY;rw[agc hg,af8 (by simp at h2;omega)]
  simp only[↓aX,mX,seval,cS];rw[this];rfl
 |false=>
 obtain⟨q,y,l,s⟩:=qM (t:=t) (n:=m) (by simp at h2;omega);simp only[↓aX,mX,seval];refine ah (hA m q y l) ?_;simp only[↓aX,mX,seval,cS,Tree.av];rw[zM ht s];rfl

def content (l:List Tree):Bool:=l.all (λx=>decide (x.dep<=8))&&(decide (aJ l<=80)&&cD none l)
def Fx {P:Program} {G:Nat->Option (List IV)} [KN P G] (l:List Tree) (hx:bH l<=B)
  (hS:∀x∈l,aj P G 92 [x.av] (.bq [.int .i64 x.dep,.int .i64 x.cC])) (hFs:aj P G 93 [.list (aM l)] (.bool (cD none l))):aj P G 57 [.list (aM l)] (.bool (content l)):=by
 refine au (cw 57 []) ajL ajO ajP ?_;have hl:=bO l;simp only[↓aX,mX,seval,ar];refine dj (σ:={i:Nat // i<=l.length/\(l.take i).all (λx=>decide (x.dep<=8))=true}) (λq=>[(0,.list (aM l)),(3,.int .i64 (aJ (l.take q.1))),(8,.list (aM l)),(9,.int .i64 l.length),(10,.int .i64 q.1)]) (λq=>l.length - q.1) ⟨0,ajL⟩ (λ_=>rfl) ?_ ?_
 ·exact qi
 rintro⟨i,hi,hs⟩;simp only[↓aX,mX,seval,ar];refine j7 (λh=> ?_) (λh=> ?_)
 ·have aF:i<l.length:=by simpa using h
  obtain⟨x,xI⟩:=gE aF;have hw:=w1 i ajZ;have h2:=ey l i;have h3:=mo (l.take i);have h5:=iS _ _ _ xI;have h6:=x.wD;have h1:l.take (i+1)=l.take i++[x]:=by rw[agz,xI];rfl
  have hc:IntKind.i64.wrap ((aJ (l.take i):Int)+(x.cC:Int))=((aJ (l.take (i+1)):Nat):Int):=by
   rw[wrap64 ajK ajZ,h1,dM];simp[aJ]
  simp only[↓aX,mX,seval,dc,xI,fa,Tree.ax,Tree.cs];refine ah (hS x (af3 xI)) ?_;simp only[↓aX,mX,seval];refine j7 (λh9=> ?_) (λh9=> ?_)
  ·exact abb
  exact abd
 have je:i=l.length:=aki
 subst je;rw[agu] at hs;simp only[↓aX,mX,seval,agu];cases h9:decide ((aJ l:Int)<=80) with
 |true=>
  simp only[↓aX,mX,seval];refine ah hFs ?_;simp only[↓aX,mX,seval];have:decide (aJ l<=80)=true:=ama
  rw[content,hs,this];rfl
 |false=>
 simp only[↓aX,mX,seval];have:decide (aJ l<=80)=false:=ama
 rw[content,hs,this];rfl

def Ii (x:Tree):jh (ay x) 0 (-1) x:=⟨[],akJ⟩

section
variable {P:Program}
def Sh.VB {t:TypeId} {y:IV} (h:Sh P t y) (hu:P.underlying t=some .bool):∃x,y= .bool x:=by
 cases h<;>simp_all
def Sh.Kl {t:TypeId} {y:IV} {k:IntKind} (h:Sh P t y) (hu:P.underlying t=some (.int k)):∃n,y= .int k n/\(Lit.int k n).wf=true:=by
 cases h<;>simp_all
def Sh.Cl {t:TypeId} {y:IV} (h:Sh P t y) (hu:P.underlying t=some .string):∃x,y= .str x:=by
 cases h<;>simp_all
def Sh.Cm {t e:TypeId} {y:IV} (h:Sh P t y) (hu:P.underlying t=some (.slice e)):∃ys,y= .list ys/\∀y∈ys,Sh P e y:=by
 cases h<;>simp_all
def Sh.Fy {t:TypeId} {fs:Array Field} {y:IV} (h:Sh P t y) (hu:P.underlying t=some (.struct fs)) :
  ∃ys,y= .agg ys/\ys.length=fs.size/\∀(j:Nat) (f:Field) (y:IV),fs[j]?=some f->ys[j]?=some y->Sh P f.type y:=by
 cases h with
 |g XT h1 h2=>
  rw[XT] at hu;cases hu;exact⟨_,rfl,h1,h2⟩
 |_=>simp_all
structure Ho (P:Program) where
 tB:TypeId
 tS:TypeId
 tA:TypeId
 tAs:TypeId
 tT:TypeId
 tTs:TypeId
 fA:Array Field
 fT:Array Field
 uB:P.underlying tB=some .bool
 uS:P.underlying tS=some .string
 uAs:P.underlying tAs=some (.slice tA)
 uTs:P.underlying tTs=some (.slice tT)
 uA:P.underlying tA=some (.struct fA)
 uT:P.underlying tT=some (.struct fT)
 sA:fA.toList.map (·.type)=[tS,tS]
 sT:fT.toList.map (·.type)=[tB,tS,tAs,tTs]
def fh {fs:Array Field} {ts:List TypeId} (h:fs.toList.map (·.type)=ts) (j:Nat) (t:TypeId) (ht:ts[j]?=some t):∃f,fs[j]?=some f/\f.type=t:=by
 subst h;rw[ago] at ht;obtain⟨f,h1,rfl⟩:=acF.1 ht;exact⟨f,aj8,rfl⟩
def Sh.attr (T:Ho P) {y:IV} (h:Sh P T.tA y):∃a:Attr,y=a.iv/\a.wt<=y.wt:=by
 obtain⟨ys,rfl,hl,hy⟩:=h.Fy T.uA;have hs:T.fA.size=2:=by have:=ahp List.length T.sA;simpa using this
 match ys,hl.trans hs,hy with
 |[y0,y1],_,hy=>
  obtain⟨f0,e0,t0⟩:=fh T.sA 0 T.tS rfl;obtain⟨f1,e1,t1⟩:=fh T.sA 1 T.tS rfl;have h0:=hy 0 f0 y0 e0 rfl;have h1:=hy 1 f1 y1 e1 rfl;rw[t0] at h0;rw[t1] at h1;obtain⟨x0,rfl⟩:=h0.Cl T.uS;obtain⟨x1,rfl⟩:=h1.Cl T.uS;exact⟨⟨x0,x1⟩,rfl,by simp[Attr.wt,IV.wt,ox];omega⟩
theorem Sh.attrs (T:Ho P):∀(ys:List IV),(∀y∈ys,Sh P T.tA y)->∃az,ys=aQ az/\fm az<=ox ys
 |[],_=>⟨[],rfl,by simp[fm,ox]⟩
 |y::r,h=>by
  obtain⟨a,rfl,h1⟩:=(h y ajL).attr T;obtain⟨az,rfl,h2⟩:=Sh.attrs T r (λz hz=>h z akI);exact⟨a::az,rfl,by simp only[fm,ox];omega⟩
def Sh.ky (T:Ho P):∀(n:Nat),(∀y:IV,y.wt<=n->Sh P T.tT y->∃x:Tree,y=x.iv/\x.wt<=y.wt)/\∀ys:List IV,ox ys<=n->(∀y∈ys,Sh P T.tT y)->∃xs,ys=aM xs/\bH xs<=ox ys:=by
 intro n;induction n with
 |zero=>
  refine⟨λy hy h=> ?_,λys hy h=> ?_⟩
  ·exfalso;cases y<;>simp[IV.wt] at hy
  cases ys with
  |nil=>exact⟨[],rfl,by simp[bH,ox]⟩
  |cons y r=>exfalso;cases y<;>simp[IV.wt,ox] at hy
 |succ n ih=>
 have one:∀y:IV,y.wt<=n+1->Sh P T.tT y->∃x:Tree,y=x.iv/\x.wt<=y.wt:=by
  intro y hy h;obtain⟨ys,rfl,hl,sM⟩:=h.Fy T.uT;have hs:T.fT.size=4:=by have:=ahp List.length T.sT;simpa using this
  match ys,hl.trans hs,sM,hy with
  |[y0,y1,y2,y3],_,sM,hy=>
   obtain⟨f0,e0,t0⟩:=fh T.sT 0 T.tB rfl;obtain⟨f1,e1,t1⟩:=fh T.sT 1 T.tS rfl;obtain⟨f2,e2,t2⟩:=fh T.sT 2 T.tAs rfl;obtain⟨f3,e3,t3⟩:=fh T.sT 3 T.tTs rfl;have h0:=sM 0 f0 y0 e0 rfl;have h1:=sM 1 f1 y1 e1 rfl;have h2:=sM 2 f2 y2 e2 rfl;have h3:=sM 3 f3 y3 e3 rfl;rw[t0] at h0;rw[t1] at h1;rw[t2] at h2;rw[t3] at h3;obtain⟨b,rfl⟩:=h0.VB T.uB;obtain⟨s,rfl⟩:=h1.Cl T.uS;obtain⟨z2,rfl,g2⟩:=h2.Cm T.uAs;obtain⟨z3,rfl,g3⟩:=h3.Cm T.uTs;obtain⟨az,rfl,w2⟩:=Sh.attrs T z2 g2;simp only[IV.wt,ox] at hy;obtain⟨ks,rfl,w3⟩:=ih.2 z3 ajK g3;exact⟨.mk b s az ks,by simp[Tree.iv],by simp only[Tree.wt,IV.wt,ox];omega⟩
 refine⟨one,λys=> ?_⟩;induction ys with
 |nil=>exactλ_ _=>⟨[],rfl,by simp[bH,ox]⟩
 |cons y r ihr=>
 intro hy h;simp only[ox] at hy;obtain⟨x,rfl,h1⟩:=one y ajK (h y ajL);obtain⟨xs,rfl,h2⟩:=ihr ajK (λz hz=>h z akI);exact⟨x::xs,rfl,by simp only[bH,ox];omega⟩
end

mutual
theorem Tree.zN (off:Nat) (p:Int):∀x:Tree,mr (x.flat off p)+1<=2*x.wt
 | .mk t s az ks=>by
  have:=xO (off+1) off ks;simp only[Tree.flat,mr,Node.wt,Tree.wt,ek];omega
theorem xO (off p:Nat):∀xs:List Tree,mr (ct off p xs)+xs.length<=2*bH xs
 |[]=>by simp[bH,ct,mr]
 |k::r=>by
  have:=k.zN off p;have:=xO (off+k.cC) p r;simp only[ct,vg,bH,agd];omega
end
theorem Pq (x:Tree):mr (ay x)<=2*x.wt:=by have:=x.zN 0 (-1);unfold ay;omega
section
variable {P:Program}
structure TyD (P:Program) (T:Ho P) where
 tI:TypeId
 tIs:TypeId
 tN:TypeId
 tNs:TypeId
 tD:TypeId
 fN:Array Field
 fD:Array Field
 uI:P.underlying tI=some (.int .i64)
 uIs:P.underlying tIs=some (.slice tI)
 uN:P.underlying tN=some (.struct fN)
 uNs:P.underlying tNs=some (.slice tN)
 uD:P.underlying tD=some (.struct fD)
 sN:fN.toList.map (·.type)=[T.tB,T.tS,T.tAs,tI,tIs]
 sD:fD.toList.map (·.type)=[tNs]
theorem Sh.ints {T:Ho P} (D:TyD P T):∀(ys:List IV),(∀y∈ys,Sh P D.tI y)->∃xs:List Int,ys=xs.map aC/\xs.length<=ox ys
 |[],_=>⟨[],rfl,by simp[ox]⟩
 |y::r,h=>by
  obtain⟨n,rfl,_⟩:=(h y ajL).Kl D.uI;obtain⟨xs,rfl,h2⟩:=Sh.ints D r (λz hz=>h z akI);exact⟨n::xs,rfl,by simp only[agd,ox,IV.wt];omega⟩
def Sh.node {T:Ho P} (D:TyD P T) {y:IV} (h:Sh P D.tN y):∃x:Node,y=x.iv/\x.wt<=y.wt:=by
 obtain⟨ys,rfl,hl,sM⟩:=h.Fy D.uN;have hs:D.fN.size=5:=by have:=ahp List.length D.sN;simpa using this
 match ys,hl.trans hs,sM with
 |[y0,y1,y2,y3,y4],_,sM=>
  obtain⟨f0,e0,t0⟩:=fh D.sN 0 T.tB rfl;obtain⟨f1,e1,t1⟩:=fh D.sN 1 T.tS rfl;obtain⟨f2,e2,t2⟩:=fh D.sN 2 T.tAs rfl;obtain⟨f3,e3,t3⟩:=fh D.sN 3 D.tI rfl;obtain⟨f4,e4,t4⟩:=fh D.sN 4 D.tIs rfl;have h0:=sM 0 f0 y0 e0 rfl;have h1:=sM 1 f1 y1 e1 rfl;have h2:=sM 2 f2 y2 e2 rfl;have h3:=sM 3 f3 y3 e3 rfl;have h4:=sM 4 f4 y4 e4 rfl;rw[t0] at h0;rw[t1] at h1;rw[t2] at h2;rw[t3] at h3;rw[t4] at h4;obtain⟨b,rfl⟩:=h0.VB T.uB;obtain⟨s,rfl⟩:=h1.Cl T.uS;obtain⟨z2,rfl,g2⟩:=h2.Cm T.uAs;obtain⟨p,rfl,_⟩:=h3.Kl D.uI;obtain⟨z4,rfl,g4⟩:=h4.Cm D.uIs;obtain⟨az,rfl,w2⟩:=Sh.attrs T z2 g2;obtain⟨ks,rfl,w4⟩:=Sh.ints D z4 g4;exact⟨⟨b,s,az,p,ks⟩,rfl,by simp only[Node.wt,IV.wt,ox];omega⟩
theorem Sh.nodes {T:Ho P} (D:TyD P T):∀(ys:List IV),(∀y∈ys,Sh P D.tN y)->∃d:Doc,ys=d.map Node.iv/\mr d<=ox ys
 |[],_=>⟨[],rfl,by simp[ox,mr]⟩
 |y::r,h=>by
  obtain⟨x,rfl,h1⟩:=(h y ajL).node D;obtain⟨d,rfl,h2⟩:=Sh.nodes D r (λz hz=>h z akI);exact⟨x::d,rfl,by simp only[mr,ox];omega⟩
end

structure Step where
 name:Bs
 n:Int
def Step.cs (x:Step):List IV:=[.str x.name,.int .i64 x.n]
def Step.iv (x:Step):IV:= .agg x.cs
def Step.av (x:Step):AV:= .agg [.str x.name,.int .i64 x.n]
def dZ (s:Step):Bool:=(s.name==[]||(s.name==[42]||named s.name))&&(decide (0<=s.n)&&decide (s.n<=99))
def bm (l:List Step):Bool:=l.all dZ&&(decide (1<=l.length)&&decide (l.length<=5))
def iZ (text:Bool) (s:Bs) (name:Bs):Bool:=if name==[]||text then name==[]&&text else name==[42]||name==s
def bI (d:Doc) (s:Step):Nat->List Int->List Int
 |_,[]=>[]
 |k,n::r=>match d[n.toNat]? with
  |some x=>if iZ x.text x.s s.name then(if s.n=0\/s.n=((k+1:Nat):Int) then n::bI d s (k+1) r else bI d s (k+1) r) else bI d s k r
  |none=>bI d s k r
def oU (d:Doc) (n:Int):List Int:=match d[n.toNat]? with
 |some x=>x.kids
 |none=>[]
def oh (d:Doc):List Int->List Step->List Int
 |now,[]=>now
 |now,s::l=>oh d (now.flatMap λn=>bI d s 0 (oU d n)) l
def cp (d:Doc):List Step->List Int
 |[]=>[]
 |s::l=>oh d (bI d s 0 [0]) l
theorem Fz (d:Doc):∀(l:List Step) (a b:List Int),oh d (a++b) l=oh d a l++oh d b l
 |[],a,b=>rfl
 |s::l,a,b=>by simp only[oh,aiY,Fz d l]
theorem zO (d:Doc):∀(l:List Step),oh d [] l=[]
 |[]=>rfl
 |s::l=>by simp only[oh,aji,zO d l]
theorem Cn (d:Doc):∀(l:List Step) (a:List Int),oh d a l=a.flatMap λn=>oh d [n] l
 |l,[]=>by simp[zO]
 |l,n::r=>by rw[show n::r=[n]++r from rfl,Fz,Cn d l r];simp
theorem Co (d:Doc) (s:Step):∀(l:List Step) (a:List Int),oh d a (l++[s])=(oh d a l).flatMap λn=>bI d s 0 (oU d n)
 |[],a=>rfl
 |t::l,a=>by simp only[List.cons_append,oh,Co d s l]
def fU (d:Doc) (name:Bs) (k:Nat):Bool:=match d[k]? with
 |some x=>iZ x.text x.s name
 |none=>false
def p_ (d:Doc) (p:Int) (k:Nat):Bool:=match d[k]? with
 |some x=>x.parent==p
 |none=>false
def pA (d:Doc) (p:Int) (name:Bs) (n:Nat):Nat:=((List.range (n+1)).filter λk=>p_ d p k&&fU d name k).length
def bx (d:Doc):List Step->Nat->Bool
 |[],_=>false
 |s::l,n=>match d[n]? with
  |some x=>fU d s.name n&&((if x.parent<0 then l.isEmpty else(!l.isEmpty&&bx d l x.parent.toNat))&&(s.n==0||s.n==((pA d x.parent s.name n:Nat):Int)))
  |none=>false

section
variable {P:Program}
structure TyP (P:Program) (T:Ho P) where
 tI:TypeId
 tP:TypeId
 tPs:TypeId
 fP:Array Field
 uI:P.underlying tI=some (.int .i64)
 uP:P.underlying tP=some (.struct fP)
 uPs:P.underlying tPs=some (.slice tP)
 sP:fP.toList.map (·.type)=[T.tS,tI]
def Sh.step {T:Ho P} (D:TyP P T) {y:IV} (h:Sh P D.tP y):∃x:Step,y=x.iv/\1+x.name.length<=y.wt:=by
 obtain⟨ys,rfl,hl,sM⟩:=h.Fy D.uP;have hs:D.fP.size=2:=by have:=ahp List.length D.sP;simpa using this
 match ys,hl.trans hs,sM with
 |[y0,y1],_,sM=>
  obtain⟨f0,e0,t0⟩:=fh D.sP 0 T.tS rfl;obtain⟨f1,e1,t1⟩:=fh D.sP 1 D.tI rfl;have h0:=sM 0 f0 y0 e0 rfl;have h1:=sM 1 f1 y1 e1 rfl;rw[t0] at h0;rw[t1] at h1;obtain⟨s,rfl⟩:=h0.Cl T.uS;obtain⟨p,rfl,_⟩:=h1.Kl D.uI;exact⟨⟨s,p⟩,rfl,by simp only[IV.wt,ox];omega⟩
end
end Go.Am
