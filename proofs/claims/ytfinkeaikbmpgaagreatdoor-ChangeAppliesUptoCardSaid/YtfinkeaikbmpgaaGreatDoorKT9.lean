import Derived.Test.YtfinkeaikbmpgaaGreatDoorKT7
set_option linter.unusedSimpArgs false
set_option linter.unusedVariables false
set_option linter.unnecessarySimpa false
set_option linter.defProp false
/- JoinedOf. -/
namespace Go.Am
open Go Go.RowKit
def ajb (ai5:Nat):AC:=
(aM [zi 2] (aM [zi 3] (.gh (.own 3 4) (.seq (aM [gH 4 0] (.block 0 (.loop (.seq (aM [MR 9 4,MR 10 0,oy 11 10,et 12 .lss 9 11] (.cond (.t 12) .skip (.exit 0))) (.seq (.block 1 (.seq (aM [MR 15 0,MR 16 4,jL 17 15 16 4,ep 18 17 0,fm 19 18,sB 20 19] (.cond (.t 20) (aM [MR 21 0,MR 22 4,jL 23 21 22 4,gz 24 4 23,aQ 5 (.new [(.bool false),(.str []),.nil0,.nil0]),gg (.store 4 (.t 5) (.t 24))] (aM [ep 25 5 3,fm 26 25,aQ 27 (.call ai5 [(.t 26)]),ep 28 5 3,gg (.store 1 (.t 28) (.t 27))] (aM [MR 29 3,gz 30 4 5,aQ 31 (.lits 1 4 [(.bool false),(.str []),.nil0,.nil0] [(0,(.t 30))]),aQ 32 (.app (.t 29) (.t 31) 4 72),MR 3 32] (.exit 1)))) .skip)) (aM [aQ 6 (.iC (.c .jK))] (aM [aQ 7 (.iC (.c (.str [])))] (.seq (.block 2 (.loop (.seq (aM [MR 33 4,MR 34 0,oy 35 34,et 36 .lss 33 35,MR 37 36,cU 38 37 0,cU 39 37 4,dW 40 37 (.Vc (.t 38) (.t 39) 4),Wb 41 37 40 0,jm 42 37 41,jT 43 37 42] (.cond (.t 43) .skip (.exit 2))) (.seq (.block 3 (aM [MR 46 7,MR 47 0,MR 48 4,jL 49 47 48 4,ep 50 49 1,fm 51 50,et 52 .add 46 51,MR 7 52] (aM [MR 53 6,aQ 54 (.zu false (.t 53) (.c .jK)),MR 55 54,cU 56 55 0,cU 57 55 4,dW 58 55 (.Vc (.t 56) (.t 57) 4),Wb 59 55 58 1,jm 60 55 59,dW 61 55 (.bin .neq (.t 60) (.c (.str []))),jT 62 55 61] (.cond (.t 62) (.cq [MR 63 0,MR 64 4,jL 65 63 64 4,MR 6 65]) .skip)))) (.cq [MR 44 4,eY 45 .add 44 1,MR 4 45]))))) (aM [MR 66 4,eY 67 .sub 66 1,MR 4 67] (aM [MR 68 6,aQ 69 (.zu true (.t 68) (.c .jK))] (.cond (.t 69) (aM [MR 70 6,aQ 71 (.dp (.t 70)),gz 72 4 71,aQ 8 (.new [(.bool false),(.str []),.nil0,.nil0]),gg (.store 4 (.t 8) (.t 72))] (aM [MR 73 7,MR 74 6,aQ 75 (.dp (.t 74)),ep 76 75 3,fm 77 76,aQ 78 (.call ai5 [(.t 77)]),ep 79 8 1,gg (.store 1 (.t 79) (.t 73)),ep 80 8 3,gg (.store 1 (.t 80) (.t 78))] (.cq [MR 81 3,gz 82 4 8,aQ 83 (.lits 1 4 [(.bool false),(.str []),.nil0,.nil0] [(0,(.t 82))]),aQ 84 (.app (.t 81) (.t 83) 4 72),MR 3 84]))) .skip)))))))) (.cq [MR 13 4,eY 14 .add 13 1,MR 4 14])))))) (aM [MR 85 3,MR 2 85] (.gh (.zS (.loc 3) 2) .ret))))))
def ajt:Option Tree→AV
 |none=> .jK
 |some f=> .lptr f.cs
def aj3 (o:Option Tree):(ajt o).an=[]:=by cases o<;>rfl
def Vl {α:Type} {l:List α} {i:Nat} {x:α} (h:l[i]?=some x):l.take (i+1)=l.take i++[x]:=by rw[fa,h];rfl
def ajv {α:Type} {l:List α} {i j:Nat} {x:α} (Et:i≤j) (h:l[j]?=some x):(l.drop i).take (j+1 - i)=(l.drop i).take (j - i)++[x]:=by
 rw[show j+1 - i=(j - i)+1 by omega];exact Vl (by rw[fG,show i+(j - i)=j by omega];exact h)
theorem aj_:∀xs:List Tree,(ajw xs).length≤dE xs
 |[]=>by simp[ajw,dE]
 |x::r=>by have:=aj_ r;have:=x.gx;simp only[ajw,oi,cy,dE] at *;omega
def akm (xs:List Tree) (i:Nat):dE (xs.drop i)≤dE xs:=by
 have:=kn (xs.take i) (xs.drop i);rw[dM] at this;omega
def akc {P:Program} {G:Nat→Option (List IV)} {ai5:Nat} (hF:aw P G ai5=some (86,[(none,2)],(ajb ai5).bare)) (l:List Tree) (hx:dE l≤B)
  (hJ:∀x∈l,au P G ai5 [.list (dq x.kids)] (.list (dq (Wf x.kids)))):au P G ai5 [.list (dq l)] (.list (dq (Wf l))):=by
 refine aR hF (by simp) (by simp[ah,AV.an]) (by simp[AV.an]) ?_;have hl:=eZ l;unfold ajb;simp only[↓aX,mX,seval,bF];refine xL (σ:={i:Nat // i≤l.length∧(Cd false (Xc [] (l.take i))=false∨∀x,l[i]?=some x→x.text=false)}) 3 4 (fun q=>[(0,.list (dq l)),(4,.int .i64 q.1)]) (fun q=>dq (Xc [] (l.take q.1))) (fun q=>l.length - q.1) ⟨0,by simp[Cd,Xc]⟩ (fun _=>rfl) ?_ ?_
 ·exact Gj 3 (by simp only[↓aX,mX,seval]) (by repeat' constructor) rfl rfl
 rintro⟨i,hi,g_⟩;have zO:=YA [] (l.take i);have pU:=lV l i;have wB:=eZ (Xc [] (l.take i));simp only[dE] at zO;simp only[↓aX,mX,seval,bF];refine AU (fun h=> ?_) (fun h=> ?_)
 ·have bI:i<l.length:=by simpa using h
  obtain⟨x,Ja⟩:∃x,l[i]?=some x:=⟨_,aC bI⟩;have hw:IntKind.i64.wrap ((i:Int)+1)=((i+1:Nat):Int):=wrap64 (by omega) (by unfold B at hx;omega);simp only[↓aX,mX,seval,h,iy,Ja,lT,Tree.cJ,Tree.cs];generalize ai0:Xc [] (l.take i)=out at *;have hlen:(dq out).length=out.length:=bF _;cases ht:x.text with
  |false=>
   have gr:Xc [] (l.take (i+1))=out++[x.jn]:=(by rw[Vl Ja,aaz,ai0,aj2 _ _ ht]);have agL:dq (out++[x.jn])=dq out++[.agg [.bool false,.str x.s,.list (cD x.attrs),.list (dq (Wf x.kids))]]:=by
    rw[qh];simp[dq,Tree.o_,Tree.cs,x.Yz,x.ad9,x.ad_,x.afC,ht]
   simp only[↓aX,mX,seval,h,iy,Ja,lT,Tree.cJ,Tree.cs,ht];refine ay (hJ x (aV Ja)) ?_;simp only[↓aX,mX,seval,bF];rw[qg 4 72 32 3 (dq out) (.agg [.bool false,.str x.s,.list (cD x.attrs),.list (dq (Wf x.kids))]) (by simp[ae]) hlen rfl (by simp[IV.cells]) (by unfold B at hx;omega) (by decide) (by decide) (by simp[ae,Hp.none])];simp only[↓aX,mX,seval,hw];refine⟨⟨i+1,bI,.inl (by rw[gr,ajC,x.Yz,ht])⟩,by simp only;omega,?_⟩;refine Gj 32 (by simp only[↓aX,mX,seval]) (by repeat' constructor) ?_ ?_
   ·simp only[↓aX,mX,seval,gr,bF];simp
   simp only[↓aX,mX,seval,gr,agL]
  |true=>
  simp only[↓aX,mX,seval];have TI:Cd false out=false:=by
   rcases g_ with g_|g_
   ·exact g_
   have:=g_ x Ja;rw[ht] at this;cases this
  refine xL (σ:={j:Nat // i≤j∧j≤l.length∧∀y∈(l.drop i).take (j - i),y.text=true}) 3 4 (fun q=>[(0,.list (dq l)),(4,.int .i64 q.1),(6,ajt (aju ((l.drop i).take (q.1 - i)))),(7,.str (ajw ((l.drop i).take (q.1 - i))))]) (fun _=>dq out) (fun q=>l.length - q.1) ⟨i,by simp[hi]⟩ (fun q=>by simp[ah,AV.an,aj3]) ?_ ?_
  ·refine Gj 3 (by simp only[↓aX,mX,seval]) ?_ rfl rfl;simp only[oj,v7]
   repeat' constructor
  rintro⟨j,Et,hj,dN⟩;simp only[↓aX,mX,seval,bF];by_cases wv:∃y,l[j]?=some y∧y.text=true
  ·obtain⟨y,MC,hyt⟩:=wv;have zk:j<l.length:=(aI.1 MC).1;have Ju:IntKind.i64.wrap ((j:Int)+1)=((j+1:Nat):Int):=wrap64 (by omega) (by unfold B at hx;omega);rw[show decide ((j:Int)<(l.length:Int))=true by simpa using zk];have Tm:(ajw ((l.drop i).take (j - i))).length+y.s.length≤9223372036854775807:=by
    have h1:=aj_ ((l.drop i).take (j - i));have h2:=lV (l.drop i) (j - i);have h3:=akm l i;have h4:=jx _ _ _ MC;have h5:=y.gx;unfold B at hx;omega
   have akA:ajw ((l.drop i).take (j+1 - i))=ajw ((l.drop i).take (j - i))++y.s:=(by rw[ajv Et MC,akb]);have akp:=ajY ((l.drop i).take (j - i)) y;rw[←ajv Et MC] at akp;have akn:∀z∈(l.drop i).take (j+1 - i),z.text=true:=by
    intro z hz;rw[ajv Et MC] at hz;simp only[aY,aW] at hz;rcases hz with hz|rfl
    ·exact dN z hz
    exact hyt
   simp only[↓aX,mX,seval,iy,MC,lT,Tree.cJ,Tree.cs,hyt,Tm,Ju];cases hf:aju ((l.drop i).take (j - i)) with
   |some f=>
    simp only[↓aX,mX,seval,ajt,JQ,iy,MC,lT,Tree.cJ,Tree.cs,hyt,Tm,Ju];refine⟨⟨j+1,by omega,zk,akn⟩,by simp only;omega,Gj 3 (by simp only[↓aX,mX,seval]) ?_ rfl rfl⟩;simp only[akA,akp,hf,Option.some_or]
    repeat' constructor
   |none=>
   simp only[↓aX,mX,seval,ajt,JQ,iy,MC,lT,Tree.cJ,Tree.cs,hyt,Tm,Ju];cases hs:(y.s==[]) with
   |true=>
    simp only[↓aX,mX,seval,ajt,JQ,iy,MC,lT,Tree.cJ,Tree.cs,hyt,Tm,Ju];refine⟨⟨j+1,by omega,zk,akn⟩,by simp only;omega,Gj 3 (by simp only[↓aX,mX,seval]) ?_ rfl rfl⟩;simp only[akA,akp,hf,hs,Option.none_or,eT,ajt]
    repeat' constructor
   |false=>
   simp only[↓aX,mX,seval,ajt,JQ,iy,MC,lT,Tree.cJ,Tree.cs,hyt,Tm,Ju];refine⟨⟨j+1,by omega,zk,akn⟩,by simp only;omega,Gj 3 (by simp only[↓aX,mX,seval]) ?_ rfl rfl⟩;simp only[akA,akp,hf,hs,Option.none_or,ic,fH,ajt];refine⟨rfl,rfl,?_,rfl,trivial⟩;rw[←hyt];rfl
  have ajS:∀y,l[j]?=some y→y.text=false:=fun y hy=>by
   cases hyt:y.text with
   |false=>rfl
   |true=>exact absurd ⟨y,hy,hyt⟩ wv
  have Vi:i≠j:=by rintro rfl;have:=ajS x Ja;rw[ht] at this;cases this
  have pU:IntKind.i64.wrap ((j:Int) - 1)=(j:Int) - 1:=wrap64 (by omega) (by unfold B at hx;omega);have wB:IntKind.i64.wrap ((j:Int) - 1+1)=(j:Int):=by rw[wrap64 (by omega) (by unfold B at hx;omega)];omega
  have E0:l.take j=l.take i++(l.drop i).take (j - i):=by
   conv=>lhs;rw[show j=i+(j - i) by omega,List.take_add]
  have gY:=ajR ((l.drop i).take (j - i)) out dN TI;have hjn:Xc [] (l.take j)=Xc out ((l.drop i).take (j - i)):=by rw[E0,aaz,ai0]
  rw[gY] at hjn;have Ju:=YA [] (l.take j);have akG:=lV l j;have akq:=eZ (Xc [] (l.take j));simp only[dE] at Ju;by_cases zk:j<l.length
  ·obtain⟨y,MC⟩:∃y,l[j]?=some y:=⟨_,aC zk⟩;rw[show decide ((j:Int)<(l.length:Int))=true by simpa using zk];have hyt:=ajS y MC;simp only[↓aX,mX,seval,iy,MC,lT,Tree.cJ,Tree.cs,hyt,pU,wB];cases hf:aju ((l.drop i).take (j - i)) with
   |none=>
    simp only[↓aX,mX,seval,ajt,JQ,pU,wB];rw[hf] at hjn;refine⟨⟨j,hj,.inr ajS⟩,by simp only;omega,Gj 3 (by simp only[↓aX,mX,seval]) (by repeat' constructor) ?_ ?_⟩
    ·simp only[↓aX,mX,seval,hjn,bF]
    simp only[↓aX,mX,seval,hjn]
   |some f=>
   rw[hf] at hjn;simp only at hjn;have oN:f∈(l.drop i).take (j - i):=vY hf;have hft:=dN f oN;have FO:f∈l:=iN (ec oN);rw[hjn] at akq;simp only[cy,cG,fE] at akq;rw[hjn] at Ju;have agL:dq (out++[f.jn.Gr (ajw ((l.drop i).take (j - i)))])=dq out++[.agg [.bool true,.str (ajw ((l.drop i).take (j - i))),.list (cD f.attrs),.list (dq (Wf f.kids))]]:=by
    rw[qh];simp only[dq,Tree.o_,Tree.cs,ajU,ajD,f.Yz,hft];rw[←f.ad_,←f.afC];rfl
   simp only[↓aX,mX,seval,ajt,JQ,pU,wB,Tree.cs,hft];refine ay (hJ f FO) ?_;simp only[↓aX,mX,seval,pU,wB,bF];rw[qg 4 72 84 3 (dq out) (.agg [.bool true,.str (ajw ((l.drop i).take (j - i))),.list (cD f.attrs),.list (dq (Wf f.kids))]) (by simp[ae]) hlen rfl (by simp[IV.cells]) (by unfold B at hx;omega) (by decide) (by decide) (by simp[ae,Hp.none])];simp only[↓aX,mX,seval,pU,wB];refine⟨⟨j,hj,.inr ajS⟩,by simp only;omega,Gj 84 (by simp only[↓aX,mX,seval]) (by repeat' constructor) ?_ ?_⟩
   ·simp only[↓aX,mX,seval,hjn,bF];simp
   simp only[↓aX,mX,seval,hjn,agL]
  rw[show decide ((j:Int)<(l.length:Int))=false by simpa using zk];simp only[↓aX,mX,seval,pU,wB];cases hf:aju ((l.drop i).take (j - i)) with
  |none=>
   simp only[↓aX,mX,seval,ajt,JQ,pU,wB];rw[hf] at hjn;refine⟨⟨j,hj,.inr ajS⟩,by simp only;omega,Gj 3 (by simp only[↓aX,mX,seval]) (by repeat' constructor) ?_ ?_⟩
   ·simp only[↓aX,mX,seval,hjn,bF]
   simp only[↓aX,mX,seval,hjn]
  |some f=>
  rw[hf] at hjn;simp only at hjn;have oN:f∈(l.drop i).take (j - i):=vY hf;have hft:=dN f oN;have FO:f∈l:=iN (ec oN);rw[hjn] at akq;simp only[cy,cG,fE] at akq;rw[hjn] at Ju;have agL:dq (out++[f.jn.Gr (ajw ((l.drop i).take (j - i)))])=dq out++[.agg [.bool true,.str (ajw ((l.drop i).take (j - i))),.list (cD f.attrs),.list (dq (Wf f.kids))]]:=by
   rw[qh];simp only[dq,Tree.o_,Tree.cs,ajU,ajD,f.Yz,hft];rw[←f.ad_,←f.afC];rfl
  simp only[↓aX,mX,seval,ajt,JQ,pU,wB,Tree.cs,hft];refine ay (hJ f FO) ?_;simp only[↓aX,mX,seval,pU,wB,bF];rw[qg 4 72 84 3 (dq out) (.agg [.bool true,.str (ajw ((l.drop i).take (j - i))),.list (cD f.attrs),.list (dq (Wf f.kids))]) (by simp[ae]) hlen rfl (by simp[IV.cells]) (by unfold B at hx;omega) (by decide) (by decide) (by simp[ae,Hp.none])];simp only[↓aX,mX,seval,pU,wB];refine⟨⟨j,hj,.inr ajS⟩,by simp only;omega,Gj 84 (by simp only[↓aX,mX,seval]) (by repeat' constructor) ?_ ?_⟩
  ·simp only[↓aX,mX,seval,hjn,bF];simp
  simp only[↓aX,mX,seval,hjn,agL]
 have XV:i=l.length:=by simp at h;omega
 subst XV;simp only[↓aX,mX,seval,h];rw[ea];refine⟨4,dq (Xc [] l),0,_,rfl,rfl,by rw[bF];omega,pa _,?_⟩;simp only[Wf,ea,e_,bF];congr 1;exact bo (by rw[bF];exact bm _)

def A4 {M:List Tree→Prop} (step:∀l,(∀x∈l,M x.kids)→M l):∀l,M l:=by
 have key:∀(n:Nat) (l:List Tree),dE l≤n→M l:=by
  intro n;induction n with
  |zero=>
   intro l hn;refine step l fun x hx=> ?_;obtain⟨i,hi⟩:=c_ hx;have:=jx l i x hi;have:=x.gx;omega
  |succ n ih=>
  intro l hn;refine step l fun x hx=>ih _ ?_;obtain⟨i,hi⟩:=c_ hx;have:=jx l i x hi;have:=x.gx;omega
 exact fun l=>key _ l (bm _)
def j_ {l:List Tree} {x:Tree} (h:x∈l):x.wt≤dE l:=by
 obtain⟨i,hi⟩:=c_ h;exact jx l i x hi
def jA (x:Tree):dE x.kids≤x.wt:=by have:=x.gx;omega
def Gs (x:Tree):x.s.length≤x.wt:=by have:=x.gx;omega
def lY (x:Tree):dX x.attrs≤x.wt:=by have:=x.gx;omega
theorem lZ:∀{l:List Attr} {a:Attr},a∈l→a.wt≤dX l
 |[],a,h=>by simp at h
 |b::r,a,h=>by
  simp only[bb] at h;rcases h with rfl|h
  ·simp[dX]
  have:=lZ h;simp only[dX];omega
section
variable {P:Program} {G:Nat→Option (List IV)}
def afF {mv:Nat} (hF:aw P G mv=some (59,[(none,2)],(Xi mv).bare)) (l:List Tree):dE l≤B→au P G mv [.list (dq l)] (.list (dq (Wf l))):=
 A4 (M:=fun l=>dE l≤B→au P G mv [.list (dq l)] (.list (dq (Wf l)))) (fun l h hB=>afD hF l hB fun x hx=>h x hx (by have:=j_ hx;have:=jA x;omega)) l
def akd {ai5:Nat} (hF:aw P G ai5=some (86,[(none,2)],(ajb ai5).bare)) (l:List Tree):dE l≤B→au P G ai5 [.list (dq l)] (.list (dq (Wf l))):=
 A4 (M:=fun l=>dE l≤B→au P G ai5 [.list (dq l)] (.list (dq (Wf l)))) (fun l h hB=>akc hF l hB fun x hx=>h x hx (by have:=j_ hx;have:=jA x;omega)) l
def Gt {g:Nat} (hF:aw P G g=some (32,[(none,2),(none,3)],(uz g).bare)):∀x:Tree,x.wt≤B→au P G g [x.av] (.gf [.int .i64 x.dep,.int .i64 x.jz]):=by
 have key:=A4 (M:=fun l=>∀x∈l,x.wt≤B→au P G g [x.av] (.gf [.int .i64 x.dep,.int .i64 x.jz])) (fun l h x hx hB=>Gm hF x hB fun k hk=>h x hx k hk (by have:=j_ hk;have:=jA x;omega));exact fun x=>key [x] x (by simp)
def xY {fP fN zm fF wA:Nat} (hP:aw P G fP=some (29,[(none,2)],nZ.bare)) (hN:aw P G fN=some (28,[(none,2)],n4.bare)) (hA:aw P G zm=some (41,[(none,2)],(hZ fN fP).bare))
  (hF:aw P G fF=some (38,[(none,2)],(rr fP fN zm wA).bare)) (Gn:aw P G wA=some (32,[(none,2)],(n_ fF).bare)) (l:List Tree):dE l≤B→au P G wA [.list (dq l)] (.bool (bQ none l)):=by
 refine A4 (M:=fun l=>dE l≤B→au P G wA [.list (dq l)] (.bool (bQ none l))) (fun l h hB=>D2 Gn l (by have:=eZ l;omega) fun x hx=> ?_) l;have h1:=j_ hx;have h2:=jA x;have h3:=Gs x;have h4:=lY x;have h5:=iz x.attrs;refine Cc hF x (qj hP _ (by omega)) (qk hN _ (by omega)) (n6 hA _ (by omega) (fun a ha=>qk hN _ ?_) (fun a ha=>qj hP _ ?_)) (h x hx (by omega))
 ·have:=lZ ha;unfold Attr.wt at this;omega
 have:=lZ ha;unfold Attr.wt at this;omega
def Gu {fP fN zm fF wA:Nat} (hP:aw P G fP=some (29,[(none,2)],nZ.bare)) (hN:aw P G fN=some (28,[(none,2)],n4.bare)) (hA:aw P G zm=some (41,[(none,2)],(hZ fN fP).bare))
  (hF:aw P G fF=some (38,[(none,2)],(rr fP fN zm wA).bare)) (Gn:aw P G wA=some (32,[(none,2)],(n_ fF).bare)) (x:Tree) (hB:x.wt≤B):au P G fF [x.av] (.bool x.fu):=by
 have h2:=jA x;have h3:=Gs x;have h4:=lY x;have h5:=iz x.attrs;refine Cc hF x (qj hP _ (by omega)) (qk hN _ (by omega)) (n6 hA _ (by omega) (fun a ha=>qk hN _ ?_) (fun a ha=>qj hP _ ?_)) (xY hP hN hA hF Gn _ (by omega))
 ·have:=lZ ha;unfold Attr.wt at this;omega
 have:=lZ ha;unfold Attr.wt at this;omega
end

def YB (iJ Vt:Nat):AC:=
(aM [sC 4 1,gH 6 0] (aM [MR 11 0,aQ 12 (.dp (.t 11)),ep 13 12 0,fm 14 13,oy 15 14,MR 7 15] (.seq (.VL [MR 16 0,MR 17 0,aQ 18 (.dp (.t 17)),ep 19 18 0,fm 20 19,ep 21 4 0,fm 22 21,ep 23 4 1,fm 24 23,ep 25 4 2,fm 26 25,aQ 27 (.call iJ [(.t 26)]),MR 28 2,aQ 29 (.sg [(.bool false),(.str []),.nil0,(.int .i64 0),.nil0] [(0,(1,(.t 22))),(1,(1,(.t 24))),(2,(1,(.t 27))),(3,(1,(.t 28)))]),aQ 30 (.lits 1 5 [(.bool false),(.str []),.nil0,(.int .i64 0),.nil0] [(0,(.t 29))]),aQ 31 (.app (.t 20) (.t 30) 5 80),aQ 32 (.dp (.t 16)),ep 33 32 0,gg (.store 1 (.t 33) (.t 31))] [[],[],[1],[2],[3],[],[5],[],[7],[],[9],[10],[],[6,8,11,12],[13],[4,14,11],[0,0,1,2,3,4,5,6,7,8,9,10,11,12,13,14,15],[16,0,1,2,3,4,5,6,7,8,9,10,11,12,13,14,15],[17,15,15,0,1,2,3,4,5,6,7,8,9,10,11,12,13,14,15]] [.no,.no,.no,.no,(.rw [.par 0] []),.no,.rw [.loc 4] [],.no,.rw [.loc 4] [],.no,.rw [.loc 4] [],.no,.no,.no,.no,(.rw [] [.par 1,.gen 31,.loc 31]),.no,.no,(.rw [] [.par 0])]) (aM [zi 8] (.gh (.own 8 1) (.seq (aM [ep 34 4 3,fm 35 34,oy 36 35,gH 37 0] (.block 0 (.loop (aM [et 38 .lss 37 36] (.seq (.cond (.t 38) .skip (.exit 0)) (.seq (.block 1 (aM [jL 39 35 37 4,gz 40 4 39,aQ 10 (.new [(.bool false),(.str []),.nil0,.nil0]),gg (.store 4 (.t 10) (.t 40))] (.cq [MR 41 8,MR 42 0,gz 43 4 10,MR 44 7,aQ 45 (.call Vt [(.t 42),(.t 43),(.t 44)]),aQ 46 (.lits 1 1 [(.int .i64 0)] [(0,(.t 45))]),aQ 47 (.app (.t 41) (.t 46) 1 8),MR 8 47]))) (.cq [eY 48 .add 37 1,MR 37 48]))))))) (.gh (.zS (.loc 8) 8) (aM [MR 49 0,aQ 50 (.dp (.t 49)),ep 51 50 0,fm 52 51,MR 53 7,MR 54 8,jL 55 52 53 5,ep 56 55 4,gg (.store 1 (.t 56) (.t 54))] (aM [MR 57 7,MR 6 57] .ret)))))))))
def Tree.acN (x:Tree) (p:Int):Node:=⟨x.text,x.s,x.attrs,p,[]⟩
def Wq (d:Doc) (x:Tree) (p:Int) (i:Nat):Doc:=d++[x.acN p]++fC (d.length+1) d.length (x.kids.take i)
def XE (d:Doc) (x:Tree) (p:Int) (i:Nat):(Wq d x p i).length=d.length+1+dP (x.kids.take i):=by simp[Wq,my];omega
def aaB {d:Doc} {x:Tree} {p:Int} {i:Nat} {k:Tree} (h:x.kids[i]?=some k):Wq d x p (i+1)=Wq d x p i++k.flat (Wq d x p i).length d.length:=by
 rw[XE];unfold Wq;rw[fa,h,pd];simp[fC]
structure Lk (x:Tree) where
 i:Nat
 L:Lb
 u:Lb→Bool
 hi:i≤x.kids.length
 l0:L≠ .par 0
 l8:L≠ .loc 8
 l10:L≠ .loc 10
 Mo:L≠ .loc 47
 lg:∀j,i≤j→L≠ .gen (1000+j)
 Mp:u (.loc 10)=false
 Mq:u (.loc 47)=false
 ug:∀j,i≤j→u (.gen (1000+j))=false
def Xr {x:Tree} (q:Lk x):List Lb:=[.par 0,q.L,.loc 8]
def XQ (d:Doc) {x:Tree} (q:Lk x):List (Nat×AV):=
 [(0,.ptr (.par 0) 1 0 0),(7,.int .i64 d.length),(8,.sl (.loc 8) 1 0 (mw (d.length+1) (x.kids.take q.i)).length),(35,.list (dq x.kids)),(36,.int .i64 x.kids.length),(37,.int .i64 q.i)]
def VE (d:Doc) (p:Int) {x:Tree} (q:Lk x):List (Lb×Row):=
 [(.par 0,⟨1,[[.sl q.L 5 0 (Wq d x p q.i).length]]⟩),(q.L,⟨5,aB ((Wq d x p q.i).map Node.iv)⟩),(.loc 8,⟨1,aB ((mw (d.length+1) (x.kids.take q.i)).map xX)⟩)]
def aaC {x:Tree} (d:Doc) (p:Int) (q:Lk x):∀r∈VE d p q,∀cs∈r.2.els,∀l∈ah cs,l∈Xr q:=by
 intro r hr cs bV l hl;simp only[VE,bb,b5,b7] at hr;rcases hr with rfl|rfl|rfl
 ·simp only[aW] at bV;subst bV;simp only[ah,AV.an,bO,aW] at hl;subst hl;simp[Xr]
 ·rw[bU bV] at hl;simp at hl
 rw[bU bV] at hl;simp at hl
def aip {P:Program} {G:Nat→Option (List IV)} {Vt iJ:Nat} (hF:aw P G Vt=some (58,[(none,6)],(YB iJ Vt).bare)) (x:Tree) (d:Doc) (p:Int) (hx:d.length+x.wt≤B)
  (hC:au P G iJ [.list (cD x.attrs)] (.list (cD x.attrs)))
  (hK:∀k∈x.kids,∀(d':Doc),d'.length+k.wt≤d.length+x.wt→adm P G 5 Vt [.ptr (.par 0) 1 0 0,k.av,.int .i64 d.length] (d'.map Node.iv) (.int .i64 d'.length) ((d'++k.flat d'.length d.length).map Node.iv)) :
  adm P G 5 Vt [.ptr (.par 0) 1 0 0,x.av,.int .i64 p] (d.map Node.iv) (.int .i64 d.length) ((d++x.flat d.length p).map Node.iv):=by
 refine⟨by simp[ah,AV.an,Tree.av],rfl,fun b hb=> ?_⟩;refine WY hF (by simp) ?_ ?_ ?_
 ·rintro l ⟨r,h⟩;rcases We h with⟨rfl,_⟩|⟨_,rfl,_⟩<;>rfl
 ·intro l hl;simp[ah,AV.an,Tree.av] at hl;subst hl;cases b<;>simp[Xq]
 have hlB:d.length≤B:=by omega
 have hwx:=x.gx;have Hm:=eZ x.kids;unfold YB;have Zs:(x.acN p).iv= .agg [.bool x.text,.str x.s,.list (cD x.attrs),.int .i64 p,.list []]:=rfl;cases b with
 |true=>
  simp only[↓aX,mX,seval,Xq,Tree.av,ax];refine⟨rfl,jw hC ?_⟩;simp only[↓aX,mX,seval];rw[afA 5 80 31 (.par 1) (d.map Node.iv) (.agg [.bool x.text,.str x.s,.list (cD x.attrs),.int .i64 p,.list []]) rfl (by simp[ae]) (by simp) rfl (by simp[IV.cells]) (by unfold B at hlB;omega) (by decide) (by simp) (by simp[ae,Hp.none])];simp only[↓aX,mX,seval,bF];refine⟨by rintro l (rfl|rfl)<;>simp[Lb.iQ],?_⟩;refine pe (σ:=Lk x) Xr (fun q=>q.u) (XQ d) (VE d p) (fun q=>x.kids.length - q.i)
   {i:=0,L:= .gen 31,u:=fun q=>decide (q= .par 1),hi:=gS _,l0:=by simp,l8:=by simp,l10:=by simp,Mo:=by simp,lg:=fun j _=>by simp;omega,Mp:=by simp,Mq:=by simp,ug:=fun j _=>by simp}
   (fun _=>rfl) (fun q=>by simp[ah,AV.an,XQ,Xr]) (aaC d p) ⟨[],?_⟩ ?_
  ·refine⟨?_,?_,?_,by simp[Xr,dn],fun l _=>⟨id,fun _=>rfl⟩⟩
   ·intro l hf hu;by_cases e0:l= .par 0
    ·subst e0;simp[Xr]
    by_cases e1:l= .gen 31
    ·subst e1;simp[Xr]
    by_cases e2:l= .par 1
    ·subst e2;simp
    exfalso;apply hu;cases l<;>simp_all[Lb.fresh,ae,Hp.none]
   ·simp[XQ,k_,dn,bJ,mw,put,jP]
   simp[VE,tc,dn,ae,dO,bu,bJ,Wq,fC,mw,aB,Node.iv,Node.cs,Tree.acN,IV.cells,IV.dQ,nT]
  intro q;have a0:ie q.u (VE d p q) (.par 0)= .live ⟨1,[[.sl q.L 5 0 (Wq d x p q.i).length]]⟩:=by simp[ie,VE,kl,bD]
  have aL:ie q.u (VE d p q) q.L= .live ⟨5,aB ((Wq d x p q.i).map Node.iv)⟩:=by simp[ie,VE,kl,bD,q.l0]
  have a8:ie q.u (VE d p q) (.loc 8)= .live ⟨1,aB ((mw (d.length+1) (x.kids.take q.i)).map xX)⟩:=by simp[ie,VE,kl,bD,dL q.l8]
  have a10:ie q.u (VE d p q) (.loc 10)= .unused:=by simp[ie,VE,kl,bD,dL q.l10,q.Mp,Hp.none]
  have a47:ie q.u (VE d p q) (.loc 47)= .unused:=by simp[ie,VE,kl,bD,dL q.Mo,q.Mq,Hp.none]
  have ag:ie q.u (VE d p q) (.gen (1000+q.i))= .unused:=by simp[ie,VE,kl,bD,dL (q.lg q.i (bm _)),q.ug q.i (bm _),Hp.none]
  have anf:∀l:Lb,l.fresh=false→ie q.u (VE d p q) l≠ .unused→l= .par 0∨l=q.L∨q.u l=true:=by
   intro l hf hu;by_cases e0:l= .par 0
   ·exact .inl e0
   by_cases e1:l=q.L
   ·exact .inr (.inl e1)
   by_cases e2:q.u l=true
   ·exact .inr (.inr e2)
   exfalso;apply hu;have e3:l≠ .loc 8:=(by rintro rfl;simp[Lb.fresh] at hf);simp[ie,VE,kl,bD,e0,e1,e2,e3,Hp.none]
  have lr:ah ((XQ d q).map Prod.snd)=[.par 0,.loc 8]:=by simp[ah,AV.an,XQ]
  generalize ie q.u (VE d p q)=H0 at *;have ab_:=q.l10;have MN:=q.l8;have aca:=q.Mo;have hi:=q.hi;have JV:(mw (d.length+1) (x.kids.take q.i)).length=q.i:=by rw[VS,cT];omega
  have Lp:=ql (x.kids.take q.i);have MA:=lV x.kids q.i;simp only[↓aX,mX,seval,XQ];refine AU (fun h=> ?_) (fun h=> ?_)
  ·have bI:q.i<x.kids.length:=(by simpa using h);obtain⟨k,HA⟩:∃k,x.kids[q.i]?=some k:=⟨_,aC bI⟩;have hw:IntKind.i64.wrap ((q.i:Int)+1)=((q.i+1:Nat):Int):=wrap64 (by omega) (by unfold B at hx;omega);have E0:x.kids.take (q.i+1)=x.kids.take q.i++[k]:=Vl HA;have ME:dE (x.kids.take q.i)+k.wt≤dE x.kids:=by
    have:=lV x.kids (q.i+1);rw[E0,kn] at this;simp only[dE] at this;omega
   simp only[↓aX,mX,seval,iy,HA,lT,Tree.cJ,Tree.cs,a10];refine Zf (l:= .par 0) (N:= .gen (1000+q.i)) (o:=some q.L) (hK k (aV HA) (Wq d x p q.i) (by rw[XE];omega)) rfl ⟨q.l0,by simp only[↓aX,mX,seval,a0,ax],by simp only[↓aX,mX,seval,aL,a_ ab_]⟩ (by simp only[↓aX,mX,seval,ag]) (by intro h;simp[Lb.fresh] at h) ?_;rintro L' kK hL' ⟨b1,b2,b3⟩ j0 GJ;have c8:kK (.loc 8)= .live ⟨1,aB ((mw (d.length+1) (x.kids.take q.i)).map xX)⟩:=by
    rw[j0 _ (by simp) (by simp) (by simpa using MN)];simp only[↓aX,mX,seval,a8]
   have LK:kK (.loc 47)= .unused:=by
    rw[j0 _ (by simp) (by simp) (by simpa using aca)];simp only[↓aX,mX,seval,a47]
   simp only[↓aX,mX,seval];rw[qg 1 8 47 8 ((mw (d.length+1) (x.kids.take q.i)).map xX) (.int .i64 (Wq d x p q.i).length) c8 (by rw[ax]) rfl (by simp[IV.cells]) (by rw[JV];unfold B at hx;omega) (by decide) (by decide) LK];simp only[↓aX,mX,seval,hw];have hL8:L'≠ .loc 8:=by rcases hL' with rfl|e;simp;simp only[di] at e;rw[←e];exact MN
   have agM:L'≠ .loc 10:=by rcases hL' with rfl|e;simp;simp only[di] at e;rw[←e];exact ab_
   have acb:L'≠ .loc 47:=by rcases hL' with rfl|e;simp;simp only[di] at e;rw[←e];exact aca
   refine⟨{i:=q.i+1,L:=L',u:=fun l=>q.u l||(decide (l=q.L)||decide (l= .gen (1000+q.i))),hi:=bI,l0:=b1,l8:=hL8,l10:=agM,Mo:=acb,lg:= ?_,Mp:= ?_,Mq:= ?_,ug:= ?_},by simp only;omega,[(.loc 8,.loc 47)],?_⟩
   ·intro j hj;rcases hL' with rfl|e
    ·simp;omega
    simp only[di] at e;rw[←e];exact q.lg j (by omega)
   ·simp[q.Mp,dL ab_]
   ·simp[q.Mq,dL aca]
   ·intro j hj;have:=dL (q.lg j (by omega));simp[q.ug j (by omega),this];omega
   have hP:=aaB (d:=d) (p:=p) HA;have acd:mw (d.length+1) (x.kids.take (q.i+1))=mw (d.length+1) (x.kids.take q.i)++[((Wq d x p q.i).length:Int)]:=by
    rw[E0,WZ,XE];simp[mw]
   refine⟨?_,?_,?_,?_,?_⟩
   ·intro l hf hu;by_cases e0:l= .par 0
    ·subst e0;simp[Xr]
    by_cases e1:l=q.L
    ·right;simp[e1]
    by_cases e2:l= .gen (1000+q.i)
    ·right;simp[e2]
    have e3:l≠ .loc 47:=(by rintro rfl;simp[Lb.fresh] at hf);have e4:l≠ .loc 8:=(by rintro rfl;simp[Lb.fresh] at hf);have e5:l≠ .loc 10:=(by rintro rfl;simp[Lb.fresh] at hf);rw[aq _ _ e3,aq _ _ e4,j0 l e0 e2 (by simpa using dL e1),aq _ _ e5,aq _ _ e5] at hu;rcases anf l hf hu with h|h|h
    ·exact absurd h e0
    ·exact absurd h e1
    right;simp[h]
   ·simp[XQ,k_,dn,bJ,put,JV,E0,WZ,mw]
   ·have r0:dn [(.loc 8,.loc 47)] (.par 0)= .par 0:=rfl;have rL:dn [(.loc 8,.loc 47)] L'=L':=(by simp[dn,hL8]);have r8:dn [(.loc 8,.loc 47)] (.loc 8)= .loc 47:=rfl;refine⟨?_,?_,?_,trivial⟩
    ·show bD (bD kK (.loc 8) .dead) (.loc 47) _ (.par 0)= .live (dO (dn [(.loc 8,.loc 47)]) ⟨1,[[.sl L' 5 0 (Wq d x p (q.i+1)).length]]⟩);rw[aq _ _ (by simp),aq _ _ (by simp),b2,hP];simp[dO,bu,bJ,rL]
    ·show bD (bD kK (.loc 8) .dead) (.loc 47) _ (dn [(.loc 8,.loc 47)] L')= .live (dO (dn [(.loc 8,.loc 47)]) ⟨5,aB ((Wq d x p (q.i+1)).map Node.iv)⟩);rw[rL,aq _ _ acb,aq _ _ hL8,b3,dy,hP]
    show bD (bD kK (.loc 8) .dead) (.loc 47) _ (.loc 47)= .live (dO (dn [(.loc 8,.loc 47)]) ⟨1,aB ((mw (d.length+1) (x.kids.take (q.i+1))).map xX)⟩);rw[dy,acd,eV];simp only[↓aX,mX,seval];rfl
   ·simp[Xr,dn,hL8,dL b1,acb]
   intro l hl;simp only[Xr,bb,b5,b7] at hl;rcases hl with rfl|rfl|rfl
   ·exact⟨id,fun _=>rfl⟩
   ·have rL:dn [(.loc 8,.loc 47)] l=l:=(by simp[dn,hL8]);rw[rL];exact⟨id,fun _=>rfl⟩
   exact⟨fun _=>rfl,fun h=>by simp[Lb.fresh] at h⟩
  have XV:q.i=x.kids.length:=by simp at h;omega
  have CM:x.kids.take q.i=x.kids:=by rw[XV,ea]
  rw[CM] at a8;have ve:=XE d x p q.i;have bI:d.length<(Wq d x p q.i).length:=by omega
  have jY:(aB ((Wq d x p q.i).map Node.iv))[d.length]?=some [.bool x.text,.str x.s,.list (cD x.attrs),.int .i64 p,.list []]:=by
   rw[xT,cn,Wq,eW,b_ (bm _),oj];rfl
  simp only[↓aX,mX,seval,h,CM];refine⟨1,(mw (d.length+1) x.kids).map xX,0,_,rfl,a8,by simp,XD _,?_⟩;simp only[↓aX,mX,seval,a0,aL,bI,MN,jY,lQ,ax];have GN:(aB ((Wq d x p q.i).map Node.iv)).set d.length ((x.node d.length p).iv.cells.map IV.dQ)=aB ((d++x.flat d.length p).map Node.iv):=by
   rw[x.qm,xU,Wq,CM];congr 1;simp[vR]
  have Yd:(d++x.flat d.length p).length=(Wq d x p q.i).length:=by
   rw[cy,x.j9,ve,CM,x.n8];omega
  refine⟨q.L,q.l0,?_,?_⟩
  ·rw[aq _ _ (dL q.l0),aq _ _ (by simp),a0,ax,Yd]
  rw[←GN];have:(List.take (mw (d.length+1) x.kids).length ((mw (d.length+1) x.kids).map xX))=(mw (d.length+1) x.kids).map xX:=bo (by simp);rw[this];simp only[↓aX,mX,seval];rfl
 |false=>
 have hd:d=[]:=by simpa using hb rfl
 have Lq:d.length=0:=by rw[hd];rfl
 simp only[↓aX,mX,seval,Xq,Tree.av];refine⟨rfl,jw hC ?_⟩;simp only[↓aX,mX,seval];rw[Xp 5 80 31 [.agg [.bool x.text,.str x.s,.list (cD x.attrs),.int .i64 p,.list []]] (by simp[jV,IV.cells]) (by simp[Flat,IV.cells]) (by simp) (by decide) (by simp[ae,Hp.none])];simp only[↓aX,mX,seval,bF];refine⟨by simp,?_⟩;refine pe (σ:=Lk x) Xr (fun q=>q.u) (XQ d) (VE d p) (fun q=>x.kids.length - q.i)
  {i:=0,L:= .loc 31,u:=fun q=>false,hi:=gS _,l0:=by simp,l8:=by simp,l10:=by simp,Mo:=by simp,lg:=fun j _=>by simp,Mp:=rfl,Mq:=rfl,ug:=fun j _=>rfl}
  (fun _=>rfl) (fun q=>by simp[ah,AV.an,XQ,Xr]) (aaC d p) ⟨[],?_⟩ ?_
 ·refine⟨?_,?_,?_,by simp[Xr,dn],fun l _=>⟨id,fun _=>rfl⟩⟩
  ·intro l hf hu;by_cases e0:l= .par 0
   ·subst e0;simp[Xr]
   exfalso;apply hu;cases l<;>simp_all[Lb.fresh,ae,Hp.none]
  ·simp[XQ,k_,dn,bJ,mw,put,jP,hd]
  simp[VE,tc,dn,ae,dO,bu,bJ,Wq,fC,mw,aB,Node.iv,Node.cs,Tree.acN,IV.cells,IV.dQ,nT,hd]
 intro q;have a0:ie q.u (VE d p q) (.par 0)= .live ⟨1,[[.sl q.L 5 0 (Wq d x p q.i).length]]⟩:=by simp[ie,VE,kl,bD]
 have aL:ie q.u (VE d p q) q.L= .live ⟨5,aB ((Wq d x p q.i).map Node.iv)⟩:=by simp[ie,VE,kl,bD,q.l0]
 have a8:ie q.u (VE d p q) (.loc 8)= .live ⟨1,aB ((mw (d.length+1) (x.kids.take q.i)).map xX)⟩:=by simp[ie,VE,kl,bD,dL q.l8]
 have a10:ie q.u (VE d p q) (.loc 10)= .unused:=by simp[ie,VE,kl,bD,dL q.l10,q.Mp,Hp.none]
 have a47:ie q.u (VE d p q) (.loc 47)= .unused:=by simp[ie,VE,kl,bD,dL q.Mo,q.Mq,Hp.none]
 have ag:ie q.u (VE d p q) (.gen (1000+q.i))= .unused:=by simp[ie,VE,kl,bD,dL (q.lg q.i (bm _)),q.ug q.i (bm _),Hp.none]
 have anf:∀l:Lb,l.fresh=false→ie q.u (VE d p q) l≠ .unused→l= .par 0∨l=q.L∨q.u l=true:=by
  intro l hf hu;by_cases e0:l= .par 0
  ·exact .inl e0
  by_cases e1:l=q.L
  ·exact .inr (.inl e1)
  by_cases e2:q.u l=true
  ·exact .inr (.inr e2)
  exfalso;apply hu;have e3:l≠ .loc 8:=by rintro rfl;simp[Lb.fresh] at hf
  simp[ie,VE,kl,bD,e0,e1,e2,e3,Hp.none]
 have lr:ah ((XQ d q).map Prod.snd)=[.par 0,.loc 8]:=by simp[ah,AV.an,XQ]
 generalize ie q.u (VE d p q)=H0 at *;have ab_:=q.l10;have MN:=q.l8;have aca:=q.Mo;have hi:=q.hi;have JV:(mw (d.length+1) (x.kids.take q.i)).length=q.i:=by rw[VS,cT];omega
 have Lp:=ql (x.kids.take q.i);have MA:=lV x.kids q.i;simp only[↓aX,mX,seval,XQ];refine AU (fun h=> ?_) (fun h=> ?_)
 ·have bI:q.i<x.kids.length:=by simpa using h
  obtain⟨k,HA⟩:∃k,x.kids[q.i]?=some k:=⟨_,aC bI⟩;have hw:IntKind.i64.wrap ((q.i:Int)+1)=((q.i+1:Nat):Int):=wrap64 (by omega) (by unfold B at hx;omega);have E0:x.kids.take (q.i+1)=x.kids.take q.i++[k]:=Vl HA;have ME:dE (x.kids.take q.i)+k.wt≤dE x.kids:=by
   have:=lV x.kids (q.i+1);rw[E0,kn] at this;simp only[dE] at this;omega
  simp only[↓aX,mX,seval,iy,HA,lT,Tree.cJ,Tree.cs,a10];refine Zf (l:= .par 0) (N:= .gen (1000+q.i)) (o:=some q.L) (hK k (aV HA) (Wq d x p q.i) (by rw[XE];omega)) rfl ⟨q.l0,by simp only[↓aX,mX,seval,a0,ax],by simp only[↓aX,mX,seval,aL,a_ ab_]⟩ (by simp only[↓aX,mX,seval,ag]) (by intro h;simp[Lb.fresh] at h) ?_;rintro L' kK hL' ⟨b1,b2,b3⟩ j0 GJ;have c8:kK (.loc 8)= .live ⟨1,aB ((mw (d.length+1) (x.kids.take q.i)).map xX)⟩:=by
   rw[j0 _ (by simp) (by simp) (by simpa using MN)];simp only[↓aX,mX,seval,a8]
  have LK:kK (.loc 47)= .unused:=by
   rw[j0 _ (by simp) (by simp) (by simpa using aca)];simp only[↓aX,mX,seval,a47]
  simp only[↓aX,mX,seval];rw[qg 1 8 47 8 ((mw (d.length+1) (x.kids.take q.i)).map xX) (.int .i64 (Wq d x p q.i).length) c8 (by rw[ax]) rfl (by simp[IV.cells]) (by rw[JV];unfold B at hx;omega) (by decide) (by decide) LK];simp only[↓aX,mX,seval,hw];have hL8:L'≠ .loc 8:=by rcases hL' with rfl|e;simp;simp only[di] at e;rw[←e];exact MN
  have agM:L'≠ .loc 10:=by rcases hL' with rfl|e;simp;simp only[di] at e;rw[←e];exact ab_
  have acb:L'≠ .loc 47:=by rcases hL' with rfl|e;simp;simp only[di] at e;rw[←e];exact aca
  refine⟨{i:=q.i+1,L:=L',u:=fun l=>q.u l||(decide (l=q.L)||decide (l= .gen (1000+q.i))),hi:=bI,l0:=b1,l8:=hL8,l10:=agM,Mo:=acb,lg:= ?_,Mp:= ?_,Mq:= ?_,ug:= ?_},by simp only;omega,[(.loc 8,.loc 47)],?_⟩
  ·intro j hj;rcases hL' with rfl|e
   ·simp;omega
   simp only[di] at e;rw[←e];exact q.lg j (by omega)
  ·simp[q.Mp,dL ab_]
  ·simp[q.Mq,dL aca]
  ·intro j hj;have:=dL (q.lg j (by omega));simp[q.ug j (by omega),this];omega
  have hP:=aaB (d:=d) (p:=p) HA;have acd:mw (d.length+1) (x.kids.take (q.i+1))=mw (d.length+1) (x.kids.take q.i)++[((Wq d x p q.i).length:Int)]:=by
   rw[E0,WZ,XE];simp[mw]
  refine⟨?_,?_,?_,?_,?_⟩
  ·intro l hf hu;by_cases e0:l= .par 0
   ·subst e0;simp[Xr]
   by_cases e1:l=q.L
   ·right;simp[e1]
   by_cases e2:l= .gen (1000+q.i)
   ·right;simp[e2]
   have e3:l≠ .loc 47:=(by rintro rfl;simp[Lb.fresh] at hf);have e4:l≠ .loc 8:=(by rintro rfl;simp[Lb.fresh] at hf);have e5:l≠ .loc 10:=(by rintro rfl;simp[Lb.fresh] at hf);rw[aq _ _ e3,aq _ _ e4,j0 l e0 e2 (by simpa using dL e1),aq _ _ e5,aq _ _ e5] at hu;rcases anf l hf hu with h|h|h
   ·exact absurd h e0
   ·exact absurd h e1
   right;simp[h]
  ·simp[XQ,k_,dn,bJ,put,JV,E0,WZ,mw]
  ·have r0:dn [(.loc 8,.loc 47)] (.par 0)= .par 0:=rfl;have rL:dn [(.loc 8,.loc 47)] L'=L':=(by simp[dn,hL8]);have r8:dn [(.loc 8,.loc 47)] (.loc 8)= .loc 47:=rfl;refine⟨?_,?_,?_,trivial⟩
   ·show bD (bD kK (.loc 8) .dead) (.loc 47) _ (.par 0)= .live (dO (dn [(.loc 8,.loc 47)]) ⟨1,[[.sl L' 5 0 (Wq d x p (q.i+1)).length]]⟩);rw[aq _ _ (by simp),aq _ _ (by simp),b2,hP];simp[dO,bu,bJ,rL]
   ·show bD (bD kK (.loc 8) .dead) (.loc 47) _ (dn [(.loc 8,.loc 47)] L')= .live (dO (dn [(.loc 8,.loc 47)]) ⟨5,aB ((Wq d x p (q.i+1)).map Node.iv)⟩);rw[rL,aq _ _ acb,aq _ _ hL8,b3,dy,hP]
   show bD (bD kK (.loc 8) .dead) (.loc 47) _ (.loc 47)= .live (dO (dn [(.loc 8,.loc 47)]) ⟨1,aB ((mw (d.length+1) (x.kids.take (q.i+1))).map xX)⟩);rw[dy,acd,eV];simp only[↓aX,mX,seval];rfl
  ·simp[Xr,dn,hL8,dL b1,acb]
  intro l hl;simp only[Xr,bb,b5,b7] at hl;rcases hl with rfl|rfl|rfl
  ·exact⟨id,fun _=>rfl⟩
  ·have rL:dn [(.loc 8,.loc 47)] l=l:=(by simp[dn,hL8]);rw[rL];exact⟨id,fun _=>rfl⟩
  exact⟨fun _=>rfl,fun h=>by simp[Lb.fresh] at h⟩
 have XV:q.i=x.kids.length:=by simp at h;omega
 have CM:x.kids.take q.i=x.kids:=by rw[XV,ea]
 rw[CM] at a8;have ve:=XE d x p q.i;have bI:d.length<(Wq d x p q.i).length:=by omega
 have jY:(aB ((Wq d x p q.i).map Node.iv))[d.length]?=some [.bool x.text,.str x.s,.list (cD x.attrs),.int .i64 p,.list []]:=by
  rw[xT,cn,Wq,eW,b_ (bm _),oj];rfl
 simp only[↓aX,mX,seval,h,CM];refine⟨1,(mw (d.length+1) x.kids).map xX,0,_,rfl,a8,by simp,XD _,?_⟩;simp only[↓aX,mX,seval,a0,aL,bI,MN,jY,lQ,ax];have GN:(aB ((Wq d x p q.i).map Node.iv)).set d.length ((x.node d.length p).iv.cells.map IV.dQ)=aB ((d++x.flat d.length p).map Node.iv):=by
  rw[x.qm,xU,Wq,CM];congr 1;simp[vR]
 have Yd:(d++x.flat d.length p).length=(Wq d x p q.i).length:=by
  rw[cy,x.j9,ve,CM,x.n8];omega
 refine⟨q.L,q.l0,?_,?_⟩
 ·rw[aq _ _ (dL q.l0),aq _ _ (by simp),a0,ax,Yd]
 rw[←GN];have:(List.take (mw (d.length+1) x.kids).length ((mw (d.length+1) x.kids).map xX))=(mw (d.length+1) x.kids).map xX:=bo (by simp);rw[this];simp only[↓aX,mX,seval];rfl

theorem Px {p:Lb}:∀{ds:List AV},p∈ah ds→∃y∈ds,p∈y.an
 |[],h=>by simp[ah] at h
 |y::r,h=>by
  simp only[ah,aY] at h;rcases h with h|h
  ·exact⟨y,by simp,h⟩
  obtain⟨z,hz,hp⟩:=Px h;exact⟨z,by simp[hz],hp⟩
def Qm {S:St} {env:Env} {H:Hp} {q:Lb} {cs:List AV} {j d sz:Nat} (g1:H q= .live ⟨cs.length,[cs]⟩) (g2:cs[j]?=some .nil0) (g3:H (.loc d)= .unused) (g4:0<sz) :
  nQ S env H env (bD (bD H (.loc d) (.live ⟨sz,[]⟩)) q (.live ⟨cs.length,[cs.set j (.sl (.loc d) sz 0 0)]⟩)):=by
 intro K β a w IJ hS hr;have hk:=hr.OI (.loc d) g3 (r:=⟨sz,[]⟩) (Below.refl _ _) none (by simp) (by simp) ⟨g4,by simp,by simp⟩;have TF:q≠ .loc d:=by rintro rfl;rw[g1] at g3;cases g3
 have hq:bD H (.loc d) (.live ⟨sz,[]⟩) q= .live ⟨cs.length,[cs]⟩:=by rw[aq _ _ TF];exact g1
 have gm:0<cs.length:=(hr.rows q _ g1).1;have TG:bD β (.loc d) none q=β q:=aq _ _ TF;cases hb:β q with
 |none=>
  have:=(hr.rows q _ g1).2.2;simp[hb] at this
 |some g=>
 obtain⟨cur,e0,cap,k1,k2,k3,k4,k5⟩:=(hk.rows q _ hq).block (TG.trans hb);have zk:j<cs.length:=(aI.1 g2).1;have vf:=hk.setRow q (r':=⟨cs.length,[cs.set j (.sl (.loc d) sz 0 0)]⟩) (cur':=cur) (cap:=cap) hq (TG.trans hb) k1 rfl rfl k2 k3 (by simpa using k4) (by simp)
  (by
   intro ds ua p hp;simp at ua;subst ua;obtain⟨y,hy,J'⟩:=Px hp;rcases gj hy with hy|rfl
   ·obtain⟨m,hm⟩:=c_ hy;exact hk.cH q _ hq cs (by simp) p (cW _ _ _ hm p J')
   simp only[AV.an,aW] at J';subst J';simp)
  (by
   intro i' j' ds x0 ed iX;cases i' with
   |succ i'=>simp at ed
   |zero=>
   simp at ed;subst ed;by_cases e:j'=j
   ·subst e;rw[fk zk] at iX;cases iX;obtain⟨v,q1,q2⟩:=k5 0 j' cs _ (by simp) g2;simp only[RV] at q2;obtain⟨ad,rfl⟩:=q2;refine⟨_,q1,?_⟩;simp only[RV];exact⟨ad,0,rfl,bm _,by simp[maxLen],by simp,fun _=> .inl rfl⟩
   rw[gy (dL e)] at iX;exact k5 0 j' cs x0 (by simp) iX)
 have j0:w.setRow g cur=w:=setRow_self w g cur e0 (0,0) k1;rw[j0] at vf;exact⟨_,vf⟩
section
variable {env:Env} {H:Hp}
def kq (m:Option Nat) (t u:Nat) (R:AV→Hp→Prop):fX [(some m,t),(none,u)] R .ret env H=cw (Wl m (env t) H) (fun x=>R (.gf [x,env u]) H) .mk:=by
 simp only[fX,ef,oO,cw];cases Wl m (env t) H<;>simp[gD]
end

inductive Sub:Nat→Int→Tree→Nat→Int→Tree→Prop
 |self (off:Nat) (p:Int) (t:Tree):Sub off p t off p t
 |Ce {off:Nat} {p:Int} {t:Tree} {n:Nat} {q:Int} {y:Tree} (a b:List Tree) (k:Tree):t.kids=a++k::b→Sub (off+1+dP a) off k n q y→Sub off p t n q y
def oc (d:Doc) (n:Nat) (q:Int) (y:Tree):Prop:=∃post,d.drop n=y.flat n q++post
def Sub.rng {off:Nat} {p:Int} {t:Tree} {n:Nat} {q:Int} {y:Tree} (h:Sub off p t n q y):off≤n∧n+y.jz≤off+t.jz:=by
 induction h with
 |self=>exact⟨bm _,bm _⟩
 |@Ce off p t n q y a b k hk _ ih=>
 have h1:=t.n8;rw[hk,lU] at h1;simp only[dP] at h1;omega
def xZ {α:Type} {a b c:List α} {n:Nat} (h:a.length=n):(a++b).drop n=b:=by subst h;simp
def Sub.Gv {off:Nat} {p:Int} {t:Tree} {n:Nat} {q:Int} {y:Tree} (h:Sub off p t n q y):∀d:Doc,oc d off p t→oc d n q y:=by
 induction h with
 |self=>exact fun _ h=>h
 |@Ce off p t n q y a b k hk _ ih=>
 rintro d ⟨post,h⟩;refine ih d ⟨fC (off+1+dP a+k.jz) off b++post,?_⟩;rw[t.qm,hk] at h;have h2:=(ob h).2;rw[pd] at h2;have h3:d.drop (off+1)=fC (off+1) off a++(fC (off+1+dP a) off (k::b)++post):=by rw[h2];exact eW _ _ _
 rw[←ma,h3,xZ (c:=[]) (my _ _ _)];simp[fC]
def Sub.parent {off:Nat} {p:Int} {t:Tree} {n:Nat} {q:Int} {y:Tree} (h:Sub off p t n q y) :
  (n=off∧q=p∧y=t)∨∃(m:Nat) (z:Tree) (r:Int),q=(m:Int)∧Sub off p t m r z∧m<n∧n+y.jz≤m+z.jz∧y∈z.kids∧off≤m:=by
 induction h with
 |self=>exact .inl ⟨rfl,rfl,rfl⟩
 |@Ce off p t n q y a b k hk hs ih=>
 right;rcases ih with⟨rfl,rfl,rfl⟩|⟨m,z,r,e1,e2,e3,e4,e5,e6⟩
 ·have h1:=t.n8;rw[hk,lU] at h1;simp only[dP] at h1;exact⟨off,t,p,rfl,.self _ _ _,by omega,by omega,by rw[hk];simp,bm _⟩
 exact⟨m,z,r,e1,.Ce a b k hk e2,e3,e4,e5,by omega⟩
def Sub.trans {off:Nat} {p:Int} {t:Tree} {n:Nat} {q:Int} {y:Tree} (h:Sub off p t n q y) {m:Nat} {r:Int} {z:Tree} (h2:Sub n q y m r z):Sub off p t m r z:=by
 induction h with
 |self=>exact h2
 |Ce a b k hk _ ih=>exact .Ce a b k hk (ih h2)
def afG:∀(sz:Nat) (t:Tree) (off:Nat) (p:Int) (n:Nat),t.jz≤sz→off≤n→n<off+t.jz→∃q y,Sub off p t n q y:=by
 intro sz;induction sz with
 |zero=>intro t off p n h;have:=t.uE;omega
 |succ sz ih=>
 intro t off p n h h1 h2;by_cases e:n=off
 ·subst e;exact⟨_,_,.self _ _ _⟩
 have key:∀(ks a:List Tree),t.kids=a++ks→off+1+dP a≤n→n<off+1+dP a+dP ks→∃q y,Sub off p t n q y:=by
  intro ks;induction ks with
  |nil=>intro a _ h3 h4;simp[dP] at h4;omega
  |cons k ks Li=>
  intro a hk h3 h4;by_cases bI:n<off+1+dP a+k.jz
  ·have hc:=t.n8;rw[hk,lU] at hc;simp only[dP] at hc;obtain⟨q,y,hs⟩:=ih k (off+1+dP a) off n (by omega) h3 bI;exact⟨q,y,.Ce a ks k hk hs⟩
  simp only[dP] at h4;refine Li (a++[k]) (by rw[hk];simp) ?_ ?_
  ·rw[lU];simp only[dP];omega
  rw[lU];simp only[dP];omega
 refine key t.kids [] rfl ?_ ?_
 ·simp[dP];omega
 have:=t.n8;simp[dP];omega
def oc.node {d:Doc} {n:Nat} {q:Int} {y:Tree} (h:oc d n q y):d[n]?=some (y.node n q):=by
 obtain⟨post,h⟩:=h;rw[y.qm] at h;exact(ob h).1
def oc.len {d:Doc} {n:Nat} {q:Int} {y:Tree} (h:oc d n q y):n+y.jz≤d.length:=by
 obtain⟨post,h⟩:=h;have:=jR List.length h;rw[vW,cy,y.j9] at this;have:=y.uE;omega
def oc.Ce {d:Doc} {n:Nat} {q:Int} {y:Tree} (h:oc d n q y) (a b:List Tree) (k:Tree) (hk:y.kids=a++k::b):oc d (n+1+dP a) n k:=
 (Sub.Ce (off:=n) (p:=q) a b k hk (.self _ _ _)).Gv d h
def oc.uniq {d:Doc} {n:Nat} {q q':Int} {y y':Tree} (h:oc d n q y) (h':oc d n q' y'):y=y'∧q=q':=by
 have e:q=q':=by
  have:=h.node.symm.trans h'.node;simp only[di] at this;exact jR Node.parent this
 subst e;obtain⟨post,h⟩:=h;obtain⟨ahy,h'⟩:=h';exact⟨y.ZQ y' n q post ahy (h.symm.trans h'),rfl⟩
def ZR {t:Tree} {n:Nat} (h:n<(lW t).length):∃q y,oc (lW t) n q y∧Sub 0 (-1) t n q y:=by
 rw[pf] at h;obtain⟨q,y,hs⟩:=afG t.jz t 0 (-1) n (bm _) (gS _) (by omega);exact⟨q,y,hs.Gv _ ⟨[],by simp[lW]⟩,hs⟩
theorem pg:∀{p:Option Bool} {l:List Tree},bQ p l=true→∀x∈l,x.fu=true
 |_,[],_,x,hx=>by simp at hx
 |p,y::r,h,x,hx=>by
  simp only[bQ,bw] at h;simp only[bb] at hx;rcases hx with rfl|hx
  ·exact h.1
  exact pg h.2.2 x hx
def Tree.vH {x:Tree} (h:x.fu=true):bQ none x.kids=true:=by
 cases ht:x.text with
 |true=>
  rw[x.oa ht] at h;simp only[bw,iA,gd] at h;rw[h.2.2.2];rfl
 |false=>
 rw[x.Pa ht] at h;simp only[bw] at h;exact h.2.2
def Sub.fu {off:Nat} {p:Int} {t:Tree} {n:Nat} {q:Int} {y:Tree} (h:Sub off p t n q y):t.fu=true→y.fu=true:=by
 induction h with
 |self=>exact id
 |Ce a b k hk _ ih=>exact fun h=>ih (pg (Tree.vH h) k (by rw[hk];simp))
def Tree.Zg {x:Tree} (h:x.fu=true) (ht:x.text=true):x.kids=[]∧x.attrs=[]∧x.s≠[]:=by
 rw[x.oa ht] at h;simp only[bw,iA,gd,sd] at h;exact⟨h.2.2.2,h.2.2.1,h.2.1⟩

def fj (xs:List Tree):List Tree:=xs.flatMap Tree.kids
def la (x:Tree) (r:List Tree):fj (x::r)=x.kids++fj r:=by simp[fj]
theorem aaD:∀(xs:List Tree),xs≠[]→fB xs=fB (fj xs)+1
 |[],h=>absurd rfl h
 |[x],_=>by simp[fj,fB,x.n7]
 |x::y::r,_=>by
  have:=aaD (y::r) (by simp);rw[la,n9];simp only[fB,x.n7] at this ⊢;omega
theorem kt:∀(xs:List Tree),dP xs=xs.length+dP (fj xs)
 |[]=>by simp[fj,dP]
 |x::r=>by rw[la,lU];simp only[dP,x.n8,kt r,cG];omega
theorem ajF:∀(xs:List Tree),dE (fj xs)+xs.length≤dE xs
 |[]=>by simp[fj,dE]
 |x::r=>by
  have:=ajF r;have:=x.gx;rw[la,kn];simp only[dE,cG];omega
def x4:Nat→List (Tree×Int)→List (Nat×Int)
 |_,[]=>[]
 |n,(t,p)::r=>(n,p)::x4 (n+t.jz) r
def D3 (j:Int) (ps:List (Nat×Int)):List Int:=(ps.filter fun x=>x.2==j).map fun x=>(x.1:Int)
def x5:Nat→List (Tree×Int)→List Node
 |_,[]=>[]
 |n,(t,p)::r=>t.flat n p++x5 (n+t.jz) r
def fill (ps:List (Nat×Int)):Nat→List Node→List Node
 |_,[]=>[]
 |j,x::r=>{x with kids:=x.kids++D3 j ps}::fill ps (j+1) r
def whole (d:List Node) (l:List (Tree×Int)):List Node:=fill (x4 d.length l) 0 d++x5 d.length l
theorem ZS:∀(n:Nat) (a b:List (Tree×Int)),x4 n (a++b)=x4 n a++x4 (n+dP (a.map Prod.fst)) b
 |n,[],b=>by simp[x4,dP]
 |n,(t,p)::a,b=>by simp only[List.cons_append,x4,ZS _ a b,cm,dP,gQ]
theorem ZT:∀(n:Nat) (a b:List (Tree×Int)),x5 n (a++b)=x5 n a++x5 (n+dP (a.map Prod.fst)) b
 |n,[],b=>by simp[x5,dP]
 |n,(t,p)::a,b=>by simp only[List.cons_append,x5,ZT _ a b,cm,dP,gQ,eW]
theorem Zt:∀(n m:Nat) (ks:List Tree),D3 m (x4 n (ks.map fun k=>(k,(m:Int))))=mw n ks
 |n,m,[]=>rfl
 |n,m,k::r=>by
  have:=Zt (n+k.jz) m r;simp only[cm,x4,D3] at this ⊢;rw[rP (by simp)];simp only[cm,mw,this]
theorem YZ:∀(n m:Nat) (j:Int) (ks:List Tree),j≠m→D3 j (x4 n (ks.map fun k=>(k,(m:Int))))=[]
 |n,m,j,[],_=>rfl
 |n,m,j,k::r,h=>by
  have:=YZ (n+k.jz) m j r h;simp only[cm,x4,D3] at this ⊢;rw[ld (by simpa using dL h)];exact this
theorem Zu:∀(n m:Nat) (ks:List Tree),x5 n (ks.map fun k=>(k,(m:Int)))=fC n m ks
 |n,m,[]=>rfl
 |n,m,k::r=>by simp only[cm,x5,fC,Zu _ m r]
def ZU (j:Int) (a b:List (Nat×Int)):D3 j (a++b)=D3 j a++D3 j b:=by simp[D3]
def Zv (j:Int) (n:Nat) (p:Int) (b:List (Nat×Int)):D3 j ((n,p)::b)=(if p=j then [(n:Int)] else [])++D3 j b:=by
 simp only[D3,iO];by_cases h:p=j<;>simp[h]
theorem ZV (ps:List (Nat×Int)):∀(d:List Node) (j i:Nat),(fill ps j d)[i]?=d[i]?.map fun x=>{x with kids:=x.kids++D3 ((j+i:Nat):Int) ps}
 |[],j,i=>by simp[fill]
 |x::r,j,0=>by simp[fill]
 |x::r,j,i+1=>by simp only[fill,jC,ZV ps r (j+1) i,show j+1+i=j+(i+1) by omega]
theorem Yk (ps:List (Nat×Int)):∀(d:List Node) (j:Nat),(fill ps j d).length=d.length
 |[],j=>rfl
 |x::r,j=>by simp[fill,Yk ps r]
theorem abg:∀(d:List Node) (j:Nat),fill [] j d=d
 |[],j=>rfl
 |x::r,j=>by simp[fill,D3,abg r]
def Xd (d:List Node) (p n:Int):List Node:=
 if 0≤p then match d[p.toNat]? with
  |some x=>d.set p.toNat {x with kids:=x.kids++[n]}
  |none=>d
 else d
def ZW (d:List Node) (p n:Int):(Xd d p n).length=d.length:=by
 unfold Xd;split
 ·split<;>simp
 rfl
def ace (d:List Node) (t:Tree) (p:Int) (r:List (Tree×Int)) (hp:p<d.length) (hr:∀x∈r,x.2<(d.length:Int)) :
  whole d ((t,p)::r)=whole (Xd (d++[⟨t.text,t.s,t.attrs,p,[]⟩]) p d.length) (t.kids.map (fun k=>(k,(d.length:Int)))++r):=by
 have hlen:(Xd (d++[⟨t.text,t.s,t.attrs,p,[]⟩]) p d.length).length=d.length+1:=by rw[ZW];simp
 have hc:d.length+t.jz=d.length+1+dP ((t.kids.map fun k=>(k,(d.length:Int))).map Prod.fst):=by
  rw[t.n8,jQ,show(Prod.fst∘fun k:Tree=>(k,(d.length:Int)))=id from rfl,nn];omega
 unfold whole;rw[hlen,ZS,ZT,Zu,←hc];simp only[x4,x5,t.qm];have zR:((d.length:Int))≠p:=by omega
 have key:fill (x4 (d.length+1) (t.kids.map fun k=>(k,(d.length:Int)))++x4 (d.length+t.jz) r) 0 (Xd (d++[⟨t.text,t.s,t.attrs,p,[]⟩]) p d.length) =
   fill ((d.length,p)::x4 (d.length+t.jz) r) 0 d++[{t.node d.length p with kids:=mw (d.length+1) t.kids++D3 d.length (x4 (d.length+t.jz) r)}]:=by
  apply fe;intro i;rw[ZV];simp only[bM];have Tm:(Xd (d++[⟨t.text,t.s,t.attrs,p,[]⟩]) p d.length)[i]?=(d++[⟨t.text,t.s,t.attrs,p,[]⟩])[i]?.map fun x=>if(i:Int)=p then {x with kids:=x.kids++[(d.length:Int)]} else x:=by
   unfold Xd;by_cases h0:0≤p
   ·rw[bf h0];obtain⟨q,rfl⟩:=mY h0;have hq:q<d.length:=(by omega);rw[a7,bB hq,aC hq];simp only;rw[gT];by_cases e:q=i
    ·subst e;rw[bf rfl,bf (by simp;omega),bB hq,aC hq];simp
    rw[a_ e];have:¬(i:Int)=(q:Int):=(by omega);cases (d++[(⟨t.text,t.s,t.attrs,(q:Int),[]⟩:Node)])[i]?<;>simp[this]
   rw[a_ h0];have:¬(i:Int)=p:=(by omega);cases (d++[(⟨t.text,t.s,t.attrs,p,[]⟩:Node)])[i]?<;>simp[this]
  rw[Tm];by_cases hi:i<d.length
  ·rw[bB hi,bB (by rw[Yk];exact hi),ZV,aC hi];simp only[bT,bM];congr 1;rw[ZU,Zv,YZ _ _ _ _ (by omega)];by_cases e:(i:Int)=p
   ·rw[bf e,bf e.symm];simp
   rw[a_ e,a_ (dL e)]
  by_cases e:i=d.length
  ·subst e;rw[b_ (bm _),b_ (by rw[Yk];exact bm _),Yk,oj];simp only[jB,bT];rw[a_ zR];congr 1;rw[ZU,Zt];rfl
  rw[dV (by simp;omega),dV (by rw[cy,Yk];simp;omega)];rfl
 rw[key];have FQ:∀(n:Nat) (r:List (Tree×Int)),(∀x∈r,x.2<(d.length:Int))→D3 d.length (x4 n r)=[]:=by
  intro n r;induction r generalizing n with
  |nil=>intro _;rfl
  |cons x r ih=>
  obtain⟨t',p'⟩:=x;intro h;have h1:=h (t',p') (by simp);simp only[x4,Zv];rw[a_ (by simp only at h1;omega),ih _ (fun y hy=>h y (by simp[hy]))];rfl
 rw[FQ _ r hr];simp[Tree.node]
def adq (d:List Node):whole d []=d:=by simp[whole,x4,x5,abg]
def abh (t:Tree):whole [] [(t,-1)]=lW t:=by simp[whole,x4,x5,fill,lW]

def x6 (m:Int):Nat→List Node→List Nat
 |_,[]=>[]
 |j,x::r=>(if x.parent=m then [j] else [])++x6 m (j+1) r
theorem Xe (m:Int):∀(j:Nat) (a b:List Node),x6 m j (a++b)=x6 m j a++x6 m (j+a.length) b
 |j,[],b=>by simp[x6]
 |j,x::a,b=>by simp only[List.cons_append,x6,Xe m (j+1) a b,cG,eW,Nat.add_comm 1,gQ]
theorem YU (m:Int):∀(j:Nat) (a:List Node) (k:Nat),k∈x6 m j a↔j≤k∧∃x,a[k - j]?=some x∧x.parent=m
 |j,[],k=>by simp[x6]
 |j,x::a,k=>by
  simp only[x6,aY,YU m (j+1) a k];constructor
  ·rintro(h|⟨h1,y,h2,h3⟩)
   ·split at h
    ·rename_i hp;simp only[aW] at h;subst h;exact⟨bm _,x,by simp,hp⟩
    simp at h
   exact⟨by omega,y,by rw[show k - j=(k - (j+1))+1 by omega];simpa using h2,h3⟩
  rintro⟨h1,y,h2,h3⟩;by_cases e:k=j
  ·subst e;simp only[oj,jB,di] at h2;subst h2;left;rw[bf h3];simp
  right;rw[show k - j=(k - (j+1))+1 by omega,jC] at h2;exact⟨by omega,y,h2,h3⟩
mutual
theorem Tree.acO (off:Nat) (p m:Int):∀x:Tree,(m<off∨(off+x.jz:Nat)≤m)→x6 m off (x.flat off p)=if p=m then [off] else []
 | .mk t s as ks,h=>by
  simp only[Tree.flat,x6];simp only[Tree.jz] at h;rw[Y0 (off+1) off m ks (by omega) (by omega)];simp
theorem Y0 (off p:Nat) (m:Int):∀xs:List Tree,(m<off∨(off+dP xs:Nat)≤m)→(p:Int)≠m→x6 m off (fC off p xs)=[]
 |[],_,_=>rfl
 |k::r,h,hp=>by
  simp only[dP] at h;simp only[fC,Xe,k.j9];rw[k.acO off p m (by omega),Y0 (off+k.jz) p m r (by omega) hp,a_ hp];rfl
end
def S6 (off:Nat):List Tree→List Nat
 |[]=>[]
 |k::r=>off::S6 (off+k.jz) r
theorem aaE:∀(off:Nat) (xs:List Tree),(S6 off xs).map (fun k:Nat=>(k:Int))=mw off xs
 |_,[]=>rfl
 |off,k::r=>by simp[S6,mw,aaE _ r]
theorem aaF (off p:Nat):∀xs:List Tree,p<off→x6 p off (fC off p xs)=S6 off xs
 |[],_=>rfl
 |k::r,h=>by
  simp only[fC,Xe,k.j9,S6];rw[k.acO off p p (by omega),aaF (off+k.jz) p r (by omega)];simp
def Sub.aiq {off:Nat} {p:Int} {t:Tree} {n:Nat} {q:Int} {y:Tree} (h:Sub off p t n q y):p<off→x6 n off (t.flat off p)=S6 (n+1) y.kids:=by
 induction h with
 |self off p t=>
  intro hp;rw[t.qm];simp only[x6];rw[a_ (show ¬(t.node off p).parent=(off:Int) by show ¬p=(off:Int);omega),aaF (off+1) off t.kids (by omega)];rfl
 |@Ce off p t n q y a b k hk hs ih=>
 intro hp;have hr:=hs.rng;have h1:=t.n8;rw[hk,lU] at h1;simp only[dP] at h1;have hy:=y.uE;rw[t.qm,hk,pd];simp only[x6,Xe,my,fC,k.j9];rw[a_ (show ¬(t.node off p).parent=(n:Int) by show ¬p=(n:Int);omega),Y0 (off+1) off n a (by omega) (by omega),ih (by omega),Y0 (off+1+dP a+k.jz) off n b (by omega) (by omega)];simp
def aeb {t:Tree} {n:Nat} {q:Int} {y:Tree} (h:Sub 0 (-1) t n q y):x6 n 0 (lW t)=S6 (n+1) y.kids:=h.aiq (by omega)
def uG (d:Doc):Nat→Nat→Tree
 |0,_=> .mk false [] [] []
 |f+1,n=>match d[n]? with
  |some x=> .mk x.text x.s x.attrs ((x6 n (n+1) (d.drop (n+1))).map (uG d f))
  |none=> .mk false [] [] []
def abi {d:Doc} {m:Int} {n:Nat} (h:∀k∈x6 m 0 d,n≤k) (hn:n≤d.length):x6 m n (d.drop n)=x6 m 0 d:=by
 have e:d=d.take n++d.drop n:=(dM n d).symm;have h2:x6 m 0 d=x6 m 0 (d.take n)++x6 m n (d.drop n):=by
  conv=>lhs;rw[e]
  rw[Xe,cT,ov hn,bM]
 have h3:x6 m 0 (d.take n)=[]:=by
  apply m_.2;intro k hk;have:=h k (by rw[h2];simp[hk]);obtain⟨_,x,hx,_⟩:=(YU m 0 _ k).1 hk;have:=(aI.1 hx).1;simp at this;omega
 rw[h2,h3];rfl
theorem Y1:∀(off:Nat) (xs:List Tree),∀k∈S6 off xs,off≤k
 |_,[],k,h=>by simp[S6] at h
 |off,x::r,k,h=>by
  simp only[S6,bb] at h;rcases h with rfl|h
  ·exact bm _
  have:=Y1 _ r k h;omega
def Zw {t:Tree}:∀(f:Nat) (n:Nat) (q:Int) (y:Tree),Sub 0 (-1) t n q y→y.dep≤f→uG (lW t) f n=y:=by
 intro f;induction f with
 |zero=>intro n q y _ h;rw[y.n7] at h;omega
 |succ f ih=>
 intro n q y hs hd;have hl:=hs.Gv (lW t) ⟨[],by simp[lW]⟩;have Zs:=hl.node;have hlen:=hl.len;have hp:=aeb hs;have hy:=y.uE;unfold uG;rw[Zs];simp only[Tree.node];rw[abi (by rw[hp];exact Y1 _ _) (by omega),hp];have kids:∀(b a:List Tree),y.kids=a++b→(S6 (n+1+dP a) b).map (uG (lW t) f)=b:=by
  intro b;induction b with
  |nil=>intro a _;rfl
  |cons k b ihb=>
  intro a hk;simp only[S6,cm];have hdk:k.dep≤f:=by
   have h1:=y.n7;rw[hk,n9] at h1;simp only[fB] at h1;omega
  rw[ih _ n k (hs.trans (.Ce a b k hk (.self _ _ _))) hdk];have:=ihb (a++[k]) (by rw[hk];simp);rw[lU] at this;simp only[dP,kf] at this;rw[show n+1+dP a+k.jz=n+1+(dP a+k.jz) by omega,this]
 have:=kids y.kids [] rfl;simp only[dP,kf] at this;rw[this];cases y;rfl

noncomputable def aec (d:Doc) (n:Int):Tree×Int:=if Vo d=true then(if 0≤n∧n<d.length then(uG d d.length n.toNat,0) else(.mk false [] [] [],3)) else(.mk false [] [] [],1)
def Wo (x:Tree):Doc×Int:=if x.d_=true then(lW x,0) else([],1)
section
variable {t:Tree}
def aed (ht:t.d_=true) {n:Nat} {q:Int} {y:Tree} (hs:Sub 0 (-1) t n q y):aec (lW t) n=(y,0):=by
 have h:=hs.Gv (lW t) ⟨[],by simp[lW]⟩;have hl:=h.len;have hc:=y.uE;unfold aec;rw[bf (Yj ht),bf ⟨by omega,by omega⟩,a7];have hd:y.dep≤(lW t).length:=by
  have h1:=(ia t).1 ht;have h2:∀x:Tree,x.dep≤x.jz:=by
   have key:∀n:Nat,(∀x:Tree,x.jz≤n→x.dep≤x.jz)∧∀xs:List Tree,dP xs≤n→fB xs≤dP xs:=by
    intro n;induction n with
    |zero=>exact⟨fun x h=>by have:=x.uE;omega,fun xs h=>by cases xs with|nil=>simp[fB]|cons a r=>have:=a.uE;simp[dP] at h;omega⟩
    |succ n ih=>
    have one:∀x:Tree,x.jz≤n+1→x.dep≤x.jz:=fun x h=>by
     have:=ih.2 x.kids (by have:=x.n8;omega);rw[x.n7,x.n8];omega
    refine⟨one,fun xs=> ?_⟩;induction xs with
    |nil=>intro _;simp[fB]
    |cons a r Ll=>
    intro h;simp only[dP] at h;have:=a.uE;have:=one a (by omega);have:=Ll (by omega);simp only[fB,dP];omega
   exact fun x=>(key x.jz).1 x (bm _)
  have:=h2 y;omega
 rw[Zw _ n q y hs hd]
end
end Go.Am
