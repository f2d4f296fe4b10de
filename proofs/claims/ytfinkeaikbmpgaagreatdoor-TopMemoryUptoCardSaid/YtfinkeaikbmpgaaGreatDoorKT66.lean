import Derived.Test.YtfinkeaikbmpgaaGreatDoorKT62
import Derived.Test.YtfinkeaikbmpgaaGreatDoorKT82
import Derived.Test.YtfinkeaikbmpgaaGreatDoorKT21
import Derived.Test.YtfinkeaikbmpgaaGreatDoorKT8
set_option linter.unusedSimpArgs false
set_option linter.unusedVariables false
set_option linter.unnecessarySimpa false
set_option linter.defProp false
/- Attributes sorted. -/
namespace Go.Am
open Go Go.RowKit
def om (a b:Attr):Int:=Lib.compareBytes a.name b.name
def Attr.yO (a:Attr):AV:= .agg [.str a.name,.str a.val]
section
variable {P:Program} {G:Nat→Option (List IV)}
def cB (bq:Nat):AC:=
(aM [gH 4 0] (aM [MR 5 0,MR 6 1,aQ 7 (.kE bq [(.t 5),(.t 6)]),MR 4 7] .ret))
def anh {a6 bq:Nat} (hF:aw P G a6=some (8,[(none,4)],(cB bq).bare))
  (hX:∀(N:Nat) (s t:Bs) (H:Hp),sZ ⟨P,G,N⟩ bq [.str s,.str t] H (.int .i64 (Lib.compareBytes s t))) (s t:Bs) :
  au P G a6 [.str s,.str t] (.int .i64 (Lib.compareBytes s t)):=by
 refine aR hF N7 PC Pv ?_;unfold cB;simp only[↓aX,mX,seval];refine DZ (hX _ _ _ _) ?_;simp only[↓aX,mX,seval]
def fI (a6:Nat):AC:=
(aM [gH 4 0] (aM [MR 5 0,MR 6 1,aQ 7 (.call a6 [(.t 5),(.t 6)]),MR 4 7] .ret))
def yP {cC a6:Nat} (hF:aw P G cC=some (8,[(none,4)],(fI a6).bare)) (s t:Bs) (hC:au P G a6 [.str s,.str t] (.int .i64 (Lib.compareBytes s t))) :
  au P G cC [.str s,.str t] (.int .i64 (Lib.compareBytes s t)):=by
 refine aR hF N7 PC Pv ?_;unfold fI;simp only[↓aX,mX,seval];refine ay hC ?_;simp only[↓aX,mX,seval]
def NG (cC:Nat):AC:=
(aM [zzX 2 0,zzX 3 1,gH 4 0] (aM [ep 5 2 0,fm 6 5,ep 7 3 0,fm 8 7,aQ 9 (.call cC [(.t 6),(.t 8)]),MR 4 9] .ret))
def GY {bO cC:Nat} (hF:aw P G bO=some (10,[(none,4)],(NG cC).bare)) (a b:Attr) (hC:au P G cC [.str a.name,.str b.name] (.int .i64 (Lib.compareBytes a.name b.name))) :
  au P G bO [a.yO,b.yO] (.int .i64 (om a b)):=by
 refine aR hF N7 (by simp[ah,AV.an,Attr.yO]) Pv ?_;unfold NG;simp only[↓aX,mX,seval,Attr.yO];refine ay hC ?_;simp only[↓aX,mX,seval,om]
theorem rS:∀s t:Bs,decide (Lib.compareBytes s t<0)=Op.bytesLess s t
 |[],[]=>rfl
 |[],_::_=>rfl
 |_::_,[]=>rfl
 |a::az,b::bs=>by
  have ih:=rS az bs;simp only[Lib.compareBytes,Op.bytesLess];by_cases h1:a<b
  ·simp[h1]
  by_cases h2:b<a
  ·simp only[h1,h2,ku,nX];have:¬a=b:=fun e=>h1 (by rw[e] at h2;exact absurd h2 (mH _));simp_all
  have h3:a=b:=(yj a b).elim (fun h=>absurd h h1) (fun h=>h.elim id (fun h=>absurd h h2));subst h3;simp only[mH,nX,ih]
  try simp
def yQ (a b:Attr):decide (om a b<0)=Op.bytesLess a.name b.name:=rS _ _
def swap_perm {L:List Attr} {i j:Nat} {x y:Attr} (hi:L[i]?=some x) (hj:L[j]?=some y):((L.set i y).set j x).Perm L:=by
 obtain⟨h1,e1⟩:=bd.1 hi;obtain⟨h2,e2⟩:=bd.1 hj;subst e1;subst e2;exact List.set_set_perm h1 h2
def qx:List Attr→Prop
 |[]=>True
 |x::r=>(∀y∈r,Op.bytesLess y.name x.name=false)∧qx r
def yR {l:List Attr} {a x:Attr}:x∈gF l a↔x=a∨x∈l:=by
 induction l with
 |nil=>simp[gF]
 |cons b r ih=>
 unfold gF;split
 ·simp
 simp[ih];constructor<;>(rintro(h|h|h)<;>simp[h])
def yS {l:List Attr} (a:Attr) (h:qx l):qx (gF l a):=by
 induction l with
 |nil=>simp[gF,qx]
 |cons b r ih=>
 unfold gF;split
 ·rename_i bI;refine⟨fun y hy=> ?_,h⟩;rcases dU.1 hy with rfl|hy
  ·exact ny bI
  have:=h.1 y hy;cases hc:Op.bytesLess y.name a.name with
  |false=>rfl
  |true=>have:=rG hc bI;simp_all
 rename_i bI;refine⟨fun y hy=> ?_,ih h.2⟩;rcases yR.1 hy with rfl|hy
 ·simpa using bI
 exact h.1 y hy
def wa (l:List Attr):qx (cu l):=by
 have key:∀(l acc:List Attr),qx acc→qx (l.foldl gF acc):=by
  intro l;induction l with
  |nil=>intro acc h;exact h
  |cons a r ih=>intro acc h;exact ih _ (yS a h)
 exact key l [] trivial
def rT {p q:List Attr} (h:qx (p++q)):qx p∧∀x∈p,∀y∈q,Op.bytesLess y.name x.name=false:=by
 induction p with
 |nil=>exact⟨trivial,N7⟩
 |cons a r ih=>
 obtain⟨h1,h2⟩:=h;obtain⟨h3,h4⟩:=ih h2;refine⟨⟨fun y hy=>h1 y (by simp[hy]),h3⟩,fun x hx y hy=> ?_⟩;rcases dU.1 hx with rfl|hx
 ·exact h1 y (by simp[hy])
 exact h4 x hx y hy
theorem uX {x:Attr}:∀{pre suf:List Attr},(∀y∈pre,Op.bytesLess x.name y.name=false)→(∀y∈suf,Op.bytesLess x.name y.name=true)→gF (pre++suf) x=pre++x::suf
 |[],[],_,_=>rfl
 |[],b::r,_,h=>by simp only[List.nil_append,gF,h b N7,ku]
 |a::p,suf,h1,h2=>by
  have:=uX (pre:=p) (suf:=suf) (x:=x) (fun y hy=>h1 y (by simp[hy])) h2;simp only[List.cons_append,gF,h1 a N7,jy,nX,this]
def tE (l:List Attr) (x:Attr):cu (l++[x])=gF (cu l) x:=by unfold cu;rw[Nw];rfl
def ik {L:List Attr} {i:Nat} {x:Attr} (h:L[i]?=some x):(aB (cD L))[i]?=some [.str x.name,.str x.val]:=by
 rw[xT,lS,h];rfl
def m_ (L:List Attr) (i:Nat) (x:Attr):(aB (cD L)).set i [.str x.name,.str x.val]=aB (cD (L.set i x)):=by
 have:=xU (cD L) i x.iv;rw[show(aB (cD L)).set i [.str x.name,.str x.val]=(aB (cD L)).set i (x.iv.cells.map IV.dQ) from rfl,this];congr 1;simp[cD,Nh]
def cm:AC:=
(aM [MR 10 1,eY 11 .add 10 1,MR 8 11] (.block 0 (.loop (.seq (aM [MR 12 8,MR 13 2,et 14 .lss 12 13] (.cond (.t 14) .skip (.exit 0))) (.seq (.block 1 (aM [MR 17 8,MR 9 17] (.block 2 (.loop (.seq (.seq (.VL [MR 18 9,MR 19 1,et 20 .gtr 18 19,MR 21 20,cU 22 21 3,cU 23 21 0,cU 24 21 9,dW 25 21 (.Vc (.t 23) (.t 24) 2),dW 26 21 (.load (some 2) (.t 25)),cU 27 21 0,cU 28 21 9,dW 29 21 (.bin .sub (.t 28) (jS 1)),dW 30 21 (.Vc (.t 27) (.t 29) 2),dW 31 21 (.load (some 2) (.t 30)),dW 32 21 (.fM (.t 22) [(.t 26),(.t 31)]),dW 33 21 (.bin .lss (.t 32) (jS 0)),jT 34 21 33] [[],[],[0,1],[2],[3],[3],[3],[5,6,3],[7,3],[3],[3],[10,3],[9,11,3],[12,3],[4,8,13,3,3],[14,3],[3,15]] [.no,.no,.no,.no,.no,.no,.no,.no,(.rw [(.par 0)] []),.no,.no,.no,.no,(.rw [(.par 0)] []),.no,.no,.no]) (.cond (.t 34) .skip (.exit 2))) (.seq (.block 3 (.VL [MR 37 0,MR 38 9,MR 39 0,MR 40 9,eY 41 .sub 40 1,MR 42 0,MR 43 9,eY 44 .sub 43 1,jL 45 42 44 2,gz 46 2 45,MR 47 0,MR 48 9,jL 49 47 48 2,gz 50 2 49,jL 51 37 38 2,gg (.store 2 (.t 51) (.t 46)),jL 52 39 41 2,gg (.store 2 (.t 52) (.t 50))] [[],[],[],[],[3],[],[],[6],[5,7],[8],[],[],[10,11],[12],[0,1,0,1,5,6,7,8,9,13],[14,9,0,1,5,6,7,8,9,13],[2,4,0,1,2,3,4,5,6,7,8,9,10,11,12,13,14,15],[16,13,15,0,1,2,3,4,5,6,7,8,9,10,11,12,13,14,15]] [.no,.no,.no,.no,.no,.no,.no,.no,.no,(.rw [(.par 0)] []),.no,.no,.no,(.rw [(.par 0)] []),.no,(.rw [] [(.par 0)]),.no,(.rw [] [(.par 0)])])) (.cq [MR 35 9,eY 36 .sub 35 1,MR 9 36]))))))) (.cq [MR 15 8,eY 16 .add 15 1,MR 8 16]))))))
def Br {s3 dC:Nat} (hF:aw P G s3=some (53,[],cm.bare)) (hB:fU P dC=true) (hC:∀a b:Attr,au P G dC [a.yO,b.yO] (.int .i64 (om a b)))
  (l:List Attr) (hl:l.length≤B) (a b:Nat) (MO:a≤b) (hb:b≤l.length) :
  ig P G s3 [.sl (.par 0) 2 0 l.length,.int .i64 a,.int .i64 b,.fn dC [] []] 2 (cD l) fun x ys=>∃zs:List Attr,ys=cD zs∧zs.Perm l∧(a=0→zs=cu (l.take b)++l.drop b)∧(a=b→zs=l):=by
 refine al7 hF N7 PC ?_;have zo:B=1073741824:=rfl;unfold cm;simp only[↓aX,mX,seval,df];have Ef:IntKind.i64.wrap ((a:Int)+1)=((a+1:Nat):Int):=wrap64 tM tM;rw[Ef];clear Ef;refine ca (σ:={q:Nat×List Attr // a+1≤q.1∧q.1≤max b (a+1)∧q.2.Perm l∧(a=0→q.2=cu (l.take q.1)++l.drop q.1)∧(q.1=a+1→q.2=l)}) [.par 0]
  (fun q=>[(0,.sl (.par 0) 2 0 l.length),(1,.int .i64 a),(2,.int .i64 b),(3,.fn dC [] []),(8,.int .i64 q.1.1)]) (fun q=>[(.par 0,⟨2,aB (cD q.1.2)⟩)]) (fun q=>b+1 - q.1.1)
  ⟨(a+1,l),eM _,Pq,.refl _,fun h=> ?_,fun _=>rfl⟩ (fun _=>rfl) Pr PC ?_ ?_ ?_
 ·subst h;cases l with
  |nil=>rfl
  |cons x r=>simp[cu,gF]
 ·intro q w hw cs bV z hz;simp only[bY] at hw;subst hw;rw[bU bV] at hz;simp at hz
 ·refine eL ?_ PD PD;intro z hz hu;by_cases e:z= .par 0
  ·subst e;simp
  exfalso;apply hu;simp[ae,e,Hp.none]
 rintro⟨⟨i,L⟩,LS,A2,hp,hs,j0⟩;simp only at LS A2 hp hs j0;have LU:L.length=l.length:=hp.length_eq;simp only[↓aX,mX,seval,cF,bW];by_cases bI:i<b
 ·rw[show decide (((i:Nat):Int)<((b:Nat):Int))=true by simpa using bI];have E9:IntKind.i64.wrap ((i:Int)+1)=((i+1:Nat):Int):=wrap64 tM tM;simp only[↓aX,mX,seval];refine ca (σ:={q:Nat×List Attr // a≤q.1∧q.1≤i∧q.2.Perm l∧(a=0→∃pre suf x,l[i]?=some x∧pre++suf=cu (l.take i)∧q.2=pre++x::(suf++l.drop (i+1))∧pre.length=q.1∧∀y∈suf,Op.bytesLess x.name y.name=true)}) [.par 0]
   (fun q=>[(0,.sl (.par 0) 2 0 l.length),(1,.int .i64 a),(2,.int .i64 b),(3,.fn dC [] []),(8,.int .i64 i),(9,.int .i64 q.1.1)]) (fun q=>[(.par 0,⟨2,aB (cD q.1.2)⟩)]) (fun q=>q.1.1)
   ⟨(i,L),Pq,eM _,hp,fun h=> ?_⟩ (fun _=>rfl) Pr PC ?_ ?_ ?_
  ·obtain⟨x,hx⟩:∃x,l[i]?=some x:=⟨_,bS tM⟩;refine⟨cu (l.take i),[],x,hx,N7,?_,?_,N7⟩
   ·simp only;rw[hs h,EK (show i<l.length by omega),(bd.1 hx).2,List.nil_append]
   rw[pE,tp];simp only;omega
  ·intro q w hw cs bV z hz;simp only[bY] at hw;subst hw;rw[bU bV] at hz;simp at hz
  ·refine eL ?_ PD PD;intro z hz hu;by_cases e:z= .par 0
   ·subst e;simp
   exfalso;apply hu;simp[ae,e,Hp.none]
  rintro⟨⟨j,M⟩,Ig,FE,hM,HR⟩;simp only at Ig FE hM HR;have rU:M.length=l.length:=hM.length_eq;simp only[↓aX,mX,seval,cF,bW];refine⟨P3,?_⟩;have done:∀pre suf x,l[i]?=some x→pre++suf=cu (l.take i)→M=pre++x::(suf++l.drop (i+1))→(∀y∈suf,Op.bytesLess x.name y.name=true)→(∀y∈pre,Op.bytesLess x.name y.name=false)→M=cu (l.take (i+1))++l.drop (i+1):=by
   intro pre suf x h1 h2 h3 h4 h5;rw[yf,h1,Mv,tE,←h2,uX h5 h4,h3];simp
  by_cases Kw:a<j
  ·rw[show decide (((j:Nat):Int)>((a:Nat):Int))=true by simpa using Kw];have Ju:IntKind.i64.wrap ((j:Int) - 1)=((j - 1:Nat):Int):=(by rw[wrap64 tM tM];omega);obtain⟨x,hx⟩:∃x,M[j]?=some x:=⟨_,bS tM⟩;obtain⟨y,hy⟩:∃y,M[j - 1]?=some y:=⟨_,bS tM⟩;have GZ:=hC x y;simp only[Attr.yO] at GZ;simp only[↓aX,mX,seval,Ju,eG,bX,bM,ik hx,ik hy,show j<l.length by omega,show j - 1<l.length by omega,kc,oi];refine⟨hB,jw GZ ?_⟩;simp only[↓aX,mX,seval,yQ];have G0:a=0→∀{pre suf:List Attr} {z:Attr},l[i]?=some z→pre++suf=cu (l.take i)→M=pre++z::(suf++l.drop (i+1))→pre.length=j→Op.bytesLess x.name y.name=false→∀w∈pre,Op.bytesLess z.name w.name=false:=by
    intro h pre suf z h1 h2 h3 h4 nn w hw;have hz:z=x:=by
     rw[h3,b_ tM,h4] at hx;simpa using hx
    subst hz;obtain⟨qy,y',rfl⟩:∃qy y',pre=qy++[y']:=by
     rcases NL pre with h|⟨p',y',h⟩
     ·subst h;simp at h4;omega
     exact⟨p',y',by simpa using h⟩
    have BS:qy.length=j - 1:=(by simp at h4;omega);have Jv:y'=y:=by
     rw[h3,yo,b_ tM,BS,Gl] at hy;simpa using hy
    subst Jv;have Ky:=wa (l.take i);rw[←h2] at Ky;have LV:=(rT (rT Ky).1).2;rcases eR.1 hw with hw|hw
    ·have h6:=LV w hw y' N7;cases hc:Op.bytesLess z.name w.name with
     |false=>rfl
     |true=>
     rcases tl y'.name w.name with h7|h7|h7
     ·rw[h7] at h6;cases h6
     ·rw[h7,hc] at nn;cases nn
     rw[rG hc h7] at nn;cases nn
    simp only[bY] at hw;subst hw;exact nn
   cases nn:Op.bytesLess x.name y.name with
   |true=>
    simp only[↓aX,mX,seval];refine⟨P3,?_⟩;simp only[↓aX,mX,seval,Ju,eG,bX,bM,ik hx,ik hy,show j<l.length by omega,show j - 1<l.length by omega,eP];have D1:(M.set j y)[j - 1]?=some y:=(by rw[Bd tM];exact hy);rw[m_ M j y];simp only[↓aX,mX,seval,ik D1,Ju];refine⟨⟨(j - 1,(M.set j y).set (j - 1) x),Pq,Pq,(swap_perm hx hy).trans hM,fun h=> ?_⟩,Pq,eL ?_ PD ⟨by simp only[ae,ku];rw[m_],trivial⟩⟩
    ·obtain⟨pre,suf,z,h1,h2,h3,h4,h5⟩:=HR h;have hz:z=x:=by
      rw[h3,b_ tM,h4] at hx;simpa using hx
     subst hz;obtain⟨qy,y',rfl⟩:∃qy y',pre=qy++[y']:=by
      rcases NL pre with h|⟨p',y',h⟩
      ·subst h;simp at h4;omega
      exact⟨p',y',by simpa using h⟩
     have BS:qy.length=j - 1:=(by simp at h4;omega);have Jv:y'=y:=by
      rw[h3,yo,b_ tM,BS,Gl] at hy;simpa using hy
     subst Jv;refine⟨qy,y'::suf,z,h1,by rw[←h2];simp,?_,BS,fun w hw=> ?_⟩
     ·simp only;rw[h3];have zk:j=qy.length+1:=tM;subst zk;simp[Nc]
     rcases dU.1 hw with rfl|hw
     ·exact nn
     exact h5 w hw
    intro z hz hu;by_cases e:z= .par 0
    ·subst e;simp
    exfalso;apply hu;simp[ae,e,Hp.none]
   |false=>
   simp only[↓aX,mX,seval,E9];refine⟨⟨(i+1,M),Pq,D' bI (Pj _ _),hM,fun h=> ?_,fun h=>absurd h Pq⟩,Pq,eL ?_ PD PD⟩
   ·obtain⟨pre,suf,z,h1,h2,h3,h4,h5⟩:=HR h;exact done pre suf z h1 h2 h3 h5 (G0 h h1 h2 h3 h4 nn)
   intro z hz hu;by_cases e:z= .par 0
   ·subst e;simp
   exfalso;apply hu;simp[ae,e,Hp.none]
  rw[show decide (((j:Nat):Int)>((a:Nat):Int))=false by simpa using Kw];simp only[↓aX,mX,seval,E9];refine⟨⟨(i+1,M),Pq,D' bI (Pj _ _),hM,fun h=> ?_,fun h=>absurd h Pq⟩,Pq,eL ?_ PD PD⟩
  ·obtain⟨pre,suf,z,h1,h2,h3,h4,h5⟩:=HR h;exact done pre suf z h1 h2 h3 h5 (by have:pre=[]:=wc tM;rw[this];simp)
  intro z hz hu;by_cases e:z= .par 0
  ·subst e;simp
  exfalso;apply hu;simp[ae,e,Hp.none]
 rw[show decide (((i:Nat):Int)<((b:Nat):Int))=false by simpa using bI];simp only[↓aX,mX,seval,lM,ef,gD];refine⟨_,rfl,cD L,⟨L,rfl,hp,fun h=> ?_,fun h=>j0 tM⟩,PK,by rw[bp,bp,LU],PE⟩;rw[hs h];by_cases LW:i=b
 ·rw[LW]
 have oK:b=0:=tM
 have Jw:i=1:=tM
 subst oK;subst Jw;cases l with
 |nil=>rfl
 |cons x r=>simp[cu,gF]
end

def RT (az:List Attr) (key:Bs):Nat:=(az.takeWhile fun a=>Op.bytesLess a.name key).length
def TU (az:List Attr) (key:Bs):Bool:=match az[RT az key]? with|some a=>a.name==key|none=>false
theorem ac0 {key:Bs}:∀{az:List Attr} {k:Nat},k≤az.length→(∀j a,j<k→az[j]?=some a→Op.bytesLess a.name key=true)→(∀a,az[k]?=some a→Op.bytesLess a.name key=false)→RT az key=k
 |[],k,h,_,_=>by simp at h;subst h;rfl
 |a::r,0,_,_,h2=>by
  have:=h2 a rfl;simp[RT,ou,this]
 |a::r,k+1,h,h1,h2=>by
  have ha:=h1 0 a tM rfl;have ih:=ac0 (key:=key) (az:=r) (k:=k) (by simpa using h) (fun j b hj hb=>h1 (j+1) b tM (by simpa using hb)) (fun b hb=>h2 b (by simpa using hb));simp only[RT] at ih;simp[RT,ou,ha,ih]
def abw {az:List Attr} (h:l_ az=true):∀{i j:Nat} {a b:Attr},i<j→az[i]?=some a→az[j]?=some b→Op.bytesLess a.name b.name=true:=by
 induction az with
 |nil=>intro i j a b _ hi;simp at hi
 |cons x r ih=>
 intro i j a b Et hi hj;cases j with
 |zero=>omega
 |succ j=>
 simp only[GA] at hj;cases i with
 |zero=>
  simp only[yr,di] at hi;subst hi;exact ZH h b (dc hj)
 |succ i=>exact ih (vS h) (Nat.lt_of_succ_lt_succ Et) (by simpa using hi) hj
section
variable {P:Program} {G:Nat→Option (List IV)}
def VW (cC:Nat):AC:=
(aM [zzX 2 0,gH 4 0] (aM [ep 5 2 0,fm 6 5,MR 7 1,aQ 8 (.call cC [(.t 6),(.t 7)]),MR 4 8] .ret))
def ahQ {akK cC:Nat} (hF:aw P G akK=some (9,[(none,4)],(VW cC).bare)) (a:Attr) (s:Bs) (hC:au P G cC [.str a.name,.str s] (.int .i64 (Lib.compareBytes a.name s))) :
  au P G akK [a.yO,.str s] (.int .i64 (Lib.compareBytes a.name s)):=by
 refine aR hF N7 (by simp[ah,AV.an,Attr.yO]) Pv ?_;unfold VW;simp only[↓aX,mX,seval,Attr.yO];refine ay hC ?_;simp only[↓aX,mX,seval]
theorem abx:∀s t:Bs,(Lib.compareBytes s t==0)=(s==t)
 |[],[]=>rfl
 |[],_::_=>rfl
 |_::_,[]=>rfl
 |a::az,b::bs=>by
  have ih:=abx az bs;simp only[Lib.compareBytes];by_cases h1:a<b
  ·have:a≠b:=fun e=>(by subst e;exact absurd h1 (mH _));simp[h1,this]
  by_cases h2:b<a
  ·have:a≠b:=fun e=>(by subst e;exact absurd h2 (mH _));simp[h1,h2,this]
  have h3:a=b:=(yj a b).elim (fun h=>absurd h h1) (fun h=>h.elim id (fun h=>absurd h h2));subst h3;simp[mH,ih]
def A':AC:=
(aM [gH 6 0,jM 7 false] (aM [MR 12 0,oy 13 12,MR 8 13] (aM [MR 14 8,gH 9 0,MR 10 14] (.seq (.block 0 (.loop (.seq (aM [MR 15 9,MR 16 10,et 17 .lss 15 16] (.cond (.t 17) .skip (.exit 0))) (.block 1 (aM [MR 18 9,MR 19 10,et 20 .add 18 19,aQ 21 (.qK .u64 (.t 20)),aQ 22 (.bin .shr (.t 21) (.c (.int .u64 1))),aQ 23 (.qK .i64 (.t 22)),MR 11 23] (aM [MR 24 2,MR 25 0,MR 26 11,jL 27 25 26 2,gz 28 2 27,MR 29 1,aQ 30 (.fM (.t 24) [(.t 28),(.t 29)]),eY 31 .lss 30 0] (.cond (.t 31) (.cq [MR 32 11,eY 33 .add 32 1,MR 9 33]) (.cq [MR 34 11,MR 10 34])))))))) (aM [MR 35 9,MR 36 9,MR 37 8,et 38 .lss 36 37,MR 39 38,cU 40 39 2,cU 41 39 0,cU 42 39 9,dW 43 39 (.Vc (.t 41) (.t 42) 2),dW 44 39 (.load (some 2) (.t 43)),cU 45 39 1,dW 46 39 (.fM (.t 40) [(.t 44),(.t 45)]),dW 47 39 (.bin .eql (.t 46) (jS 0)),jT 48 39 47,MR 6 35,MR 7 48] .ret)))))
structure U3 (az:List Attr) (key:Bs) where
 lo:Nat
 hi:Nat
 h1:lo≤hi
 h2:hi≤az.length
 h3:∀j a,j<lo→az[j]?=some a→Op.bytesLess a.name key=true
 h4:∀j a,hi≤j→az[j]?=some a→Op.bytesLess a.name key=false
def acq {l5 fc:Nat} (hF:aw P G l5=some (49,[(none,6),(none,7)],A'.bare)) (az:List Attr) (key:Bs) (hx:az.length≤B) (hr:l_ az=true) (hb:fU P fc=true)
  (hC:∀a∈az,au P G fc [a.yO,.str key] (.int .i64 (Lib.compareBytes a.name key))) :
  au P G l5 [.list (cD az),.str key,.fn fc [] []] (.gf [.int .i64 (RT az key),.bool (TU az key)]):=by
 refine aR hF N7 PC PK ?_;unfold A';have zo:B=1073741824:=rfl;simp only[↓aX,mX,seval,bp];refine VR (σ:=U3 az key) (fun q=>[(0,.list (cD az)),(1,.str key),(2,.fn fc [] []),(8,.int .i64 az.length),(9,.int .i64 q.lo),(10,.int .i64 q.hi)]) (fun q=>q.hi - q.lo)
  ⟨0,az.length,tM,tM,fun j a h=>by omega,fun j a h ha=>by rw[dV tM] at ha;cases ha⟩ (fun _=>rfl) ?_ ?_
 ·exact⟨by simp only[↓aX,mX,seval],PD⟩
 rintro⟨lo,hi,h1,h2,h3,h4⟩;simp only[↓aX,mX,seval,bp];by_cases bI:lo<hi
 ·rw[show decide ((lo:Int)<(hi:Int))=true by simpa using bI];obtain⟨m,hm⟩:∃m,m=(lo+hi)/2:=⟨_,rfl⟩;have hw:IntKind.i64.wrap (IntKind.u64.wrap (IntKind.i64.wrap ((lo:Int)+(hi:Int)))/2^min 1 IntKind.u64.bits)=(m:Int):=by
   have h1:IntKind.i64.wrap ((lo:Int)+(hi:Int))=((lo+hi:Nat):Int):=(by rw[wrap64 tM tM];omega);rw[h1];have h2:IntKind.u64.wrap ((lo+hi:Nat):Int)=((lo+hi:Nat):Int):=(by rw[IntKind.wrap_u64];omega);have h3:min 1 IntKind.u64.bits=1:=Pr;rw[h2,h3];have h4:((lo+hi:Nat):Int)/2^1=(((lo+hi)/2:Nat):Int):=tM;rw[h4,wrap64 tM tM,hm]
  have LY:IntKind.i64.wrap ((m:Int)+1)=((m+1:Nat):Int):=wrap64 tM tM;obtain⟨x,D1⟩:∃x,az[m]?=some x:=⟨_,bS tM⟩;simp only[↓aX,mX,seval,hw,lS,D1,bT,rq,Attr.cJ,Attr.cs,yE,Ek,hb];refine ay (hC x (dc D1)) ?_;simp only[↓aX,mX,seval,rS];refine AU (fun h=> ?_) (fun h=> ?_)
  ·simp only[↓aX,mX,seval,LY];refine⟨⟨m+1,hi,tM,h2,fun j a hj ha=> ?_,h4⟩,Pq,rfl,rfl⟩;by_cases e:j=m
   ·rw[e,D1] at ha;cases ha;exact h
   exact rG (abw hr (by omega:j<m) ha D1) h
  simp only[↓aX,mX,seval];refine⟨⟨lo,m,tM,tM,h3,fun j a hj ha=> ?_⟩,Pq,rfl,rfl⟩;by_cases e:j=m
  ·rw[e,D1] at ha;cases ha;exact h
  cases hq:Op.bytesLess a.name key with
  |false=>rfl
  |true=>rw[rG (abw hr (by omega:m<j) D1 ha) hq] at h;cases h
 have he:lo=hi:=tM
 subst he;have hp:RT az key=lo:=ac0 h2 h3 (fun a ha=>h4 lo a (eM _) ha);rw[show decide ((lo:Int)<(lo:Int))=false by simp];simp only[↓aX,mX,seval];refine ahq (fun h=> ?_) (fun h=> ?_)
 ·have bI:lo<az.length:=by simpa using h
  obtain⟨x,D1⟩:∃x,az[lo]?=some x:=⟨_,bS bI⟩;simp only[↓aX,mX,seval,h,lS,D1,bT,rq,Attr.cJ,Attr.cs,yE,Ek,hb];refine ay (hC x (dc D1)) ?_;simp only[↓aX,mX,seval,h,abx,B_,ef,oO,di,OC,gD,hp,TU,D1]
 simp only[↓aX,mX,seval,h,B_,ef,oO,di,OC,gD,hp,TU];rw[dV (by simp at h;omega)]
end

def Va {n0 i:Nat} {lab:Nat→Lb} {x:Node} (h:i<n0):NI n0 lab i x=[.bool x.text,.str x.s,.sl (lab (4+2*i)) 2 0 x.attrs.length,.int .i64 x.parent,.sl (lab (5+2*i)) 1 0 x.kids.length]:=by simp[NI,h]
def aaa {n0 i:Nat} {lab:Nat→Lb} {x:Node} (h:n0≤i):NI n0 lab i x=[.bool x.text,.str x.s,.list (cD x.attrs),.int .i64 x.parent,.list (x.kids.map xX)]:=by simp[NI,Nat.not_lt.2 h]
def Bn.all (b:Bn):List Nat:=List.range (4+2*b.n0)
def aby {H:Hp} {l:Lb} {sz n:Nat} {xs:List IV} (h:H l= .live ⟨sz,aB xs⟩) (hf:Flat xs) (hn:n=xs.length):wV H (.sl l sz 0 n) (.list xs):=by
 subst hn;have:=wV.row l sz 0 xs.length xs h tM hf;simpa using this
section
variable {P:Program} {G:Nat→Option (List IV)}
def V1 (akM:Nat):AC:=
(aM [gH 4 0,gH 5 0] (aM [MR 7 0,aQ 8 (.dp (.t 7)),ep 9 8 0,fm 10 9,MR 11 1,jL 12 10 11 5,ep 13 12 3,fm 14 13,MR 6 14] (aM [MR 15 6,MR 16 0,aQ 17 (.dp (.t 16)),ep 18 17 0,fm 19 18,MR 20 6,jL 21 19 20 5,ep 22 21 4,fm 23 22,MR 24 1,aQ 25 (.call akM [(.t 23),(.t 24)]),MR 4 15,MR 5 25] .ret)))
def agW {hY akM:Nat} (hF:aw P G hY=some (26,[(none,4),(none,5)],(V1 akM).bare)) (b:Bn) (n p:Nat) (x y:Node) (hx:b.nodes[n]?=some x) (hp:x.parent=p) (hy:b.nodes[p]?=some y) (Yl:p<b.n0)
  (hI:au P G akM [.list (y.kids.map xX),.int .i64 n] (.int .i64 (Xw y.kids n))) :
  Jg P G hY [.ptr (.par 0) 3 0 0,.int .i64 n] (Ut b) b.all fun X R2=>X=(fun _=> .gf [.int .i64 p,.int .i64 (Xw y.kids n)])∧R2=Ut b:=by
 refine VM hF N7 (by simp[ah,AV.an,OO];omega) ?_;have hA:Oi Lb.par b (Lx (Ut b)):=Xv _;obtain⟨Cv,-⟩:=bd.1 hx;obtain⟨JU,-⟩:=bd.1 hy;unfold V1;simp only[↓aX,mX,seval,hA.s,hA.n,eG,bX,Cv,JU,A5,tk,bM,hA.get hx,hA.get hy,Va Yl];simp only[↓aX,mX,seval,NI,hA.s,hA.n,eG,bX,Cv,JU,A5,tk,bM,hA.get hx,hA.get hy,Va Yl,hp];rw[eE Yl];refine ab7 hI (.cons (aby (hA.kd Yl hy) (XD _) N7) (.cons (.same _) .nil)) rfl ?_;simp only[↓aX,mX,seval,B_,ef,oO,di,OC,gD];refine⟨⟨(fun _=> .gf [.int .i64 p,.int .i64 (Xw y.kids n)]),Ut b,Lb.par⟩,⟨rfl,rfl⟩,fun ρ=>by simp[bJ,bu],PK,rfl,hA,fun _ _=>rfl⟩
def VT (iJ gE:Nat):AC:=
(aM [zzX 4 1,gH 6 0] (aM [MR 11 0,aQ 12 (.dp (.t 11)),ep 13 12 0,fm 14 13,oy 15 14,MR 7 15] (.seq (.VL [MR 16 0,MR 17 0,aQ 18 (.dp (.t 17)),ep 19 18 0,fm 20 19,ep 21 4 0,fm 22 21,ep 23 4 1,fm 24 23,ep 25 4 2,fm 26 25,aQ 27 (.call iJ [(.t 26)]),MR 28 2,aQ 29 (.sg [(.bool false),(.str []),.nil0,(.int .i64 0),.nil0] [(0,(1,(.t 22))),(1,(1,(.t 24))),(2,(1,(.t 27))),(3,(1,(.t 28)))]),aQ 30 (.lits 1 5 [(.bool false),(.str []),.nil0,(.int .i64 0),.nil0] [(0,(.t 29))]),aQ 31 (.app (.t 20) (.t 30) 5 80),aQ 32 (.dp (.t 16)),ep 33 32 0,gg (.store 1 (.t 33) (.t 31))] [[],[],[1],[2],[3],[],[5],[],[7],[],[9],[10],[],[6,8,11,12],[13],[4,14,11],[0,0,1,2,3,4,5,6,7,8,9,10,11,12,13,14,15],[16,0,1,2,3,4,5,6,7,8,9,10,11,12,13,14,15],[17,15,15,0,1,2,3,4,5,6,7,8,9,10,11,12,13,14,15]] [.no,.no,.no,.no,(.rw [(.par 0)] []),.no,.rw [.loc 4] [],.no,.rw [.loc 4] [],.no,.rw [.loc 4] [],.no,.no,.no,.no,(.rw [] [(.par 1),(.gen 31)]),.no,.no,(.rw [] [(.par 0)])]) (aM [zi 8] (.gh (.own 8 1) (.seq (aM [ep 34 4 3,fm 35 34,oy 36 35,gH 37 0] (.block 0 (.loop (aM [et 38 .lss 37 36] (.seq (.cond (.t 38) .skip (.exit 0)) (.seq (.block 1 (aM [jL 39 35 37 4,gz 40 4 39,aQ 10 (.new [(.bool false),(.str []),.nil0,.nil0]),gg (.store 4 (.t 10) (.t 40))] (.cq [MR 41 8,MR 42 0,gz 43 4 10,MR 44 7,aQ 45 (.call gE [(.t 42),(.t 43),(.t 44)]),aQ 46 (.lits 1 1 [(.int .i64 0)] [(0,(.t 45))]),aQ 47 (.app (.t 41) (.t 46) 1 8),MR 8 47]))) (.cq [eY 48 .add 37 1,MR 37 48]))))))) (.gh (.zS (.loc 8) 8) (aM [MR 49 0,aQ 50 (.dp (.t 49)),ep 51 50 0,fm 52 51,MR 53 7,MR 54 8,jL 55 52 53 5,ep 56 55 4,gg (.store 1 (.t 56) (.t 54))] (aM [MR 57 7,MR 6 57] .ret)))))))))
def Bn.add (b:Bn) (t:Tree) (p:Int):Bn:={b with nodes:=b.nodes++t.flat b.nodes.length p}
def Bn.WK (b:Bn) (t:Tree) (p:Int) (i:Nat):Bn:={b with nodes:=b.nodes++⟨t.text,t.s,t.attrs,p,[]⟩::akX (b.nodes.length+1) b.nodes.length (t.kids.take i)}
def Bn.but (b:Bn) (p:Nat):List Nat:=(List.range (4+2*b.n0)).filter (·≠p)
def Wp {b:Bn} {p q:Nat}:q∈b.but p↔q<4+2*b.n0∧q≠p:=by simp[Bn.but]
def akL (N:Lb):Nat→Lb:=fun p=>if p=1 then N else .par p
def Xs {N:Lb} (h:∀p,p≠1→N≠ .par p) {p q:Nat} (e:akL N p=akL N q):p=q:=by
 unfold akL at e;split at e<;>split at e
 ·omega
 ·exact absurd e (h _ tM)
 ·exact absurd e.symm (h _ tM)
 simpa using e
structure UP (t:Tree) where
 i:Nat
 hi:i≤t.kids.length
def abz (b:Bn) (t:Tree) (q:UP t):List (Nat×AV):=
 [(0,.ptr (.par 0) 3 0 0),(7,.int .i64 b.nodes.length),(8,.sl (.loc 8) 1 0 q.i),(35,.list (dq t.kids)),(36,.int .i64 t.kids.length),(37,.int .i64 q.i)]
def Yq (b:Bn) (t:Tree) (q:UP t):List (Lb×Row):=
 [(.loc 8,⟨1,aB ((mw (b.nodes.length+1) (t.kids.take q.i)).map xX)⟩)]
def Ed.Yr {lab:Nat→Lb} {R:uR} {H:Hp} (h:Ed lab R H) {q:Lb} {s:Slot} (hq:∀p,R.ok p→lab p≠q):Ed lab R (bD H q s):=
 ⟨fun p r hr=>by rw[aq _ _ (hq p ((R.Ec lab p).1 (by rw[hr];rfl)))];exact h.row p r hr,h.inj⟩
def ahR {gE iJ:Nat} (hF:aw P G gE=some (58,[(none,6)],(VT iJ gE).bare)) (b:Bn) (hn:b.n0≤b.nodes.length) (t:Tree) (p:Int) (hb:b.nodes.length+t.wt≤B)
  (hC:au P G iJ [.list (cD t.attrs)] (.list (cD t.attrs)))
  (hR:∀(b':Bn) (k:Tree),k∈t.kids→b'.n0=b.n0→b.n0≤b'.nodes.length→b'.nodes.length+k.wt≤B→Jg P G gE [.ptr (.par 0) 3 0 0,k.av,.int .i64 b.nodes.length] (Ut b') (b.but 1) fun X R2=>X=(fun _=> .int .i64 b'.nodes.length)∧R2=Ut (b'.add k b.nodes.length)) :
  Jg P G gE [.ptr (.par 0) 3 0 0,t.av,.int .i64 p] (Ut b) (b.but 1) fun X R2=>X=(fun _=> .int .i64 b.nodes.length)∧R2=Ut (b.add t p):=by
 refine VM hF N7 Qk ?_;have hA:Oi Lb.par b (Lx (Ut b)):=Xv _;have hU:∀q:Lb,(∀p,p<4+2*b.n0→q≠ .par p)→Lx (Ut b) q= .unused:=fun q hq=>Qa _ fun p hp e=>hq p (OO.1 hp) e.symm;have h4:Lx (Ut b) (.loc 4)= .unused:=hU _ N7;have h8:Lx (Ut b) (.loc 8)= .unused:=hU _ N7;have hg:Lx (Ut b) (.gen 31)= .unused:=hU _ N7;have MA:=t.gx;have Hm:=eZ t.kids;have zo:B=1073741824:=rfl;unfold VT;simp only[↓aX,mX,seval,Tree.av,hA.s,hA.n,h4,pz];refine⟨rfl,?_⟩;refine jw hC ?_;simp only[↓aX,mX,seval,Tree.av,hA.s,hA.n,h4];rw[s_ (l:= .par 1) (els:=b.nodes.mapIdx (NI b.n0 Lb.par)) (xs:=[.agg [.bool t.text,.str t.s,.list (cD t.attrs),.int .i64 p,.list []]]) (by simp[ae,hA.n]) N7 (by simp[jV,IV.cells]) (by simp[Flat,IV.cells]) PJ Pr PO (by simp[Lb.app,Lb.fresh,ae,hg])];simp only[↓aX,mX,seval,hA.s,h8,h4];refine⟨by rintro l (rfl|rfl)<;>simp[Lb.iQ],?_⟩;have ahS:∀H2:Hp,H2 (.par 0)= .live ⟨3,[[.sl (.gen 31) 5 0 (b.nodes.length+1),.sl (.par 2) 1 0 b.fs.length,.sl (.par 3) 1 0 b.az.length]]⟩ →
   H2 (.gen 31)= .live ⟨5,b.nodes.mapIdx (NI b.n0 Lb.par)++[[.bool t.text,.str t.s,.list (cD t.attrs),.int .i64 p,.list []]]⟩→(∀q,q≠ .par 0→q≠ .par 1→q≠ .gen 31→q≠ .loc 4→q≠ .loc 8→H2 q=Lx (Ut b) q) →
   Oi (akL (.gen 31)) (b.WK t p 0) H2:=by
  intro H2 e0 e1 e2;have:=Oi.push (H2:=fun q=>if q= .loc 4∨q= .loc 8 then Lx (Ut b) q else H2 q) hA (y:=⟨t.text,t.s,t.attrs,p,[]⟩) (N:= .gen 31) hn (.inr N7) (by simp[e0]) (by simp[e1]) (by
   intro q g1 g2 g3;by_cases g4:q= .loc 4∨q= .loc 8
   ·simp[g4]
   simp only[g4,nX];exact e2 q g1 g2 g3 (fun e=>g4 (.inl e)) (fun e=>g4 (.inr e)))
  refine⟨fun q r hr=> ?_,this.inj⟩;have h1:=this.row q r hr;have h2:¬(akL (.gen 31) q= .loc 4∨akL (.gen 31) q= .loc 8):=by unfold akL;split<;>simp
  exact(cY h2).symm.trans h1
 have j4:∀q:UP t,∀p',(Ut (b.WK t p q.i)).ok p'↔p'<4+2*b.n0:=fun q p'=>OO;have LS:∀p',p'≠1→Lb.gen 0≠ .par p':=N7
 refine SJ (σ:=UP t) (akL (.gen 0)) (fun q=>Ut (b.WK t p q.i)) [.loc 8] (fun l=>l== .par 1) (abz b t) (Yq b t) (fun q=>t.kids.length - q.i) ⟨0,zd _⟩
  (fun q p1 p2 _ _ e=>Xs LS e) (fun _=>rfl) (by simp[akL];intro _ p' _;split<;>simp) ?_ ?_ ?_ ?_
 ·intro q l hl;simp[ah,AV.an,abz] at hl;rcases hl with rfl|rfl
  ·right;exact⟨0,(j4 _ _).2 tM,by simp[akL]⟩
  left;simp
 ·intro q z hz cs bV l hl;simp only[Yq,bY] at hz;subst hz;rw[bU bV] at hl;simp at hl
 ·refine⟨akL (.gen 31),[],?_⟩;have r0:PM (akL (.gen 0)) (akL (.gen 31)) (Ut (b.WK t p 0)) [] (.par 0)= .par 0:=
   On (labC:=akL (.gen 0)) (fun p1 p2 _ _ e=>Xs LS e) (p:=0) (OO.2 tM)
  have r8:PM (akL (.gen 0)) (akL (.gen 31)) (Ut (b.WK t p 0)) [] (.loc 8)= .loc 8:=OE (by intro p' _;simp[akL];split<;>simp);refine⟨ahS _ PE (by simp[ae,aB,IV.cells,IV.dQ,eN]) (by intro q g1 g2 g3 g4 g5;simp[ae,g1,g2,g3,g4,g5]),?_,?_,?_,PN,?_,PZ,?_⟩
  ·intro l he hu;cases l with
   |par k=>
    by_cases h1:k=1
    ·subst h1;right;right;rfl
    left;refine⟨k,OO.2 ?_,by simp[akL,h1]⟩;refine E4 fun hk=>hu ?_;by_cases h0:k=0
    ·subst h0;exact absurd (by simp[Bn.WK];omega) hk
    simp only[ae,Lb.par.injEq,h0,h1,reduceCtorEq,nX];exact hU _ fun p' BT e=>hk (by simp only[Lb.par.injEq] at e;subst e;exact BT)
   |_=>simp[Lb.entry] at he
  ·simp[abz,k_,bJ,put,jP,r0,r8,bF]
  ·intro z hz;simp only[Yq,bY] at hz;subst hz;simp[dn,ae,dy];simp[mw,aB]
  ·intro l hl p' BT;simp only[bY] at hl;subst hl;simp[dn,akL];split<;>simp
  intro p' BT;refine⟨by simp[akL];split<;>simp[Lb.fresh],?_⟩;unfold akL;split<;>simp[Lb.entry]
 intro q;obtain⟨H0,EY⟩:∃H0,H0=Lw (akL (.gen 0)) (Ut (b.WK t p q.i)) (ie (fun l=>l== .par 1) (Yq b t q)):=⟨_,rfl⟩;rw[←EY];have hB:Oi (akL (.gen 0)) (b.WK t p q.i) H0:=by rw[EY];exact Ed.R6 (fun p1 p2 _ _ e=>Xs LS e) _
 have hO:∀l:Lb,(∀p',akL (.gen 0) p'≠l)→H0 l=ie (fun l=>l== .par 1) (Yq b t q) l:=fun l hl=>by rw[EY];exact Qa _ fun p' _=>hl p'
 have a8:H0 (.loc 8)= .live ⟨1,aB ((mw (b.nodes.length+1) (t.kids.take q.i)).map xX)⟩:=(hO _ (by intro p';simp[akL];split<;>simp)).trans (by simp[ie,Yq,kl,bD]);have a10:H0 (.loc 10)= .unused:=(hO _ (by intro p';simp[akL];split<;>simp)).trans (by simp[ie,Yq,kl,bD,Hp.none]);have a47:H0 (.loc 47)= .unused:=(hO _ (by intro p';simp[akL];split<;>simp)).trans (by simp[ie,Yq,kl,bD,Hp.none]);have aN:∀l,H0 (NC 9 l)= .unused:=fun l=>(hO _ (by intro p';simp[akL,NC];split<;>simp)).trans (by simp[ie,Yq,kl,bD,Hp.none,NC]);have anf:∀k,H0 (.par k)≠ .unused→k<4+2*b.n0:=by
  intro k hu;refine E4 fun hk=>hu ?_;rw[EY,Qa _ fun p' BT e=> ?_]
  ·have:k≠1:=tM;simp[ie,Yq,kl,bD,Hp.none,this]
  have h2:=OO.1 BT;unfold akL at e;split at e<;>simp at e;subst e;exact hk h2
 clear EY hO;have hi:=q.hi;have JV:(mw (b.nodes.length+1) (t.kids.take q.i)).length=q.i:=by rw[VS,tp];omega
 have Lp:=ql (t.kids.take q.i);have LG:=lV t.kids q.i;simp only[↓aX,mX,seval,abz];refine AU (fun h=> ?_) (fun h=> ?_)
 ·have bI:q.i<t.kids.length:=by simpa using h
  obtain⟨k,HA⟩:∃k,t.kids[q.i]?=some k:=⟨_,bS bI⟩;have hw:IntKind.i64.wrap ((q.i:Int)+1)=((q.i+1:Nat):Int):=wrap64 tM tM;have E0:t.kids.take (q.i+1)=t.kids.take q.i++[k]:=Vl HA;have ME:dE (t.kids.take q.i)+k.wt≤dE t.kids:=by
   have:=lV t.kids (q.i+1);rw[E0,kn] at this;simp only[dE] at this;omega
  simp only[↓aX,mX,seval,iy,HA,lT,Tree.cJ,Tree.cs,a10];have aa6:(b.WK t p q.i).nodes.length=b.nodes.length+1+dP (t.kids.take q.i):=by simp[Bn.WK,my];omega
  refine WV (lab:=akL (.gen 0)) (N:=NC 9) (hR (b.WK t p q.i) k (dc HA) rfl (by rw[aa6];omega) (by rw[aa6];omega)) ?_ ?_ ?_ (Yo 9) (fun l h=> .inl h) (fun p' BT=>OO.2 (Wp.1 BT).1) ?_
  ·simp[bu,bJ,S1,akL,Tree.av]
  ·exact(hB.Yr (by intro p' _;simp[akL];split<;>simp)).Yr (by intro p' _;simp[akL];split<;>simp)
  ·intro l;rw[aq _ _ PQ,aq _ _ PQ];exact aN l
  rintro X R2 U9 H2 ⟨rfl,rfl⟩ g1 g2 g3 g4 g5 g6;have IB:∀n:Nat,n≠10→H2 (.loc n)=H0 (.loc n):=fun n hn=>by
   rw[g4 (.loc n) (by intro p' _;simp[akL];split<;>simp) PQ,aq _ _ (by simpa using hn),aq _ _ (by simpa using hn)]
  have II:∀p':Nat,(Ut ((b.WK t p q.i).add k b.nodes.length)).ok p'→∀n,U9 p'≠ .loc n:=by
   intro p' BT n;rcases g3 p' BT with⟨p0,_,e⟩|⟨l,e⟩<;>rw[e]
   ·simp[akL];split<;>simp
   simp[NC]
  have MI:∀p',p'<4+2*b.n0→p'≠1→U9 p'= .par p':=fun p' h1 h2=>by rw[g2 p' (Wp.2 ⟨h1,h2⟩)];simp[akL,h2]
  simp only[↓aX,mX,seval];rw[qg 1 8 47 8 ((mw (b.nodes.length+1) (t.kids.take q.i)).map xX) (.int .i64 (b.WK t p q.i).nodes.length) (by rw[IB 8 Pr,a8]) (by rw[bA,JV]) rfl PX tM Pr Pr (by rw[IB 47 Pr,a47])];simp only[↓aX,mX,seval,hw];have acd:mw (b.nodes.length+1) (t.kids.take (q.i+1))=mw (b.nodes.length+1) (t.kids.take q.i)++[((b.WK t p q.i).nodes.length:Int)]:=by
   rw[E0,WZ,aa6];simp[mw]
  have hbn:(b.WK t p q.i).add k b.nodes.length=b.WK t p (q.i+1):=by
   show({(b.WK t p q.i) with nodes:=(b.WK t p q.i).nodes++k.flat (b.WK t p q.i).nodes.length b.nodes.length}:Bn)=_;rw[aa6];simp[Bn.WK,E0,pd,akX]
  rw[hbn] at g1 II;refine⟨⟨q.i+1,bI⟩,Pq,U9,[(.loc 8,.loc 47)],?_⟩;have r0:PM (akL (.gen 0)) U9 (Ut (b.WK t p (q.i+1))) [(.loc 8,.loc 47)] (.par 0)= .par 0:=
   (On (labC:=akL (.gen 0)) (fun p1 p2 _ _ e=>Xs LS e) (p:=0) (OO.2 tM)).trans (MI 0 tM Pr)
  have r8:PM (akL (.gen 0)) U9 (Ut (b.WK t p (q.i+1))) [(.loc 8,.loc 47)] (.loc 8)= .loc 47:=(OE (by intro p' _;simp[akL];split<;>simp)).trans PN;refine⟨(g1.Yr fun p' BT=>II p' BT 8).Yr fun p' BT=>II p' BT 47,?_,?_,?_,PN,?_,PZ,?_⟩
  ·intro l he hu;cases l with
   |par k'=>
    by_cases h1:k'=1
    ·subst h1;right;right;rfl
    left;refine⟨k',OO.2 ?_,by simp[akL,h1]⟩;refine E4 fun vy=>vy ?_;refine anf k' ?_;rw[aq _ _ N7,aq _ _ N7,g4 (.par k') ?_ PQ,aq _ _ N7,aq _ _ N7] at hu
    ·exact hu
    intro p' BT e;simp only[akL] at e;split at e<;>simp at e;subst e;exact vy ((OO (b:=b.WK t p q.i)).1 BT)
   |_=>simp[Lb.entry] at he
  ·simp[abz,k_,bJ,put,o9,r0,r8]
  ·intro z hz;simp only[Yq,bY] at hz;subst hz;simp[dn,ae,dy];rw[acd];simp[aB,xX]
  ·intro l hl p' BT;simp only[bY] at hl;subst hl;simpa[dn] using II p' BT 47
  intro p' BT;refine⟨by simp[akL];split<;>simp[Lb.fresh],?_⟩;unfold akL;split
  ·simp[Lb.entry]
  rename_i h1;intro _;exact MI p' ((OO (b:=b.WK t p (q.i+1))).1 BT) h1
 have he:q.i=t.kids.length:=by simp at h;omega
 have hs:H0 (.par 0)= .live ⟨3,[[.sl (.gen 0) 5 0 (b.WK t p q.i).nodes.length,.sl (.par 2) 1 0 b.fs.length,.sl (.par 3) 1 0 b.az.length]]⟩:=hB.s;have F2:H0 (.gen 0)= .live ⟨5,(b.WK t p q.i).nodes.mapIdx (NI b.n0 (akL (.gen 0)))⟩:=hB.n;have E0:t.kids.take q.i=t.kids:=by rw[he];simp
 rw[E0] at a8 JV;have hx:(b.WK t p q.i).nodes[b.nodes.length]?=some ⟨t.text,t.s,t.attrs,p,[]⟩:=by simp[Bn.WK]
 have hlen:b.nodes.length<(b.WK t p q.i).nodes.length:=(bd.1 hx).1;simp only[↓aX,mX,seval];refine⟨1,(mw (b.nodes.length+1) t.kids).map xX,0,q.i,rfl,a8,by rw[bA,JV];omega,XD _,?_⟩;simp only[↓aX,mX,seval,hs,F2,pz,hlen,eG,bX,A5,tk,bM,hB.get hx,aaa hn];have jY:((b.WK t p q.i).nodes.mapIdx (NI b.n0 (akL (.gen 0))))[b.nodes.length]?=some [.bool t.text,.str t.s,.list (cD t.attrs),.int .i64 p,.list []]:=by
  have:=hB.get hx;rw[show(b.WK t p q.i).n0=b.n0 from rfl,aaa hn] at this;exact this
 have hkt:((mw (b.nodes.length+1) t.kids).map xX).take q.i=(mw (b.nodes.length+1) t.kids).map xX:=eN (by rw[bA,JV];omega);simp only[↓aX,mX,seval,jY,hkt];have aiy:(b.WK t p q.i).set b.nodes.length {(⟨t.text,t.s,t.attrs,p,[]⟩:Node) with kids:=mw (b.nodes.length+1) t.kids}=b.add t p:=by
  unfold Bn.set Bn.WK Bn.add;simp only[E0,Tree.qm,Tree.node];rw[Nc _ _ (eM _)];simp
 refine⟨⟨fun _=> .int .i64 b.nodes.length,Ut (b.add t p),akL (.gen 0)⟩,⟨rfl,rfl⟩,fun ρ=>rfl,Pv,rfl,?_,?_⟩
 ·rw[←aiy];refine Oi.aiw (H:=bD H0 (.loc 8) .dead) (hB.Yr (by intro p' _;simp[akL];split<;>simp)) (i:=b.nodes.length) hn hx ?_ ?_
  ·show bD _ _ _ (Lb.gen 0)=_;simp[ae];rfl
  intro l hl;have:l≠ .gen 0:=hl;simp[ae,this]
 intro p' BT;have:=(Wp.1 BT).2;simp[akL,this]
theorem aab:∀{l:List Tree} {k:Tree},k∈l→k.jz≤dP l
 |x::r,k,h=>by
  rcases dU.1 h with rfl|h
  ·simp only[dP];omega
  have:=aab h;simp only[dP];omega
def agX (P:Program) (G:Nat→Option (List IV)) (f:Nat):Prop:=∀xs:List Attr,xs.length≤B→au P G f [.list (cD xs)] (.list (cD xs))
theorem ahT {gE iJ:Nat} (hF:aw P G gE=some (58,[(none,6)],(VT iJ gE).bare)) (hC:agX P G iJ):∀(m:Nat) (t:Tree),t.jz≤m→∀(b:Bn),b.n0≤b.nodes.length→∀(p:Int),b.nodes.length+t.wt≤B →
  Jg P G gE [.ptr (.par 0) 3 0 0,t.av,.int .i64 p] (Ut b) (b.but 1) fun X R2=>X=(fun _=> .int .i64 b.nodes.length)∧R2=Ut (b.add t p)
 |0,t,h,_,_,_,_=>by have:=t.uE;omega
 |m+1,t,h,b,hn,p,hb=>by
  have hw:=t.gx;have hl:=iz t.attrs;refine ahR hF b hn t p hb (hC _ tM) fun b' k hk h0 h1 h2=> ?_;have h3:b'.but 1=b.but 1:=by unfold Bn.but;rw[h0]
  rw[←h3];obtain⟨i,hi⟩:=yl hk;have:=aab hk;exact ahT hF hC m k (by rw[t.n8] at h;omega) b' tM _ h2
end

def Bn.Uf (b:Bn) (p:Nat) (l:List Tree):Bn:={b with nodes:=b.nodes++akX b.nodes.length p l}
def Bn.ins (b:Bn) (p pl:Nat) (l:List Tree):Bn:=match b.nodes[p]? with
 |some x=>(b.Uf p l).set p {x with kids:=x.kids.take pl++mw b.nodes.length l++x.kids.drop pl}
 |none=>b
def Bn.acr (b:Bn) (p q:Nat):List Nat:=(List.range (4+2*b.n0)).filter fun i=>i≠p∧i≠q
def ajq {b:Bn} {p q i:Nat}:i∈b.acr p q↔i<4+2*b.n0∧i≠p∧i≠q:=by simp[Bn.acr]
def agY (P:Program) (G:Nat→Option (List IV)) (f:Nat):Prop:=∀(xs vs:List Int) (i:Nat),i≤xs.length→xs.length+vs.length≤B →
 tq P G 1 f [.sl (.par 0) 1 0 xs.length,.int .i64 i,.list (vs.map xX)] (xs.map xX) ((xs.take i++vs++xs.drop i).map xX)
def aeK (P:Program) (G:Nat→Option (List IV)) (f:Nat):Prop:=∀(xs:List Int) (i:Nat),i<xs.length→xs.length≤B →
 tq P G 1 f [.sl (.par 0) 1 0 xs.length,.int .i64 i,.int .i64 ((i+1:Nat):Int)] (xs.map xX) ((xs.take i++xs.drop (i+1)).map xX)
def aiz (P:Program) (G:Nat→Option (List IV)) (f:Nat):Prop:=∀(t:Tree) (b:Bn),b.n0≤b.nodes.length→∀(p:Int),b.nodes.length+t.wt≤B →
 Jg P G f [.ptr (.par 0) 3 0 0,t.av,.int .i64 p] (Ut b) (b.but 1) fun X R2=>X=(fun _=> .int .i64 b.nodes.length)∧R2=Ut (b.add t p)
section
variable {P:Program} {G:Nat→Option (List IV)}
def VX (gE gM:Nat):AC:=
(aM [zi 8] (.gh (.own 8 1) (.seq (aM [MR 11 3,oy 12 11,gH 13 0] (.block 0 (.loop (aM [et 14 .lss 13 12] (.seq (.cond (.t 14) .skip (.exit 0)) (.seq (.block 1 (aM [jL 15 11 13 4,gz 16 4 15,aQ 10 (.new [(.bool false),(.str []),.nil0,.nil0]),gg (.store 4 (.t 10) (.t 16))] (.cq [MR 17 8,MR 18 0,gz 19 4 10,MR 20 1,aQ 21 (.call gE [(.t 18),(.t 19),(.t 20)]),aQ 22 (.lits 1 1 [(.int .i64 0)] [(0,(.t 21))]),aQ 23 (.app (.t 17) (.t 22) 1 8),MR 8 23]))) (.cq [eY 24 .add 13 1,MR 13 24]))))))) (.gh (.zS (.loc 8) 8) (.VL [MR 25 0,aQ 26 (.dp (.t 25)),ep 27 26 0,fm 28 27,MR 29 1,MR 30 0,aQ 31 (.dp (.t 30)),ep 32 31 0,fm 33 32,MR 34 1,jL 35 33 34 5,ep 36 35 4,fm 37 36,MR 38 2,MR 39 8,aQ 40 (.call gM [(.t 37),(.t 38),(.t 39)]),jL 41 28 29 5,ep 42 41 4,gg (.store 1 (.t 42) (.t 40))] [[],[0],[1],[2],[],[],[5],[6],[7],[],[8,9],[10],[11],[],[],[12,13,14],[3,4,0,1,2,3,4,5,6,7,8,9,10,11,12,13,14,15],[16,0,1,2,3,4,5,6,7,8,9,10,11,12,13,14,15],[17,15,15,0,1,2,3,4,5,6,7,8,9,10,11,12,13,14,15]] [.no,.no,.no,(.rw [(.par 0)] []),.no,.no,.no,.no,(.rw [(.par 0)] []),.no,.no,.no,(.rw [(.gen 0)] []),.no,.no,(.p_ [(.par 0)]),.no,.no,(.rw [] [(.gen 0)])])))))
structure UQ (l:List Tree) where
 i:Nat
 hi:i≤l.length
def abA (b:Bn) (p pl:Nat) (l:List Tree) (q:UQ l):List (Nat×AV):=
 [(0,.ptr (.par 0) 3 0 0),(1,.int .i64 p),(2,.int .i64 pl),(8,.sl (.loc 8) 1 0 q.i),(11,.list (dq l)),(12,.int .i64 l.length),(13,.int .i64 q.i)]
def Yf (b:Bn) (l:List Tree) (q:UQ l):List (Lb×Row):=
 [(.loc 8,⟨1,aB ((mw b.nodes.length (l.take q.i)).map xX)⟩)]
def Qq {p:Prop} (h:p:=by simp[ie,Yf,kl,bD,Hp.none]):p:=h
def afU {ej gE gM:Nat} (hF:aw P G ej=some (43,[],(VX gE gM).bare)) (b:Bn) (hn:b.n0≤b.nodes.length) (p pl:Nat) (hp:p<b.n0) (x:Node) (hx:b.nodes[p]?=some x) (BS:pl≤x.kids.length)
  (l:List Tree) (hb:b.nodes.length+dE l≤B) (UX:x.kids.length+l.length≤B) (hA:aiz P G gE) (hI:agY P G gM) :
  Jg P G ej [.ptr (.par 0) 3 0 0,.int .i64 p,.int .i64 pl,.list (dq l)] (Ut b) (b.acr 1 (5+2*p)) fun X R2=>X=(fun _=> .gf [])∧R2=Ut (b.ins p pl l):=by
 refine VM hF N7 Qk ?_;have VB:Oi Lb.par b (Lx (Ut b)):=Xv _;have hU:∀q:Lb,(∀p,p<4+2*b.n0→q≠ .par p)→Lx (Ut b) q= .unused:=fun q hq=>Qa _ fun p hp e=>hq p (OO.1 hp) e.symm;have h8:Lx (Ut b) (.loc 8)= .unused:=hU _ N7;have Hm:=eZ l;have zo:B=1073741824:=rfl;have LS:∀p',p'≠1→Lb.gen 0≠ .par p':=N7
 have hI0:∀q:UQ l,Ut (b.Uf p (l.take q.i))=Ut (b.Uf p (l.take q.i)):=fun _=>rfl;unfold VX;simp only[↓aX,mX,seval,h8];refine SJ (σ:=UQ l) (akL (.gen 0)) (fun q=>Ut (b.Uf p (l.take q.i))) [.loc 8] (fun l=>l== .par 1) (abA b p pl l) (Yf b l) (fun q=>l.length - q.i) ⟨0,zd _⟩
  (fun q p1 p2 _ _ e=>Xs LS e) (fun _=>rfl) (by simp[akL];intro _ p' _;split<;>simp) ?_ ?_ ?_ ?_
 ·intro q l' hl;simp[ah,AV.an,abA] at hl;rcases hl with rfl|rfl
  ·right;exact⟨0,OO.2 tM,by simp[akL]⟩
  left;simp
 ·intro q z hz cs bV l' hl;simp only[Yf,bY] at hz;subst hz;rw[bU bV] at hl;simp at hl
 ·have oK:b.Uf p (l.take 0)=b:=by simp[Bn.Uf,akX]
  refine⟨Lb.par,[],?_⟩;have r0:PM (akL (.gen 0)) Lb.par (Ut (b.Uf p (l.take 0))) [] (.par 0)= .par 0:=
   On (labC:=akL (.gen 0)) (fun p1 p2 _ _ e=>Xs LS e) (p:=0) (OO.2 tM)
  have r8:PM (akL (.gen 0)) Lb.par (Ut (b.Uf p (l.take 0))) [] (.loc 8)= .loc 8:=OE (by intro p' _;simp[akL];split<;>simp);refine⟨?_,?_,?_,?_,PN,?_,PZ,?_⟩
  ·simp only[oK];exact VB.Yr N7
  ·intro l' he hu;cases l' with
   |par k=>
    by_cases h1:k=1
    ·subst h1;right;right;rfl
    left;refine⟨k,OO.2 ?_,by simp[akL,h1]⟩;refine E4 fun hk=>hu ?_;simp only[ae,reduceCtorEq,nX];exact hU _ fun p' BT e=>hk (by simp only[Lb.par.injEq] at e;subst e;exact BT)
   |_=>simp[Lb.entry] at he
  ·simp[abA,k_,bJ,put,jP,bF];exact⟨r0.symm,r8.symm⟩
  ·intro z hz;simp only[Yf,bY] at hz;subst hz;simp[dn,ae,dy];simp[mw,aB]
  ·intro l' hl p' BT;simp only[bY] at hl;subst hl;simp[dn]
  intro p' BT;refine⟨by simp[akL];split<;>simp[Lb.fresh],?_⟩;unfold akL;split<;>simp[Lb.entry]
 intro q;obtain⟨H0,EY⟩:∃H0,H0=Lw (akL (.gen 0)) (Ut (b.Uf p (l.take q.i))) (ie (fun l=>l== .par 1) (Yf b l q)):=⟨_,rfl⟩;rw[←EY];have hB:Oi (akL (.gen 0)) (b.Uf p (l.take q.i)) H0:=by rw[EY];exact Ed.R6 (fun p1 p2 _ _ e=>Xs LS e) _
 have hO:∀l':Lb,(∀p',akL (.gen 0) p'≠l')→H0 l'=ie (fun l=>l== .par 1) (Yf b l q) l':=fun l' hl=>by rw[EY];exact Qa _ fun p' _=>hl p'
 have a8:H0 (.loc 8)= .live ⟨1,aB ((mw b.nodes.length (l.take q.i)).map xX)⟩:=(hO _ (by intro p';simp[akL];split<;>simp)).trans (by simp[ie,Yf,kl,bD]);have a10:H0 (.loc 10)= .unused:=(hO _ (by intro p';simp[akL];split<;>simp)).trans Qq;have a23:H0 (.loc 23)= .unused:=(hO _ (by intro p';simp[akL];split<;>simp)).trans Qq;have ag:H0 (.gen 40)= .unused:=(hO _ (by intro p';simp[akL];split<;>simp)).trans Qq;have aN:∀l,H0 (NC 9 l)= .unused:=fun l'=>(hO _ (by intro p';simp[akL,NC];split<;>simp)).trans (by simp[ie,Yf,kl,bD,Hp.none,NC]);have anf:∀k,H0 (.par k)≠ .unused→k<4+2*b.n0:=by
  intro k hu;refine E4 fun hk=>hu ?_;rw[EY,Qa _ fun p' BT e=> ?_]
  ·have:k≠1:=tM;simp[ie,Yf,kl,bD,Hp.none,this]
  have h2:=(OO (b:=b.Uf p (l.take q.i))).1 BT;unfold akL at e;split at e<;>simp at e;subst e;exact hk h2
 clear EY hO;have hi:=q.hi;have JV:(mw b.nodes.length (l.take q.i)).length=q.i:=by rw[VS,tp];omega
 have Lp:=ql (l.take q.i);have LG:=lV l q.i;simp only[↓aX,mX,seval,abA];refine AU (fun h=> ?_) (fun h=> ?_)
 ·have bI:q.i<l.length:=by simpa using h
  obtain⟨k,HA⟩:∃k,l[q.i]?=some k:=⟨_,bS bI⟩;have hw:IntKind.i64.wrap ((q.i:Int)+1)=((q.i+1:Nat):Int):=wrap64 tM tM;have E0:l.take (q.i+1)=l.take q.i++[k]:=Vl HA;have ME:dE (l.take q.i)+k.wt≤dE l:=by
   have:=lV l (q.i+1);rw[E0,kn] at this;simp only[dE] at this;omega
  simp only[↓aX,mX,seval,iy,HA,lT,Tree.cJ,Tree.cs,a10];have aa6:(b.Uf p (l.take q.i)).nodes.length=b.nodes.length+dP (l.take q.i):=by simp[Bn.Uf,my]
  refine WV (lab:=akL (.gen 0)) (N:=NC 9) (hA k (b.Uf p (l.take q.i)) (by rw[aa6];show b.n0≤_;omega) p (by rw[aa6];omega)) ?_ ?_ ?_ (Yo 9) (fun l h=> .inl h) (fun p' BT=>OO.2 (Wp.1 BT).1) ?_
  ·simp[bu,bJ,S1,akL,Tree.av]
  ·exact(hB.Yr (by intro p' _;simp[akL];split<;>simp)).Yr (by intro p' _;simp[akL];split<;>simp)
  ·intro l';rw[aq _ _ PQ,aq _ _ PQ];exact aN l'
  rintro X R2 U9 H2 ⟨rfl,rfl⟩ g1 g2 g3 g4 g5 g6;have IB:∀n:Nat,n≠10→H2 (.loc n)=H0 (.loc n):=fun n hn=>by
   rw[g4 (.loc n) (by intro p' _;simp[akL];split<;>simp) PQ,aq _ _ (by simpa using hn),aq _ _ (by simpa using hn)]
  have II:∀p':Nat,(Ut ((b.Uf p (l.take q.i)).add k p)).ok p'→∀n,U9 p'≠ .loc n:=by
   intro p' BT n;rcases g3 p' BT with⟨p0,_,e⟩|⟨l,e⟩<;>rw[e]
   ·simp[akL];split<;>simp
   simp[NC]
  have MI:∀p',p'<4+2*b.n0→p'≠1→U9 p'= .par p':=fun p' h1 h2=>by rw[g2 p' (Wp.2 ⟨h1,h2⟩)];simp[akL,h2]
  simp only[↓aX,mX,seval];rw[qg 1 8 23 8 ((mw b.nodes.length (l.take q.i)).map xX) (.int .i64 (b.Uf p (l.take q.i)).nodes.length) (by rw[IB 8 Pr,a8]) (by rw[bA,JV]) rfl PX tM Pr Pr (by rw[IB 23 Pr,a23])];simp only[↓aX,mX,seval,hw];have acd:mw b.nodes.length (l.take (q.i+1))=mw b.nodes.length (l.take q.i)++[((b.Uf p (l.take q.i)).nodes.length:Int)]:=by
   rw[E0,WZ,aa6];simp[mw]
  have hbn:(b.Uf p (l.take q.i)).add k p=b.Uf p (l.take (q.i+1)):=by
   show({(b.Uf p (l.take q.i)) with nodes:=(b.Uf p (l.take q.i)).nodes++k.flat (b.Uf p (l.take q.i)).nodes.length p}:Bn)=_;rw[aa6];simp[Bn.Uf,E0,pd,akX]
  rw[hbn] at g1 II;refine⟨⟨q.i+1,bI⟩,Pq,U9,[(.loc 8,.loc 23)],?_⟩;have r0:PM (akL (.gen 0)) U9 (Ut (b.Uf p (l.take (q.i+1)))) [(.loc 8,.loc 23)] (.par 0)= .par 0:=
   (On (labC:=akL (.gen 0)) (fun p1 p2 _ _ e=>Xs LS e) (p:=0) (OO.2 tM)).trans (MI 0 tM Pr)
  have r8:PM (akL (.gen 0)) U9 (Ut (b.Uf p (l.take (q.i+1)))) [(.loc 8,.loc 23)] (.loc 8)= .loc 23:=(OE (by intro p' _;simp[akL];split<;>simp)).trans PN;refine⟨(g1.Yr fun p' BT=>II p' BT 8).Yr fun p' BT=>II p' BT 23,?_,?_,?_,PN,?_,PZ,?_⟩
  ·intro l' he hu;cases l' with
   |par k'=>
    by_cases h1:k'=1
    ·subst h1;right;right;rfl
    left;refine⟨k',OO.2 ?_,by simp[akL,h1]⟩;refine E4 fun vy=>vy ?_;refine anf k' ?_;rw[aq _ _ N7,aq _ _ N7,g4 (.par k') ?_ PQ,aq _ _ N7,aq _ _ N7] at hu
    ·exact hu
    intro p' BT e;simp only[akL] at e;split at e<;>simp at e;subst e;exact vy ((OO (b:=b.Uf p (l.take q.i))).1 BT)
   |_=>simp[Lb.entry] at he
  ·simp[abA,k_,bJ,put,o9,r0,r8]
  ·intro z hz;simp only[Yf,bY] at hz;subst hz;simp[dn,ae,dy];rw[acd];simp[aB,xX]
  ·intro l' hl p' BT;simp only[bY] at hl;subst hl;simpa[dn] using II p' BT 23
  intro p' BT;refine⟨by simp[akL];split<;>simp[Lb.fresh],?_⟩;unfold akL;split
  ·simp[Lb.entry]
  rename_i h1;intro _;exact MI p' ((OO (b:=b.Uf p (l.take (q.i+1)))).1 BT) h1
 have he:q.i=l.length:=by simp at h;omega
 have E0:l.take q.i=l:=by rw[he];simp
 rw[E0] at a8 JV hB;have hs:H0 (.par 0)= .live ⟨3,[[.sl (.gen 0) 5 0 (b.Uf p l).nodes.length,.sl (.par 2) 1 0 b.fs.length,.sl (.par 3) 1 0 b.az.length]]⟩:=hB.s;have F2:H0 (.gen 0)= .live ⟨5,(b.Uf p l).nodes.mapIdx (NI b.n0 (akL (.gen 0)))⟩:=hB.n;have hlp:p<b.nodes.length:=tM
 have T8:(b.Uf p l).nodes[p]?=some x:=by simp only[Bn.Uf];rw[bB hlp];exact hx
 have hlen:p<(b.Uf p l).nodes.length:=(bd.1 T8).1;have h5:¬5+2*p=1:=tM
 have K2:H0 (.par (5+2*p))= .live ⟨1,aB (x.kids.map xX)⟩:=by
  have:=hB.kd hp T8;simpa[akL,h5] using this
 have jY:((b.Uf p l).nodes.mapIdx (NI b.n0 (akL (.gen 0))))[p]?=some [.bool x.text,.str x.s,.sl (.par (4+2*p)) 2 0 x.attrs.length,.int .i64 x.parent,.sl (.par (5+2*p)) 1 0 x.kids.length]:=by
  have:=hB.get T8;rw[show(b.Uf p l).n0=b.n0 from rfl,Va hp] at this;rw[this];have h4:¬4+2*p=1:=tM
  simp[akL,h4,h5]
 have hkt:((mw b.nodes.length l).map xX).take q.i=(mw b.nodes.length l).map xX:=eN (by rw[bA,JV];omega);simp only[↓aX,mX,seval];refine⟨1,(mw b.nodes.length l).map xX,0,q.i,rfl,a8,by rw[bA,JV];omega,XD _,?_⟩;simp only[↓aX,mX,seval,hs,F2,pz,hlen,eG,bX,A5,tk,bM,jY,hkt];refine⟨rfl,?_⟩;have agZ:(mw b.nodes.length l).length=l.length:=VS _ _;have Tg:b.ins p pl l=(b.Uf p l).set p {x with kids:=x.kids.take pl++mw b.nodes.length l++x.kids.drop pl}:=by unfold Bn.ins;rw[hx]
 have aiA:∀k,akL (.gen 0) k≠ .loc 8:=by intro p';simp[akL];split<;>simp
 have hB':Oi (akL (.gen 0)) (b.Uf p l) (bD H0 (.loc 8) .dead):=hB.Yr fun p' _=>aiA p';have key:∀N:Lb,(N= .par (5+2*p)∨N= .gen 40)→∀H2:Hp,H2 (.gen 0)= .live ⟨5,((b.Uf p l).nodes.mapIdx (NI b.n0 (akL (.gen 0)))).set p [.bool x.text,.str x.s,.sl (.par (4+2*p)) 2 0 x.attrs.length,.int .i64 x.parent,.sl N 1 0 (x.kids.take pl++mw b.nodes.length l++x.kids.drop pl).length]⟩ →
   H2 N= .live ⟨1,aB ((x.kids.take pl++mw b.nodes.length l++x.kids.drop pl).map xX)⟩→(∀q,q≠ .gen 0→q≠N→q≠ .par (5+2*p)→H2 q=bD H0 (.loc 8) .dead q) →
   ∃t:((Nat→Lb)→AV)×uR×(Nat→Lb),(t.1=(fun _=> .gf [])∧t.2.1=Ut (b.ins p pl l))∧(∀ρ,bJ ρ (t.1 t.2.2)=t.1 fun i=>ρ (t.2.2 i))∧(∀l∈(AV.gf []).an,∃p,t.2.1.ok p∧l=t.2.2 p)∧AV.gf []=t.1 t.2.2∧Ed t.2.2 t.2.1 H2∧∀p'∈b.acr 1 (5+2*p),t.2.2 p'= .par p':=by
  intro N hN H2 e1 e2 e3;refine⟨⟨fun _=> .gf [],Ut (b.ins p pl l),fun p'=>if p'=5+2*p then N else akL (.gen 0) p'⟩,⟨rfl,rfl⟩,fun ρ=>by simp[bJ,bu],PK,rfl,?_,?_⟩
  ·rw[Tg];have h4:¬4+2*p=1:=tM;refine Oi.afQ hB' hp T8 ?_ (by rw[show akL (.gen 0) (4+2*p)= .par (4+2*p) by simp[akL,h4]];exact e1) e2 (fun q g1 g2 g3=>e3 q g1 g2 (by simpa[akL,h5] using g3));rcases hN with rfl|rfl
   ·left;simp[akL,h5]
   right;intro p' _;simp[akL];split<;>simp
  intro p' BT;obtain⟨_,q1,q2⟩:=ajq.1 BT;simp[q1,q2,akL]
 refine Bg (l:= .par (5+2*p)) (N:= .gen 40) (hI x.kids (mw b.nodes.length l) pl BS (by rw[agZ];exact UX)) rfl (by rw[aq _ _ N7];exact K2) (by rw[aq _ _ N7];exact ag) Qc P' P' ?_ ?_
 ·simp only[↓aX,mX,seval,hs,F2,pz,hlen,eG,bX,A5,tk,bM,jY,bA];rw[lM];refine⟨[],rfl,key (.gen 40) (.inr rfl) _ PE PE ?_⟩;intro q g1 g2 g3;simp[ae,g1,g2,g3]
 simp only[↓aX,mX,seval,hs,F2,pz,hlen,eG,bX,A5,tk,bM,jY,bA];rw[lM];refine⟨[],rfl,key (.par (5+2*p)) (.inl rfl) _ PE PE ?_⟩;intro q g1 g2 g3;simp[ae,g1,g2,g3]
end
end Go.Am
