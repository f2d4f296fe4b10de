import Derived.Test.YtfeijflhfhkbnaaGreatDoorKAc0S
import Derived.Test.YtfeijflhfhkbnaaGreatDoorKP2S
import Derived.Test.YtfeijflhfhkbnaaGreatDoorKT150S
import Derived.Test.YtfeijflhfhkbnaaGreatDoorKAm47S
import Derived.Test.YtfeijflhfhkbnaaGreatDoorKAm53S
import Derived.Test.YtfeijflhfhkbnaaGreatDoorKT87S
import Derived.Test.YtfeijflhfhkbnaaGreatDoorKAm20S
import Derived.Test.YtfeijflhfhkbnaaGreatDoorKT91S
import Derived.Test.YtfeijflhfhkbnaaGreatDoorKT21S
import Derived.Test.YtfeijflhfhkbnaaGreatDoorKAm48S
set_option linter.all false
/- The document's answer for paths: called, isMeant, SelectOf, IsPath, SameSteps. -/
namespace Go.Am
open Go Go.RowKit
section
variable {P:Program} {G:Nat->Option (List IV)} [KN P G]
def Uz (x:Node) (nm:Bs):aj P G 120 [x.av,.str nm] (.bool (iZ x.text x.s nm)):=by
 refine au (cw 120 []) ajL (by simp[ai,AV.aq,Node.av]) ajP ?_;simp only[↓aX,mX,seval,Node.av,iZ];cases ht:x.text with
 |true=>simp only[↓aX,mX,seval,aiV,ajl,aiz]
 |false=>
 simp only[↓aX,mX,seval,ah6,aht];cases h1:(nm==[]) with
 |true=>
  have:nm=[]:=aj8
  subst this;simp only[↓aX,mX,seval,show(([]:Bs)==[42])=false from rfl,af1,show(([]:Bs)==[])=true from rfl,af4];simp
 |false=>
 cases h2:(nm==[42]) with
 |true=>simp only[↓aX,mX,seval,af4];simp
 |false=>simp only[↓aX,mX,seval,af1,h1];simp
def Lh (l:List Step) (hl:l.length<=B) (hN:∀x∈l,aj P G 97 [.str x.name] (.bool (named x.name))) :
  aj P G 60 [.list (l.map Step.iv)] (.bool (bm l)):=by
 refine au (cw 60 []) ajL ajO ajP ?_;have gV:B=1073741824:=rfl;simp only[↓aX,mX,seval,eD];refine dj (σ:={i:Nat // i<=l.length/\∀x∈l.take i,dZ x=true}) (λq=>[(0,.list (l.map Step.iv)),(5,.list (l.map Step.iv)),(6,.int .i64 l.length),(7,.int .i64 q.1)]) (λq=>l.length - q.1) ⟨0,ajL⟩ (λ_=>rfl) ?_ ?_
 ·exact qi
 rintro⟨i,hi,hs⟩;simp only[↓aX,mX,seval,eD];by_cases aF:i<l.length
 ·rw[dT aF];obtain⟨x,hx⟩:=gE aF;have NO:=af3 hx;have hw:=w1 i;have stop:dZ x=false->bm l=false:=λh=>by
   unfold bm;rw[show l.all dZ=false from List.all_eq_false.2 ⟨x,NO,anM⟩];rfl
  have next:dZ x=true->∀y∈l.take (i+1),dZ y=true:=λh y hy=>by
   rw[agz,hx] at hy;simp only[ahR,agi,af'] at hy;rcases hy with hy|rfl
   ·exact hs y hy
   exact h
  simp only[↓aX,mX,seval,PX,hx,Cy,af9,Step.ax,Step.cs];have tail:∀b:Bool,(x.name==[]||(x.name==[42]||named x.name))=b->dZ x=(b&&(decide (0<=x.n)&&decide (x.n<=99))):=λb h=>by unfold dZ;rw[h]
  by_cases h4:x.n<0
  ·simp only[↓aX,mX,seval,h4,ag3,stop (by unfold dZ;rw[ahV (show ¬0<=x.n by omega),aha,aht])]
  by_cases h5:99<x.n
  ·simp only[↓aX,mX,seval,h4,ag4,aiF,h5,ag3,af1,stop (by unfold dZ;rw[ahV (show ¬x.n<=99 by omega),aht,aht])]
  have hd:(decide (0<=x.n)&&decide (x.n<=99))=true:=by rw[ahQ (show 0<=x.n by omega),ahQ (show x.n<=99 by omega)];rfl
  simp only[↓aX,mX,seval,h4,ag4,aiF,h5,af1];cases h1:(x.name==[]) with
  |true=>
   have ht:=tail true anN;simp only[↓aX,mX,seval,show(x.name !=[])=false by simp[bne,h1],hw];exact⟨⟨i+1,aF,next an2⟩,ajM,rfl⟩
  |false=>
  simp only[↓aX,mX,seval,show(x.name !=[])=true by simp[bne,h1]];cases h2:(x.name==[42]) with
  |true=>
   have ht:=tail true am4;simp only[↓aX,mX,seval,show(x.name !=[42])=false by simp[bne,h2],hw];exact⟨⟨i+1,aF,next an2⟩,ajM,rfl⟩
  |false=>
  simp only[↓aX,mX,seval,show(x.name !=[42])=true by simp[bne,h2]];refine ah (hN x NO) ?_;cases h3:named x.name with
  |true=>
   have ht:=tail true amp;simp only[↓aX,mX,seval,af4,hw];exact⟨⟨i+1,aF,next an2⟩,ajM,rfl⟩
  |false=>
  have ht:=tail false amp;simp only[↓aX,mX,seval,af1,stop ht]
 have je:l.take i=l:=af2 ajK;have bV:l.all dZ=true:=agJ.2 λx hx=>hs x (by rw[je];exact hx);rw[dF aF];simp only[↓aX,mX,seval,eD];by_cases h1:1<=l.length
 ·by_cases h2:l.length<=5
  ·simp only[↓aX,mX,seval,show((l.length:Int)>0) by omega,ag3,eD,show((l.length:Int)<6) by omega,bm,bV,h1,h2,aiz]
  simp only[↓aX,mX,seval,show((l.length:Int)>0) by omega,ag3,eD,show ¬((l.length:Int)<6) by omega,bm,bV,h1,h2,ag4,aht]
 simp only[↓aX,mX,seval,show ¬((l.length:Int)>0) by omega,ag4,bm,bV,h1,aht,aha]
def A8 {d:Doc} {k:Nat} {x:Node} (h:d[k]?=some x) (nm:Bs):fU d nm k=iZ x.text x.s nm:=by simp only[fU,h]
def RH {d:Doc} {k:Nat} {x:Node} (h:d[k]?=some x) (p:Int):p_ d p k=(x.parent==p):=by simp only[p_,h]
def ou (d:Doc) (p:Int) (nm:Bs) (n:Nat):Nat:=((List.range n).filter λk=>p_ d p k&&fU d nm k).length
def G9 (d:Doc) (p:Int) (nm:Bs) (n:Nat):ou d p nm (n+1)=ou d p nm n+if p_ d p n&&fU d nm n then 1 else 0:=by
 simp only[ou,List.range_succ,ahd,age];cases h:(p_ d p n&&fU d nm n)<;>simp[h]
def Nt (d:Doc) (p:Int) (nm:Bs) (n:Nat):ou d p nm n<=n:=by
 have:=aiu (λk=>p_ d p k&&fU d nm k) (List.range n);simpa[ou] using this
def G_ (d:Doc) (p:Int) (nm:Bs) (n:Nat):pA d p nm n=ou d p nm (n+1):=rfl
structure MeS (n:Nat) where
 k:Nat
 hk:k<=n+1
def edM:List Ed:=[.f 27 1 (.rw [.loc 8] []),.f 27 9 (.rw [.loc 8] []),.f 27 12 (.rw [.loc 3] []),.f 27 14 (.rw [.loc 8] []),.f 56 1 (.rw [.loc 3] []),.f 56 7 (.rw [.loc 8] []),.f 56 11 (.rw [.loc 3] []),.f 56 16 (.rw [.loc 7] [])]
noncomputable def m_C:AC:=match(Ds 78 edM).Se (fun| .block 0 (.loop _)=>true|_=>false) with
 |some (.block _ (.loop c))=>c
 |_=> .skip
noncomputable def m_T:AC:=(Ds 78 edM).NS 77
def ae6:=BI m_C
def ae7:=BI m_T
def ae8 (C T:AC):=XW 78 (edM++[.t 77 T]) λx=>(x.fst (fun| .block 0 (.loop _)=>true|_=>false) λ_=> .block 0 (.loop C)).1
def UA (d:Doc) (x:Node) (s:Step) (n:Nat) (q:MeS n):List (Nat×AV):=[(1,.int .i64 (n:Int)),(3,.ptr (.loc 3) 1 0 0),(7,.ptr (.loc 7) 2 0 0),(8,.ptr (.loc 8) 5 0 0),(9,.int .i64 (ou d x.parent s.name q.k)),(10,.int .i64 q.k)]
def UB (d:Doc) (x:Node) (s:Step) (n:Nat) (_:MeS n):List (Lb×Row):=[(.loc 3,⟨1,[[.list (d.map Node.iv)]]⟩),(.loc 7,⟨2,[[.str s.name,.int .i64 s.n]]⟩),(.loc 8,⟨5,[[.bool x.text,.str x.s,.list (aQ x.attrs),.int .i64 x.parent,.list (x.kids.map aC)]]⟩)]
def Li (d:Doc) (hd:mr d<=B) (s:Step) (n:Nat) (x:Node) (yo:n<d.length) (hC:∀y∈d,aj P G 120 [.agg [.bool y.text,.str y.s,.list (aQ y.attrs),.int .i64 y.parent,.list (y.kids.map aC)],.str s.name] (.bool (iZ y.text y.s s.name)))
  {Q:ir} {E:Env} {H:Hp} (h0:WS [.loc 3,.loc 7,.loc 8] (UA d x s n) (UB d x s n) E H ⟨0,ajK⟩)
  (Fj:∀(E':Env) (H':Hp),E' 6= .bool (s.n==0||s.n==((ou d x.parent s.name (n+1):Nat):Int))->Q .ret E' H'):oL ⟨P,G,86⟩ Q m_C [.yF 0,.code m_T] E H:=by
 have gV:B=1073741824:=rfl;have xD:=kc d;refine b_ (σ:=MeS n) [.loc 3,.loc 7,.loc 8] (UA d x s n) (UB d x s n) (λq=>n+1 - q.k) ⟨0,ajK⟩ (λ_=>rfl) ajN (by simp[UA,ai,AV.aq]) (by simp[UB,ai,AV.aq]) h0 ?_;rintro⟨k,hk⟩;rw[ae6];simp only[↓aX,mX,seval,aR,aI,UA,UB];by_cases aF:k<=n
 ·obtain⟨y,hy⟩:∃y,d[k]?=some y:=⟨_,af7 ajK⟩;have gz:=w1 k;have Uc:=Nt d x.parent s.name k;have ml:IntKind.i64.wrap ((ou d x.parent s.name k:Int)+1)=((ou d x.parent s.name k+1:Nat):Int):=wrap64 ajK ajK;have Lj:=G9 d x.parent s.name k;rw[RH hy,A8 hy] at Lj;have hcy:=hC y (af3 hy);simp only[↓aX,mX,seval,show decide ((k:Int)<=(n:Int))=true by simpa using aF,Doc.iE hy,iY,Node.ax,Node.cs,af5,af0];cases e1:(y.parent==x.parent) with
  |false=>
   rw[e1] at Lj;simp only[↓aX,mX,seval,gz];refine⟨rfl,⟨k+1,ajK⟩,ajM,eu ?_ ⟨rfl,rfl,rfl,rfl,an',rfl,trivial⟩ ⟨rfl,rfl,rfl,trivial⟩⟩;intro l uj hu;cases l<;>simp_all[Lb.fresh,ae,Hp.none]
  |true=>
  simp only[↓aX,mX,seval,Doc.iE hy,iY,Node.ax,Node.cs,af5,af0];refine⟨rfl,dG hcy ?_⟩;cases e2:iZ y.text y.s s.name with
  |false=>
   rw[e1,e2] at Lj;simp only[↓aX,mX,seval,gz];refine⟨⟨k+1,ajK⟩,ajM,eu ?_ ⟨rfl,rfl,rfl,rfl,an',rfl,trivial⟩ ⟨rfl,rfl,rfl,trivial⟩⟩;intro l uj hu;cases l<;>simp_all[Lb.fresh,ae,Hp.none]
  |true=>
  rw[e1,e2] at Lj;simp only[↓aX,mX,seval,gz,ml];refine⟨⟨k+1,ajK⟩,ajM,eu ?_ ⟨rfl,rfl,rfl,rfl,an',rfl,trivial⟩ ⟨rfl,rfl,rfl,trivial⟩⟩;intro l uj hu;cases l<;>simp_all[Lb.fresh,ae,Hp.none]
 have zd:k=n+1:=ajK
 subst zd;simp only[↓aX,mX,seval,ae7,show decide (((n+1:Nat):Int)<=(n:Int))=false by simp;omega];cases e3:(s.n==0) with
 |true=>simp only[↓aX,mX,seval];exact Fj _ _ akw
 |false=>simp only[↓aX,mX,seval];exact Fj _ _ akw
def RI (d:Doc) (hd:mr d<=B) (l:List Step) (s:Step) (hl:l.length<=1000) (n:Nat) (x:Node) (hx:d[n]?=some x)
  (Ub:x.parent<(n:Int)) (hC:∀y∈d,aj P G 120 [y.av,.str s.name] (.bool (iZ y.text y.s s.name)))
  (hR:l≠[]->∀m:Nat,m<n->aj P G 78 [Doc.av d,.int .i64 (m:Int),.list (l.map Step.iv)] (.bool (bx d l.reverse m))) :
  aj P G 78 [Doc.av d,.int .i64 (n:Int),.list ((l++[s]).map Step.iv)] (.bool (bx d (l++[s]).reverse n)):=by
 refine au (XX (ae8 m_C m_T)) ajL aka ajP ?_;have gV:B=1073741824:=rfl;have xD:=kc d;have yo:n<d.length:=(afY.1 hx).1;simp only[Node.av] at hC;have HO:((l++[s]).map Step.iv).length=l.length+1:=ajL
 have zF:((l++[s]).map Step.iv)[l.length]?=some s.iv:=ajL
 have hwl:IntKind.i64.wrap (((l.length+1:Nat):Int) - 1)=(l.length:Int):=ajW
 have ig:((l++[s]).map Step.iv).take l.length=l.map Step.iv:=ajL
 have hm:bx d (l++[s]).reverse n=(iZ x.text x.s s.name&&((if x.parent<0 then l.isEmpty else(!l.isEmpty&&bx d l.reverse x.parent.toNat))&&(s.n==0||s.n==((pA d x.parent s.name n:Nat):Int)))):=by
  rw[List.reverse_append];show bx d (s::l.reverse) n=_;rw[nj hx rfl,A8 hx];simp
 simp only[↓aX,mX,seval,Doc.av,HO,hwl,zF,Cy,Step.ax,Step.cs,Doc.iE hx,iY,Node.ax,Node.cs,af5,af0];refine ah (hC x (af3 hx)) ?_;cases hf:iZ x.text x.s s.name with
 |false=>simp only[↓aX,mX,seval,af1,hm,hf,aha]
 |true=>
 obtain⟨b,hb⟩:∃b,((((l++[s]).length:Nat):Int)==1)=b:=⟨_,rfl⟩;have Om:l.isEmpty=b:=by rw[<-hb];cases l<;>simp<;>omega
 simp only[↓aX,mX,seval,af4,eD,hb];by_cases hp:x.parent<0
 ·have hq:decide (0<=x.parent)=false:=by simpa using hp
  have V8:(if x.parent<0 then l.isEmpty else(!l.isEmpty&&bx d l.reverse x.parent.toNat))=b:=by rw[agc hp,Om]
  cases b with
  |true=>
   simp only[↓aX,mX,seval,hp,ag3,eD,hb,af4,af1,ah1,show(true==false)=false from rfl,show(false==true)=false from rfl,aid,hq];refine⟨rfl,?_⟩;refine Li d hd s n x yo hC (eu ?_ ⟨rfl,rfl,rfl,rfl,rfl,rfl,trivial⟩ ⟨rfl,rfl,rfl,trivial⟩) λE' H' h=>(by simp only[↓aX,mX,seval,↓cJ,h];rw[hm,hf,V8,G_];simp only[ag7]);intro l uj hu;cases l<;>simp_all[Lb.fresh,ae,Hp.none]
  |false=>
  simp only[↓aX,mX,seval,hp,ag3,eD,hb,af4,af1,ah1,show(true==false)=false from rfl,show(false==true)=false from rfl,aid,hq];exact⟨rfl,by rw[hm,V8];simp⟩
 have hq:decide (0<=x.parent)=true:=by simpa using hp
 obtain⟨m,hmp⟩:=ahx (show 0<=x.parent by omega);cases b with
 |true=>
  have V8:(if x.parent<0 then l.isEmpty else(!l.isEmpty&&bx d l.reverse x.parent.toNat))=false:=by rw[af8 hp,Om];rfl
  simp only[↓aX,mX,seval,hp,ag4,eD,hb,af4,af1,ah1,show(true==false)=false from rfl,show(false==true)=false from rfl,aid,hq];exact⟨rfl,by rw[hm,V8];simp⟩
 |false=>
 have hr:=hR (by intro e;simp[e] at Om) m ajK;have V8:(if x.parent<0 then l.isEmpty else(!l.isEmpty&&bx d l.reverse x.parent.toNat))=bx d l.reverse m:=by rw[af8 hp,Om,hmp];rfl
 rw[Doc.av,<-hmp] at hr;simp only[↓aX,mX,seval,hp,ag4,eD,hb,af4,af1,ah1,show(true==false)=false from rfl,show(false==true)=false from rfl,aid,hq,show IntKind.i64.wrap ((((l++[s]).length:Nat):Int) - 1)=(l.length:Int) by rw[age];exact hwl,nH,nG,iz,yI,Cy,af5,af0,show l.length<=(l++[s]).length by simp,agR,agj,ig];refine⟨rfl,dG hr ?_⟩;cases OE:bx d l.reverse m with
 |false=>
  simp only[↓aX,mX,seval,hp,ag4,eD,hb,hq,af4,af1,ah1,show(true==false)=false from rfl,show(false==true)=false from rfl,aid];rw[hm,V8,OE];simp
 |true=>
 rw[OE] at V8;simp only[↓aX,mX,seval,hp,ag4,eD,hb,hq,af4,af1,ah1,show(true==false)=false from rfl,show(false==true)=false from rfl,aid];refine Li d hd s n x yo hC (eu ?_ ⟨rfl,rfl,rfl,rfl,rfl,rfl,trivial⟩ ⟨rfl,rfl,rfl,trivial⟩) λE' H' h=>by simp only[↓aX,mX,seval,↓cJ,h];rw[hm,hf,V8,G_];simp only[ag7]
 intro l uj hu;cases l<;>simp_all[Lb.fresh,ae,Hp.none]
structure SeS (d:Doc) where
 k:Nat
 hk:k<=d.length
def ru (d:Doc) (l:List Step) (k:Nat):List Int:=((List.range k).filter (bx d l.reverse)).map λk:Nat=>(k:Int)
def Nu (d:Doc) (l:List Step) (k:Nat):ru d l (k+1)=ru d l k++if bx d l.reverse k then [(k:Int)] else []:=by
 simp only[ru,List.range_succ,ahd,ag2];cases h:bx d l.reverse k<;>simp[h]
def RJ (d:Doc) (l:List Step) (k:Nat):(ru d l k).length<=k:=by
 have:=aiu (bx d l.reverse) (List.range k);simpa[ru] using this
noncomputable def Nv (d:Doc) (l:List Step):AV:=if bQ d&&bm l then .bq [.list ((ru d l d.length).map aC),.int .i64 0] else .bq [.nil0,.int .i64 1]
def Nw (d:Doc) (hd:mr d<=B) (l:List Step)
  (hD:aj P G 77 [Doc.av d] (.bool (bQ d))) (hP:aj P G 60 [.list (l.map Step.iv)] (.bool (bm l)))
  (hM:bQ d=true->bm l=true->∀m:Nat,m<d.length->aj P G 78 [Doc.av d,.int .i64 (m:Int),.list (l.map Step.iv)] (.bool (bx d l.reverse m))) :
  aj P G 41 [Doc.av d,.list (l.map Step.iv)] (Nv d l):=by
 refine au (cw 41 [.a 6 (.own 6 1),.b 31 (.tj (.loc 6) 6)]) ajL aka (by unfold Nv;split<;>simp[AV.aq,ai]) ?_;have gV:B=1073741824:=rfl;have xD:=kc d;simp only[Doc.av] at hD;simp only[↓aX,mX,seval,Doc.av];refine ah hD ?_;cases h1:bQ d with
 |false=>simp only[↓aX,mX,seval,af1,↓a_,Nv,h1,aha,agl]
 |true=>
 simp only[↓aX,mX,seval,af4];refine ah hP ?_;cases h2:bm l with
 |false=>simp only[↓aX,mX,seval,af1,↓a_,Nv,h1,h2,aht,agl]
 |true=>
 simp only[↓aX,mX,seval,af4,eD];refine br (σ:=SeS d) (λ_=>[.loc 2,.loc 6]) (λ_ _=>false)
  (λq=>[(1,.list (l.map Step.iv)),(2,.ptr (.loc 2) 1 0 0),(6,.sl (.loc 6) 1 0 (ru d l q.k).length),(18,.int .i64 d.length),(19,.int .i64 q.k)])
  (λq=>[(.loc 2,⟨1,[[.list (d.map Node.iv)]]⟩),(.loc 6,⟨1,ak ((ru d l q.k).map aC)⟩)]) (λq=>d.length - q.k) ⟨0,ajK⟩ (λ_=>rfl) (λq=>by simp[ai,AV.aq]) ?_ ⟨[],?_⟩ ?_
 ·intro q w hw cs aZ z hz;simp only[aga,agf,agI] at hw;rcases hw with rfl|rfl
  ·exact Dp
  exact Bp
 ·refine⟨?_,?_,?_,ajS,λl _=>⟨id,λ_=>rfl⟩⟩
  ·exact ow
  ·simp[dp,aD,aH,put,ru,fH]
  simp[eL,aD,ae,aP,aA,aH,ak,ru]
 rintro⟨k,hk⟩;rw[dq];have hr:∀(ρ:Lb->Lb) (xs:List IV),aP ρ ⟨1,ak xs⟩=⟨1,ak xs⟩:=λρ xs=>aK _ _ _;have Mv:=RJ d l k;simp only[↓aX,mX,seval,aR,aI];by_cases aF:k<d.length
 ·have gz:=w1 k;have T_:=hM h1 h2 k aF;simp only[Doc.av] at T_;have Lj:=Nu d l k;simp only[↓aX,mX,seval,dT aF];refine ah T_ ?_;cases hm:bx d l.reverse k with
  |false=>
   rw[hm] at Lj;simp only[↓aX,mX,seval,gz];refine⟨⟨k+1,aF⟩,ajM,[],?_⟩;refine⟨?_,?_,?_,ajS,λl _=>⟨id,λ_=>rfl⟩⟩
   ·exact ow
   ·simp[dp,aD,aH,put,Lj]
   simp only[eL,hr,Lj];simp[aD,ae,aP,aA,aH]
  |true=>
  rw[hm] at Lj;simp only[↓aX,mX,seval];rw[bX 1 8 29 6 ((ru d l k).map aC) (.int .i64 (k:Int)) ajR ajL rfl aj0 ajK ajK ajK ajX];simp only[↓aX,mX,seval,gz];refine⟨⟨k+1,aF⟩,ajM,[(.loc 6,.loc 29)],?_⟩;refine⟨?_,?_,?_,ajS,?_⟩
  ·exact ow
  ·simp[dp,aD,aH,put,Lj]
  ·simp only[eL,hr,Lj];simp[aD,ae,aP,aA,aH,aC]
  intro l hl;simp only[aga,agf,agI] at hl;rcases hl with rfl|rfl<;>exact⟨λ_=>rfl,λh=>by simp[Lb.fresh] at h⟩
 have zd:k=d.length:=ajK
 subst zd;simp only[↓aX,mX,seval,show decide ((d.length:Int)<(d.length:Int))=false by simp];have ig:List.take (ru d l d.length).length ((ru d l d.length).map aC)=(ru d l d.length).map aC:=af2 ajL;refine⟨1,(ru d l d.length).map aC,0,(ru d l d.length).length,rfl,rfl,ajL,mj _,?_⟩;simp only[↓aX,mX,seval,agj,ig,↓a_,Nv,h1,h2,ai8,agn]
end

def noC (a:Nat):AC:= .seq (.nD [⟨some a,none,.ea (.t 4)⟩,⟨some (a+1),none,.qq (.t a) []⟩,⟨some (a+2),none,.ext (.t (a+1)) 0⟩,⟨some (a+3),none,.ext (.t (a+1)) 1⟩,⟨some 2,none,.ea (.t (a+2))⟩,⟨some 3,none,.ea (.t (a+3))⟩]) .ret
def Zu (l:List Ed):List Ed:=[.f 50 1 (.rw [.loc 7] []),.f 50 9 (.rw [] [.loc 7]),.f 121 1 (.rw [.loc 7] []),.f 121 11 (.rw [] [.loc 7]),.a 5 (.own 5 2),.b 165 (.tj (.loc 5) 5)]++l
noncomputable def p_U:AC:=(Ds 25 (Zu [])).NS 161
noncomputable def adg (N:Nat->AC):AC:=((Ds 25 (Zu [])).NS 134).E_ 155 (N 155)
noncomputable def adh (N:Nat->AC):AC:=((Ds 25 (Zu [])).NS 61).E_ 64 (N 64)
noncomputable def adi (U V:AC):AC:=(Ds 25 (Zu [.t 161 U,.t 134 V])).NS 92
noncomputable def adj (W:AC):AC:=(Ds 25 (Zu [.t 61 W])).atB 3
noncomputable def adk (R T:AC):AC:=(Ds 25 (Zu [.t 92 T,.u 3 R])).atB 2
def ae9:=BI p_U
def ae' N:=BI (adg N)
def ae_ N:=BI (adh N)
def afa U V:=BI (adi U V)
def afb W:=BI (adj W)
def afc R T:=BI (adk R T)
def afd (N:Nat->AC) D:=XW 25 (Zu []) λx=>((ed1 (x.E_ 168 (N 168)) (.u 2 D)).E_ 28 (N 28)).E_ 16 (N 16)
noncomputable def p_V:AC:=adg noC
noncomputable def p_W:AC:=adh noC
noncomputable def p_T:AC:=adi p_U p_V
noncomputable def p_R:AC:=adj p_W
noncomputable def p_D:AC:=adk p_R p_T
def drop_at {s:Bs} {i:Nat} {c:UInt8} (h:s[i]?=some c):s.drop i=c::s.drop (i+1):=by
 obtain⟨hi,e⟩:=afY.1 h;rw[<-e];exact ag1 hi
def UC {c:UInt8} {r:Bs} (h:c≠91):nC (c::r)=some (0,c::r):=by
 unfold nC;split
 ·rename_i e;cases e;exact absurd rfl h
 rfl
def CZ (c:UInt8) (n:Nat) (hn:n<256):(((c.toNat:Int))==(n:Int))=(c==UInt8.ofNat n):=by
 rw[agP];simp only[ag9];constructor
 ·intro h;exact u8 (by rw[Zq hn];omega)
 rintro rfl;rw[Zq hn]
def RL {p:UInt8->Bool} {s:Bs} {f j:Nat} (h1:f<=j) (h2:j<=s.length) (bV:∀c∈(s.drop f).take (j - f),p c=true) (BK:∀c,s[j]?=some c->p c=false) :
  (s.drop f).takeWhile p=(s.drop f).take (j - f)/\(s.drop f).dropWhile p=s.drop j:=by
 have vZ:(s.drop f).take (j - f)++s.drop j=s.drop f:=by
  have:=agD (j - f) (s.drop f);rw[ahJ,show f+(j - f)=j by omega] at this;exact this
 have:=Ek (p:=p) (z:=s.drop j) bV (λc r e=>by
  refine BK c ?_;have:=ahp List.head? e;rw[aii] at this;simpa using this)
 rw[vZ] at this;exact this
def take_one {s:Bs} {f j:Nat} {c:UInt8} (h1:f<=j) (hc:s[j]?=some c):(s.drop f).take (j+1 - f)=(s.drop f).take (j - f)++[c]:=by
 rw[show j+1 - f=(j - f)+1 by omega,agz,ahv,show f+(j - f)=j by omega,hc];rfl
def UD (t:Bs):kq t<=1000:=by
 have h:∀(t:Bs) (n:Nat),n<=1000->t.foldl (λn c=>min (10*n+(c.toNat - 48)) 1000) n<=1000:=by
  intro t;induction t with
  |nil=>intro n h;exact h
  |cons c t ih=>intro n h;exact ih _ (Nat.min_le_right _ _)
 exact h t 0 ajN
def Nx (t:Bs) (c:UInt8):kq (t++[c])=min (10*kq t+(c.toNat - 48)) 1000:=by simp[kq]
def vR {S:St} {Q:ir} {k:List It} {env:Env} {H:Hp} {f1 a:Nat} (ha:4<a) (hN:a+3<S.N) (hB:dE S.P f1=true) (vS:aj S.P S.G f1 [] (.bq [.nil0,.int .i64 1])) (h4:env 4= .fn f1 [] [])
  (vT:∀(E:Env) (H':Hp),E 2= .nil0->E 3= .int .i64 1->Q .ret E H'):go S Q (.code (noC a)::k) env H:=by
 unfold noC;have n0:a<S.N:=ajK
 have n1:a+1<S.N:=ajK
 have n2:a+2<S.N:=ajK
 have n3:2<S.N:=ajK
 have n4:3<S.N:=ajK
 simp only[aU,bD,↓aX,mX,seval,List.nil_append,agb,h4,n0,n1,agt];refine⟨hB,ah vS ?_⟩;simp only[↓aX,mX,seval,n2,hN,n3,n4,agt,show(a=a+1)=False by simp];exact vT _ _ rfl rfl
def RM (s:Bs) (f1:Nat) (l:List Step) (i:Nat) (E:Env) (H:Hp):Prop:=
 E 0= .str s/\E 4= .fn f1 [] []/\E 5= .sl (.loc 5) 2 0 l.length/\E 6= .int .i64 i/\E 7= .ptr (.loc 7) 2 0 0/\H (.loc 5)= .live ⟨2,ak (l.map Step.iv)⟩/\(∀q:Lb,q.fresh=false->H q= .unused)/\H (.loc 164)= .unused
def PaD (s:Bs) (f1:Nat) (l:List Step) (nm:Bs) (n i:Nat) (E:Env) (H:Hp):Prop:=
 E 0= .str s/\E 4= .fn f1 [] []/\E 5= .sl (.loc 164) 2 0 (l.length+1)/\E 6= .int .i64 i/\H (.loc 164)= .live ⟨2,ak ((l++[(⟨nm,(n:Int)⟩:Step)]).map Step.iv)⟩/\∀q:Lb,q.fresh=false->H q= .unused
def C0 (Q:ir):Prop:=∀(E:Env) (H:Hp),E 2= .nil0->E 3= .int .i64 1->Q .ret E H
section
variable {S:St} {Q:ir} {k:List It} {E:Env} {H:Hp} {s nm:Bs} {l:List Step} {f1:Nat} (hN:S.N=173) (hs:s.length<=2500) (hl:l.length<=2500) (hB:dE S.P f1=true) (vS:aj S.P S.G f1 [] (.bq [.nil0,.int .i64 1]))
include hN hl
theorem Zv {n i2:Nat} (ps:RM s f1 l i2 E H) (h7:H (.loc 7)= .live ⟨2,[[.str nm,.int .i64 n]]⟩) (hk:∀E' H',PaD s f1 l nm n i2 E' H'->go S Q k E' H'):go S Q (.code p_U::k) E H:=by
 obtain⟨e0,e4,e5,e6,e7,g5,gE,g1⟩:=ps;rw[ae9];simp only[↓aX,mX,seval,hN,e0,e4,e5,e6,e7,h7];rw[bX 2 24 164 5 (l.map Step.iv) (.agg [.str nm,.int .i64 n]) g5 ajL rfl aj0 ajK ajK ajK g1];simp only[↓aX,mX,seval,hN];exact hk _ _ ⟨e0,e4,rfl,e6,by simp[ae,Step.iv,Step.cs],λq hq=>by rw[an _ _ alH,an _ _ alH];exact gE q hq⟩
include hs hB vS
omit hl in
theorem afe {f j:Nat} (hfj:f<=j) (hj:j<=s.length) (e0:E 0= .str s) (e4:E 4= .fn f1 [] []) (e6:E 6= .int .i64 j) (e8:E 8= .int .i64 f) (vT:j=f\/s[f]?=some 48\/s[j]?≠some 93->C0 Q)
  (hk:j≠f->s[f]?≠some 48->s[j]?=some 93->∀E':Env,E' 0=E 0->E' 4=E 4->E' 5=E 5->E' 6= .int .i64 ((j+1:Nat):Int)->E' 7=E 7->go S Q k E' H):go S Q (.code p_V::k) E H:=by
 rw[p_V,ae'];by_cases Zw:j=f
 ·simp only[↓aX,mX,seval,hN,e0,e6,e8,show((j:Int)==(f:Int))=true by simp[Zw]];exact vR ajN ajK hB vS e4 (vT (.inl Zw))
 obtain⟨c0,Bf⟩:∃c0,s[f]?=some c0:=⟨_,af7 ajK⟩;simp only[↓aX,mX,seval,hN,e0,e6,e8,show((j:Int)==(f:Int))=false by simp;omega,Bf,af9,af5,af0,show((c0.toNat:Int)==48)=(c0==48) from CZ c0 48 ajN];by_cases h48:c0=48
 ·simp only[↓aX,mX,seval,hN,show(c0==48)=true by simpa using h48];exact vR ajN ajK hB vS e4 (vT (.inr (.inl (by rw[Bf,h48]))))
 simp only[↓aX,mX,seval,hN,e0,e6,show(c0==48)=false by simpa using h48];by_cases Nh:j=s.length
 ·simp only[↓aX,mX,seval,hN,e0,e6,show((j:Int)==(s.length:Int))=true by simp[Nh]];exact vR ajN ajK hB vS e4 (vT (.inr (.inr (by simp[Nh]))))
 obtain⟨b,hb⟩:∃b,s[j]?=some b:=⟨_,af7 ajK⟩;have hw:=w1 j;simp only[↓aX,mX,seval,hN,e0,e6,show((j:Int)==(s.length:Int))=false by simp;omega,hb,af9,af5,af0,show((b.toNat:Int) !=93)= !(b==93) by rw[bne,show((b.toNat:Int)==93)=(b==93) from CZ b 93 ajN]];by_cases UE:b=93
 ·simp only[↓aX,mX,seval,hN,show(b==93)=true by simpa using UE,af4,hw,e6];exact hk Zw (by rw[Bf];simpa using h48) (by rw[hb,UE]) _ rfl rfl rfl rfl rfl
 simp only[↓aX,mX,seval,hN,show(b==93)=false by simpa using UE,af1];exact vR ajN ajK hB vS e4 (vT (.inr (.inr (by rw[hb];simpa using UE))))
set_option maxHeartbeats 1000000 in
theorem UF {i1:Nat} (hi:i1<=s.length) (ps:RM s f1 l i1 E H) (h7:H (.loc 7)= .live ⟨2,[[.str nm, .int .i64 0]]⟩) (vT:nC (s.drop i1)=none->C0 Q)
    (hk:∀(n i2:Nat),nC (s.drop i1)=some (n,s.drop i2)->i1<=i2->i2<=s.length->∀E' H',PaD s f1 l nm n i2 E' H'->go S Q k E' H'):go S Q (.code p_T::k) E H:=by
  have h7':=h7
  have ps':=ps
  obtain⟨h0,h4,h5,h6,e7,H5,hE,Ha⟩:=ps
  rw[p_T,afa]
  by_cases aF:i1<s.length
  · obtain ⟨c, hc⟩ := gE aF
    have hd:=drop_at hc
    simp only[↓aX,mX,seval,hN,h0,h4,h5,h6,e7,dT aF,Int.natCast_nonneg,Int.toNat_natCast,hc,Option.map_some]
    rw[show((c.toNat:Int)==91)=(c==91) from CZ c 91 ajN]
    by_cases h91:c=91
    · subst h91
      obtain⟨f,hf⟩:∃f,f=i1+1:=⟨_,rfl⟩
      have fin:∀j,f<=j->j<=s.length->(∀c∈(s.drop f).take (j - f),Ey c=true)->(∀c,s[j]?=some c->Ey c=false)->∀(E':Env) (H':Hp),RM s f1 l j E' H'->E' 8= .int .i64 f ->
          H' (.loc 7)= .live ⟨2,[[.str nm, .int .i64 (kq ((s.drop f).take (j - f)))]]⟩->go S Q (.code p_V:: .code p_U::k) E' H':=by
        rintro j HK qy bV BK E' H' ⟨e0,e4,e5,e6,e7,g5,gE,g1⟩ e8 g7
        obtain⟨Zx,Ql⟩:=RL HK qy bV BK
        obtain⟨t,ht⟩:∃t,(s.drop f).take (j - f)=t:=⟨_,rfl⟩
        have qY:nC (s.drop i1)=if t=[]\/t.head?=some 48 then none else match s.drop j with
          |93::r2=>some (kq t,r2)
          |_=>none:=by rw[hd,<-hf,<-ht];simp only[nC,Zx,Ql];rfl
        have KD:j≠f->t.head?=s[f]?:=λh=>by rw[<-ht,List.head?_eq_getElem?,List.getElem?_take,if_pos ajK,List.getElem?_drop,Nat.add_zero]
        refine afe hN hs hB vS HK qy e0 e4 e6 e8 (λh=>vT ?_) λh1 h2 h3 E2 k0 k4 k5 k6 k7=> ?_
        · rw[qY]
          by_cases Zw:j=f
          · rw[if_pos (.inl (by rw[<-ht,Zw];simp))]
          rcases h with h|h|h
          · exact absurd h Zw
          · rw[if_pos (.inr (by rw[KD Zw,h]))]
          split
          · rfl
          split
          · rename_i e
            have:=congrArg List.head? e
            rw[List.head?_drop] at this
            exact absurd this h
          rfl
        have hx:=KD h1
        rw [if_neg (by rintro (e | e); · rw [e] at hx; have := (List.getElem?_eq_none_iff.1 hx.symm); omega
                       exact h2 (hx.symm.trans e)),drop_at h3] at qY
        rw[ht] at g7
        exact Zv hN hl ⟨k0.trans e0,k4.trans e4,k5.trans e5,k6,k7.trans e7,g5,gE,g1⟩ g7 (hk (kq t) (j+1) qY ajK (List.getElem?_eq_some_iff.1 h3).1)
      have hwf:IntKind.i64.wrap ((i1:Int)+1)=((f:Nat):Int):=amc
      simp only[↓aX,mX,seval,hN,beq_self_eq_true,h6,hwf]
      refine br (σ:={j:Nat // f<=j/\j<=s.length/\∀c∈(s.drop f).take (j - f),Ey c=true}) (λ_=>[.loc 7, .loc 5]) (λ_ _=>false)
        (λq=>[(0, .str s),(4, .fn f1 [] []),(5, .sl (.loc 5) 2 0 l.length),(6, .int .i64 q.1),(7, .ptr (.loc 7) 2 0 0),(8, .int .i64 f)])
        (λq=>[(.loc 7,⟨2,[[.str nm, .int .i64 (kq ((s.drop f).take (q.1 - f)))]]⟩),(.loc 5,⟨2,ak (l.map Step.iv)⟩)]) (λq=>s.length - q.1) ⟨f,Nat.le_refl _,ajK,ajL⟩ (λ_=>rfl) (λq=>by simp[ai,AV.aq]) ?_ ⟨[], ?_⟩ ?_
      · exact abe
      · refine⟨λq hq hu=>absurd (hE q hq) hu, ?_, ?_,ajS,λl _=>⟨id,λ_=>rfl⟩⟩
        · simp[dp,aD,aH,aA,put,h0,h4,h5,e7]
        simp only[eL,aK]
        simp[aD,aP,aA,aH,h7,H5,kq]
      rintro⟨j,HK,qy,bV⟩
      rw[dq]
      obtain⟨t,ht⟩:∃t,(s.drop f).take (j - f)=t:=⟨_,rfl⟩
      have RN:=fin j HK qy bV
      rw[ht] at bV
      have C7:=UD t
      simp only[↓aX,mX,seval,aR,aI,hN,ht]
      have R3:∀(E':Env) (Y:Slot),E' 0= .str s->E' 4= .fn f1 [] []->E' 5= .sl (.loc 5) 2 0 l.length->E' 6= .int .i64 j->E' 7= .ptr (.loc 7) 2 0 0->RM s f1 l j E' (aS (aS Hp.none (.loc 5) (.live ⟨2,ak (l.map Step.iv)⟩)) (.loc 7) Y):=
        λE' Y a b c d e=>⟨a,b,c,d,e,ajR,λq hq=>by cases q<;>simp_all[Lb.fresh,ae,Hp.none],ajX⟩
      by_cases hj:j<s.length
      · obtain⟨b,hb⟩:=gE hj
        have hbt:=b.toNat_lt
        have hw:=w1 j
        cases RP:Ey b with
        |true=>
          obtain⟨b1,b2⟩:=sB.1 RP
          simp only[↓aX,mX,seval,hN,dT hj,hb,Option.map_some,Int.natCast_nonneg,Int.toNat_natCast,show decide ((b.toNat:Int)>=48)=true by simp;omega,show decide ((b.toNat:Int)<=57)=true by simp;omega]
          refine⟨aj7, ?_⟩
          have w1:IntKind.i64.wrap (10*(kq t:Int))=((10*kq t:Nat):Int):=ajW
          have w2:IntKind.u8.wrap ((b.toNat:Int) - 48)=((b.toNat - 48:Nat):Int):=by rw[IntKind.wrap_u8];omega
          have w3:IntKind.i64.wrap ((b.toNat - 48:Nat):Int)=((b.toNat - 48:Nat):Int):=wrap64 ajK ajK
          have w4:IntKind.i64.wrap (((10*kq t:Nat):Int)+((b.toNat - 48:Nat):Int))=((10*kq t+(b.toNat - 48):Nat):Int):=ajW
          have w5:(if(1000:Int)<((10*kq t+(b.toNat - 48):Nat):Int) then(1000:Int) else((10*kq t+(b.toNat - 48):Nat):Int))=((min (10*kq t+(b.toNat - 48)) 1000:Nat):Int):=an1
          have j6:=take_one HK hb
          rw[ht] at j6
          simp only[↓aX,mX,seval,hN,hb,Option.map_some,Int.natCast_nonneg,Int.toNat_natCast,hw,w1,w2,w3,w4,w5]
          refine⟨⟨j+1,ajK,hj,λc hc=> ?_⟩,ajM,[], ?_⟩
          · rw[j6] at hc
            rcases List.mem_append.1 hc with hc|hc
            · exact bV c hc
            rw[List.mem_singleton.1 hc];exact RP
          refine⟨?_, ?_, ?_,ajS,λl _=>⟨id,λ_=>rfl⟩⟩
          · exact ow
          · simp[dp,aD,aH,aA,put]
          simp only[eL,aK,j6,Nx]
          simp[aD,ae,aP,aA,aH,ht]
          rw[w1,w4];exact w5
        |false=>
        have e2:(decide ((b.toNat:Int)>=48)=false)\/(decide ((b.toNat:Int)>=48)=true/\decide ((b.toNat:Int)<=57)=false):=by
          have:¬(48<=b.toNat/\b.toNat<=57):=λh=>by rw[sB.2 h] at RP;cases RP
          simp only[decide_eq_false_iff_not,decide_eq_true_eq];omega
        rcases e2 with e2|⟨e2,e3⟩<;>(first|simp only[↓aX,mX,seval,hN,dT hj,hb,Option.map_some,Int.natCast_nonneg,Int.toNat_natCast,e2,e3]|simp only[↓aX,mX,seval,hN,dT hj,hb,Option.map_some,Int.natCast_nonneg,Int.toNat_natCast,e2]) <;>
          exact RN (λc hc=>by rw[hb] at hc;cases hc;exact RP) _ _ (R3 _ _ rfl rfl rfl rfl rfl) rfl anF
      simp only[↓aX,mX,seval,hN,dF hj]
      exact RN (λc hc=>by have:=(List.getElem?_eq_some_iff.1 hc).1;omega) _ _ (R3 _ _ rfl rfl rfl rfl rfl) rfl anF
    simp only[↓aX,mX,seval,show(c==91)=false by simpa using h91]
    exact Zv hN hl ⟨h0,h4,h5,h6,e7,H5,hE,Ha⟩ h7 (hk 0 i1 (by rw[hd];exact UC h91) (Nat.le_refl _) hi)
  simp only[↓aX,mX,seval,hN,h0,h4,h5,h6,e7,dF aF]
  exact Zv hN hl ⟨h0,h4,h5,h6,e7,H5,hE,Ha⟩ h7 (hk 0 i1 (by rw[List.drop_of_length_le ajK];rfl) (Nat.le_refl _) hi)
end

def uf (r:Bs):Option (List Step):=xj r.length r
def Ny:∀(n:Nat) (r:Bs),r.length<=n->xj n r=uf r:=by
 intro n;induction n using Nat.strongRecOn with
 |_ n ih=>
 intro r hr
 match n,r,hr,ih with
 |n,[],_,_=>cases n<;>rfl
 |n+1,c::r,hr,ih=>
  simp only[agd] at hr;unfold uf;simp only[agd,xj];split
  ·cases hx:gI r with
   |none=>rfl
   |some x=>
    simp only[af_];cases hy:nC x.2 with
    |none=>rfl
    |some y=>
    simp only[af_];have hl:y.2.length<=r.length:=((Ej hy).trans (A7 hx)).length_le;rw[ih n ajK y.2 ajK,ih r.length ajK y.2 hl]
  rfl
def C1 (r:Bs):uf (47::r)=(gI r).bind λx=>(nC x.2).bind λy=>(uf y.2).map λl=>⟨x.1,y.1⟩::l:=by
 unfold uf;simp only[agd,xj,agn];cases hx:gI r with
 |none=>rfl
 |some x=>
 simp only[af_];cases hy:nC x.2 with
 |none=>rfl
 |some y=>
 simp only[af_];rw[Ny r.length y.2 ((Ej hy).trans (A7 hx)).length_le];rfl
def RQ {c:UInt8} (r:Bs) (h:c≠47):uf (c::r)=none:=by
 unfold uf;simp only[agd,xj,af8 h]
def UG {c:UInt8} (r:Bs) (h1:c≠42) (h2:c≠35):gI (c::r)=if(c::r).takeWhile yz=[] then none else some ((c::r).takeWhile yz,(c::r).dropWhile yz):=by
 unfold gI;split
 ·rename_i h;cases h;exact absurd rfl h1
 ·rename_i h;cases h;exact absurd rfl h2
 rfl
def Lk {c:UInt8}:yz c=true↔97<=c.toNat/\c.toNat<=122:=by simp[yz]
def Hb (s:Bs):AV:=match Ei s with
 |some l=> .bq [.list (l.map Step.iv),.int .i64 0]
 |none=> .bq [.nil0,.int .i64 1]
def Nz (s:Bs):Hb s=kf s:=by unfold Hb kf;rw[Ns];rfl
section
variable {S:St} {Q:ir} {k:List It} {E:Env} {H:Hp} {s:Bs} {l:List Step} {f1:Nat} (hN:S.N=173) (hs:s.length<=2500) (hl:l.length<=2500) (hB:dE S.P f1=true) (vS:aj S.P S.G f1 [] (.bq [.nil0,.int .i64 1]))
include hN hs hB vS
theorem adl {f:Nat} (hf:f<=s.length) (hc:∀c,s[f]?=some c->c≠42/\c≠35) (ps:RM s f1 l f E H) (h7:H (.loc 7)= .live ⟨2,[[.str [],.int .i64 0]]⟩) (vT:gI (s.drop f)=none->C0 Q)
  (hk:∀(nm:Bs) (i1:Nat),gI (s.drop f)=some (nm,s.drop i1)->f<=i1->i1<=s.length->nm.length<=2500->∀E' H',RM s f1 l i1 E' H'->H' (.loc 7)= .live ⟨2,[[.str nm,.int .i64 0]]⟩->go S Q k E' H'):go S Q (.code p_R::k) E H:=by
 obtain⟨h0,h4,h5,h6,e7,H5,hE,Ha⟩:=ps;have um:gI (s.drop f)=if(s.drop f).takeWhile yz=[] then none else some ((s.drop f).takeWhile yz,(s.drop f).dropWhile yz):=by
  cases hdf:s.drop f with
  |nil=>rfl
  |cons b r=>
  have:=ahp List.head? hdf;rw[aii] at this;exact UG r (hc b this).1 (hc b this).2
 rw[p_R,afb];have fin:∀j,f<=j->j<=s.length->(∀c∈(s.drop f).take (j - f),yz c=true)->(∀c,s[j]?=some c->yz c=false)->∀(E':Env) (H':Hp),RM s f1 l j E' H' ->
   H' (.loc 7)= .live ⟨2,[[.str ((s.drop f).take (j - f)),.int .i64 0]]⟩->go S Q (.code p_W::k) E' H':=by
  intro j HK qy bV BK E' H' ps g7;obtain⟨Zx,Ql⟩:=RL HK qy bV BK;obtain⟨e0,e4,e5,e6,e7,g5,gE,g1⟩:=ps;obtain⟨t,ht⟩:∃t,(s.drop f).take (j - f)=t:=⟨_,rfl⟩;rw[Zx,Ql,ht] at um;rw[ht] at g7;rw[p_W,ae_];simp only[↓aX,mX,seval,hN,e7,g7];by_cases hte:t=[]
  ·simp only[↓aX,mX,seval,hN,show(t==[])=true by simp[hte]];exact vR ajN ajK hB vS e4 (vT (by rw[um,agc hte]))
  simp only[↓aX,mX,seval,hN,show(t==[])=false by simpa using hte];exact hk t j (by rw[um,af8 hte]) HK qy (by rw[<-ht];simp;omega) _ _ ⟨e0,e4,e5,e6,e7,g5,gE,g1⟩ g7
 simp only[↓aX,mX,seval,hN];refine br (σ:={j:Nat // f<=j/\j<=s.length/\∀c∈(s.drop f).take (j - f),yz c=true}) (λ_=>[.loc 7,.loc 5]) (λ_ _=>false)
  (λq=>[(0,.str s),(4,.fn f1 [] []),(5,.sl (.loc 5) 2 0 l.length),(6,.int .i64 q.1),(7,.ptr (.loc 7) 2 0 0)])
  (λq=>[(.loc 7,⟨2,[[.str ((s.drop f).take (q.1 - f)),.int .i64 0]]⟩),(.loc 5,⟨2,ak (l.map Step.iv)⟩)]) (λq=>s.length - q.1) ⟨f,af6 _,ajK,ajL⟩ (λ_=>rfl) (λq=>by simp[ai,AV.aq]) ?_ ⟨[],?_⟩ ?_
 ·exact abe
 ·refine⟨λq hq hu=>absurd (hE q hq) hu,?_,?_,ajS,λl _=>⟨id,λ_=>rfl⟩⟩
  ·simp[dp,aD,aH,aA,h0,h4,h5,h6,e7]
  simp only[eL,aK];simp[aD,aP,aA,aH,h7,H5]
 rintro⟨j,HK,qy,bV⟩;rw[dq];obtain⟨t,ht⟩:∃t,(s.drop f).take (j - f)=t:=⟨_,rfl⟩;have RN:=fin j HK qy bV;rw[ht] at bV;simp only[↓aX,mX,seval,aR,aI,hN,ht];have R3:∀(E':Env) (Y:Slot),E' 0= .str s->E' 4= .fn f1 [] []->E' 5= .sl (.loc 5) 2 0 l.length->E' 6= .int .i64 j->E' 7= .ptr (.loc 7) 2 0 0->RM s f1 l j E' (aS (aS Hp.none (.loc 5) (.live ⟨2,ak (l.map Step.iv)⟩)) (.loc 7) Y):=
  λE' Y a b c d e=>⟨a,b,c,d,e,ajR,λq hq=>by cases q<;>simp_all[Lb.fresh,ae,Hp.none],ajX⟩
 by_cases hj:j<s.length
 ·obtain⟨b,pr⟩:=gE hj;have hw:=w1 j;cases RP:yz b with
  |true=>
   obtain⟨b1,b2⟩:=Lk.1 RP;simp only[↓aX,mX,seval,hN,ht,dT hj,pr,af9,af5,af0,show decide ((b.toNat:Int)>=97)=true by simp;omega,show decide ((b.toNat:Int)<=122)=true by simp;omega];refine⟨aj7,?_⟩;have j6:=take_one HK pr;rw[ht] at j6;have Mv:List.drop j (List.take (j+1) s)=[b]:=by
    rw[agz,pr,ahF ajY,ahN ajY];rfl
   have yk:t.length<=s.length:=(by rw[<-ht];simp;omega);have aff:j+1<=s.length:=hj;simp only[↓aX,mX,seval,hN,ht,pr,af9,af5,af0,hw,iz,yI,aff,af6,agO,agt,agR,af_,show j<=j+1 by omega,Mv,ahl,show t.length+1<=9223372036854775807 by omega,show t.length<=9223372036854775806 by omega];refine⟨⟨j+1,ajK,hj,λc hc=> ?_⟩,ajM,[],?_⟩
   ·rw[j6] at hc;rcases agi.1 hc with hc|hc
    ·exact bV c hc
    rw[af'.1 hc];exact RP
   refine⟨?_,?_,?_,ajS,λl _=>⟨id,λ_=>rfl⟩⟩
   ·exact ow
   ·simp[dp,aD,aH,aA,put]
   simp only[eL,aK,j6];simp[aD,ae,aP,aA,aH,ht]
  |false=>
  have e2:(decide ((b.toNat:Int)>=97)=false)\/(decide ((b.toNat:Int)>=97)=true/\decide ((b.toNat:Int)<=122)=false):=by
   have:¬(97<=b.toNat/\b.toNat<=122):=λh=>(by rw[Lk.2 h] at RP;cases RP);simp only[ahn,agv];omega
  rcases e2 with e2|⟨e2,e3⟩<;>(first|simp only[↓aX,mX,seval,hN,dT hj,pr,af9,af5,af0,e2,e3]|simp only[↓aX,mX,seval,hN,dT hj,pr,af9,af5,af0,e2]) <;>
   exact RN (λc hc=>by rw[pr] at hc;cases hc;exact RP) _ _ (R3 _ _ rfl rfl rfl rfl rfl) anF
 simp only[↓aX,mX,seval,hN,dF hj];exact RN (λc hc=>by have:=(afY.1 hc).1;omega) _ _ (R3 _ _ rfl rfl rfl rfl rfl) anF
include hl
theorem afg {f:Nat} (hf:f<=s.length) (ps:RM s f1 l f E H) (h7:H (.loc 7)= .live ⟨2,[[.str [],.int .i64 0]]⟩) (vT:((gI (s.drop f)).bind λx=>nC x.2)=none->C0 Q)
  (hk:∀(nm r:Bs) (n i2:Nat),gI (s.drop f)=some (nm,r)->nC r=some (n,s.drop i2)->f<=i2->i2<=s.length->nm.length<=2500->∀E' H',PaD s f1 l nm n i2 E' H'->go S Q k E' H'):go S Q (.code p_D::k) E H:=by
 have step:∀(nm:Bs) (i1:Nat),gI (s.drop f)=some (nm,s.drop i1)->f<=i1->i1<=s.length->nm.length<=2500->∀E' H',RM s f1 l i1 E' H'->H' (.loc 7)= .live ⟨2,[[.str nm,.int .i64 0]]⟩->go S Q (.code p_T::k) E' H':=
  λnm i1 hn h1 h2 gR E' H' ps g7=>UF hN hs hl hB vS h2 ps g7 (λh=>vT (by rw[hn];exact h)) λn i2 hm k1 k2=>hk nm _ n i2 hn hm ajK k2 gR
 have V9:∀(nm:Bs) (i1:Nat),gI (s.drop f)=some (nm,s.drop i1)->f<=i1->i1<=s.length->nm.length<=2500->∀E' H',RM s f1 l i1 E' H'->H' (.loc 7)= .live ⟨2,[[.str nm,.int .i64 0]]⟩->go S Q (.yF 2:: .code p_T::k) E' H':=
  λnm i1 a b c d E' H' p g=>by simp only[↓aX,mX,seval];exact step nm i1 a b c d E' H' p g
 obtain⟨h0,h4,h5,h6,e7,H5,hE,Ha⟩:=ps;rw[p_D,afc];by_cases ux:f<s.length
 ·obtain⟨a,ha⟩:=gE ux;have hda:=drop_at ha;have hwg:=w1 f;have UH:decide ((f:Int)<(s.length:Int))=true:=by simpa using ux
  have g42:((a.toNat:Int)==42)=(a==42):=CZ a 42 ajN;have g35:((a.toNat:Int)==35)=(a==35):=CZ a 35 ajN;simp only[↓aX,mX,seval,hN,h0,h6,UH,af5,af0,ha,af9,g42,g35];by_cases e42:a=42
  ·simp only[↓aX,mX,seval,hN,h0,h6,e7,h7,UH,show(a==42)=true by simpa using e42,hwg,ha,af5,af0,af9,g42];exact step [42] (f+1) (by rw[hda,e42];rfl) ajK ux ajN _ _ ⟨h0,h4,h5,rfl,e7,by simp[ae,H5],λq hq=>by rw[an _ _ alH];exact hE q hq,by simp[ae,Ha]⟩ ajR
  by_cases e35:a=35
  ·simp only[↓aX,mX,seval,hN,h0,h6,e7,h7,UH,show(a==42)=false by simpa using e42,show(a==35)=true by simpa using e35,g35,hwg,ha,af5,af0,af9,g42];exact step [] (f+1) (by rw[hda,e35];rfl) ajK ux ajN _ _ ⟨h0,h4,h5,rfl,e7,H5,hE,Ha⟩ h7
  simp only[↓aX,mX,seval,hN,h0,h6,UH,show(a==42)=false by simpa using e42,ha,af9,af5,af0,g35,show(a==35)=false by simpa using e35];exact adl hN hs hB vS hf (λc h=>by rw[ha] at h;cases h;exact⟨e42,e35⟩) ⟨h0,h4,h5,h6,e7,H5,hE,Ha⟩ h7 (λh=>vT (by rw[h];rfl)) V9
 simp only[↓aX,mX,seval,hN,h0,h6,dF ux];exact adl hN hs hB vS hf (λc h=>by have:=(afY.1 h).1;omega) ⟨h0,h4,h5,h6,e7,H5,hE,Ha⟩ h7 (λh=>vT (by rw[h];rfl)) V9
end
section
variable {P:Program} {G:Nat->Option (List IV)} [KN P G]
def Zy:aj P G 59 [] (.bq [.nil0,.int .i64 1]):=by
 refine au (cw 59 []) ajL (by simp[ai]) ajU ?_;simp only[↓aX,mX,seval,↓a_]
set_option maxHeartbeats 4000000 in
def Jn (s:Bs) (hs:s.length<=B) (hB:dE P 59=true) (vS:aj P G 59 [] (.bq [.nil0,.int .i64 1]))
  (hIP:∀l:List Step,l.length<=2500->(∀x∈l,x.name.length<=2500)->aj P G 60 [.list (l.map Step.iv)] (.bool (bm l))):aj P G 25 [.str s] (Hb s):=by
 have gV:B=1073741824:=rfl;refine au (XX (afd noC p_D)) ajL ajO (by unfold Hb;cases Ei s<;>simp[AV.aq,ai]) ?_;simp only[↓aX,mX,seval];have fail:Ei s=none->C0 (eZ [(none,2),(none,3)] λx _=>x=Hb s):=λh E H e2 e3=>by
  simp only[↓aX,mX,seval,↓a_,e2,e3];unfold Hb;rw[h]
 by_cases hs5:s.length<=2500
 ·simp only[↓aX,mX,seval,show decide ((s.length:Int)>2500)=false by simp;omega];cases hse:(s==[]) with
  |true=>
   simp only[↓aX,mX,seval];exact vR ajN ajL hB vS rfl (fail (by rw[show s=[] by simpa using hse];rfl))
  |false=>
  have R0:s≠[]:=by simpa using hse
  have hrP:Ei s=(uf s).bind λl=>if bm l then some l else none:=by unfold Ei uf;rw[if_pos ⟨hs5,R0⟩]
  simp only[↓aX,mX,seval];refine br (σ:={q:Nat×List Step // q.1<=s.length/\q.2.length<=q.1/\(∀x∈q.2,x.name.length<=2500)/\uf s=(uf (s.drop q.1)).map λm=>q.2++m}) (λ_=>[.loc 5]) (λ_ _=>false)
   (λq=>[(0,.str s),(4,.fn 59 [] []),(5,.sl (.loc 5) 2 0 q.1.2.length),(6,.int .i64 q.1.1)]) (λq=>[(.loc 5,⟨2,ak (q.1.2.map Step.iv)⟩)]) (λq=>s.length - q.1.1)
   ⟨(0,[]),Nat.zero_le _,Nat.le_refl _,ajL,ajL⟩ (λ_=>rfl) (λq=>by simp[ai,AV.aq]) ?_ ⟨[],?_⟩ ?_
  ·exact HZ
  ·refine⟨?_,?_,?_,ajS,λl _=>⟨id,λ_=>rfl⟩⟩
   ·exact ow
   ·simp[dp,aD,aH,aA,put,fH]
   simp[eL,aD,ae,aP,aA,aH,ak]
  rintro⟨⟨i,l⟩,hi,afh,xy,UI⟩;rw[dq];simp only at hi afh xy UI;have oe:uf (s.drop i)=none->C0 _:=λh=>fail (by rw[hrP,UI,h];rfl);simp only[↓aX,mX,seval,aR,aI];by_cases aF:i<s.length
  ·obtain⟨c,hc⟩:=gE aF;have hd:=drop_at hc;simp only[↓aX,mX,seval,dT aF,Int.natCast_nonneg,Int.toNat_natCast,hc,Option.map_some,show((c.toNat:Int) !=47)= !(c==47) by rw[bne,show((c.toNat:Int)==47)=(c==47) from CZ c 47 ajN]];by_cases KM:c=47
   ·subst KM;obtain⟨f,hf⟩:∃f,f=i+1:=⟨_,rfl⟩;have hsi:s.drop i=47::s.drop f:=(by rw[hd,hf]);have hwf:IntKind.i64.wrap ((i:Int)+1)=((f:Nat):Int):=amc;simp only[↓aX,mX,seval,beq_self_eq_true,Bool.not_true,hwf];refine afg (S:=⟨P,G,173⟩) rfl hs5 ajK hB vS ajK ⟨rfl,rfl,rfl,rfl,rfl,ajR,λq hq=>by cases q<;>simp_all[Lb.fresh,ae,Hp.none],ajX⟩ ajR (λh=>oe ?_) λnm r n i2 hn hm k1 k2 hlen E H ⟨e0,e4,e5,e6,g1,gE⟩=> ?_
    ·rw[hsi,C1];cases hx:gI (s.drop f) with
     |none=>rfl
     |some x=>
     rw[hx] at h;simp only[Option.bind_some] at h ⊢;rw[h];rfl
    simp only[↓aX,mX,seval];refine⟨⟨(i2,l++[(⟨nm,(n:Int)⟩:Step)]),k2,akm,λx hx=> ?_,?_⟩,ajM,[(.loc 5,.loc 164)],?_⟩
    ·rcases List.mem_append.1 hx with hx|hx
     ·exact xy x hx
     rw[List.mem_singleton.1 hx];exact hlen
    ·rw[UI,hsi,C1,hn];simp only[Option.bind_some,hm];cases uf (s.drop i2)<;>simp
    refine⟨λq hq hu=>absurd (gE q hq) hu,?_,?_,ajS,?_⟩
    ·simp[dp,aD,aH,aA,e0,e4,e5,e6]
    ·simp only[eL,aK];simp[aD,g1]
    exact O6
   simp only[show(c==47)=false by simpa using KM,Bool.not_false,↓aX,mX,seval];exact vR ajN ajL hB vS rfl (oe (by rw[hd];exact RQ _ KM))
  have je:i=s.length:=ajK
  simp only[↓aX,mX,seval,dF aF];have adm:uf s=some l:=by rw[UI,je,List.drop_length];simp[uf,xj]
  have ux:Flat (l.map Step.iv):=PW l;have ig:(l.map Step.iv).take l.length=l.map Step.iv:=List.take_of_length_le ajL;refine⟨2,l.map Step.iv,0,l.length,rfl,rfl,ajL,ux,?_⟩;simp only[↓aX,mX,seval,List.drop_zero,ig];refine ah (hIP l ajK xy) ?_;cases hg:bm l with
  |true=>simp only[↓aX,mX,seval,Bool.not_true,↓a_,ig,show Hb s= .bq [.list (l.map Step.iv),.int .i64 0] by unfold Hb;rw[hrP,adm,Option.bind_some,if_pos hg]]
  |false=>
  simp only[↓aX,mX,seval,Bool.not_false];exact vR ajN ajL hB vS rfl (fail (by rw[hrP,adm,Option.bind_some,if_neg (by rw[hg];decide)]))
 simp only[↓aX,mX,seval,show decide ((s.length:Int)>2500)=true by simp;omega];exact vR ajN ajL hB vS rfl (fail (by unfold Ei;rw[if_neg λh=>hs5 h.1]))
end

abbrev UJ (P:Program) (G:Nat->Option (List IV)) (f:Nat) (args:List AV) (F:Lb->AV) (sz:Nat) (xs:List IV):Prop:=
 r_ P G f args BL [] λX R2=>X=(λlab=>F (lab 0))/\R2=wa sz xs
def Jo {P:Program} {G:Nat->Option (List IV)} {f:Nat} {n:Nat} {rs:List RO} {ac:AC} {args:List AV} {sz:Nat} {xs:List IV} (F:Lb->AV)
  (hF:dK P G f=some (n,rs,ac.bare)) (hn:args.length<=n) (ha:ai args=[]) (hr:∀(ρ:Lb->Lb) L,aH ρ (F L)=F (ρ L)) (hl:∀L,(F L).aq=[L])
  (hg:go ⟨P,G,n⟩ (eZ rs λx H'=>∃L,x=F L/\H' L= .live ⟨sz,ak xs⟩) [.code ac] (fH args) Hp.none):UJ P G f args F sz xs:=by
 refine⟨al4,?_⟩;rw[IH];refine(e_ hF hn alD al4 hg).mono ?_;rintro x H ⟨L,hx,hL⟩;refine⟨⟨λlab=>F (lab 0),wa sz xs,λ_=>L⟩,⟨rfl,rfl⟩,λρ=>hr ρ L,λl h=>⟨0,iN.2 rfl,?_⟩,hx,⟨λp r hr=> ?_,λp q hp hq _=>(iN.1 hp).trans (iN.1 hq).symm⟩,ajL⟩
 ·rw[hx,hl] at h;simpa using h
 exact Wd
def iL {S:St} {f:Nat} {args:List AV} {sz:Nat} {xs:List IV} {H:Hp} {k:AV->Hp->Prop} {u:Tw k} {F:Lb->AV} (c:Nat) (h:UJ S.P S.G f args F sz xs) (ha:ai args=[]) (hN:∀l,H (NW c l)= .unused)
  (hk:∀l,k (F (NW c l)) (aS H (NW c l) (.live ⟨sz,ak xs⟩))):Hm S f args H k u:=by
 refine gZ (lab:=Lb.par) (N:=NW c) h (h_ _ _ ha).symm ⟨λp r hr=>by simp[BL] at hr,λp q hp=>absurd hp j_⟩ hN (DH c) (λl _=> .inr λp hp=>absurd hp j_) ajL ?_;rintro X R2 cm H2 ⟨rfl,rfl⟩ g1 g2 g3 g4 g5 g6;obtain⟨l,hl⟩:∃l,cm 0=NW c l:=by
  rcases g3 0 (iN.2 rfl) with⟨p,hp,_⟩|h
  ·exact absurd hp j_
  exact h
 have e:H2=aS H (NW c l) (.live ⟨sz,ak xs⟩):=by
  funext q;by_cases hq:q=NW c l
  ·subst hq;rw[ae,agc rfl,<-hl];exact g1.row 0 _ (by simp[wa])
  exact Wb
 rw[e];have:=hk l;simpa only[hl] using this
end Go.Am

set_option maxRecDepth 20000
namespace Go.Am
open Go Go.RowKit
section
variable {P:Program} {G:Nat->Option (List IV)} [KN P G]
def Op.az (x:Op):List AV:=[.int .i64 x.kind,.int .i64 x.target,.list (aM x.content),.str x.name,.str x.s]
def Jp (a b:Op):aj P G 122 [a.av,b.av] (.bool (bK a b)):=by
 refine au (cw 122 []) ajL amV ajP ?_;simp only[↓aX,mX,seval,Op.av];cases ht:(a.target !=b.target) with
 |true=>
  simp only[↓aX,mX,seval,ht];have:(a.target==b.target)=false:=by simpa[bne] using ht
  simp[bK,this]
 |false=>
 have ht':(a.target==b.target)=true:=by simpa[bne] using ht
 simp only[↓aX,mX,seval,ht,List.replicate,List.flatten_cons,List.flatten_nil,agb,age,agd,agx];refine br (σ:={i:Nat // i<=3/\∀j:Nat,j<i->((a.kind==(6+j:Int))&&(b.kind==(6+j:Int)))=false}) (λ_=>[.loc 2,.loc 3]) (λ_ _=>false)
  (λq=>[(2,.ptr (.loc 2) 5 0 0),(3,.ptr (.loc 3) 5 0 0),(12,.list [.int .i64 6,.int .i64 7,.int .i64 8]),(13,.int .i64 3),(14,.int .i64 q.1)])
  (λq=>[(.loc 2,⟨5,[a.az]⟩),(.loc 3,⟨5,[b.az]⟩)]) (λq=>3 - q.1) ⟨0,ajL⟩ (λ_=>rfl) (λq=>by simp[ai,AV.aq]) ?_ ⟨[],?_⟩ ?_
 ·rintro q r hr cs aZ l' gR;simp only[aga,agf,agI] at hr;rcases hr with rfl|rfl<;>(simp only[af'] at aZ;subst aZ;simp[ai,AV.aq,Op.az] at gR)
 ·refine⟨?_,?_,?_,ajS,λl _=>⟨id,λ_=>rfl⟩⟩
  ·exact E7
  ·simp[dp,aD,aH,put,fH]
  simp[eL,aD,ae,aP,aA,aH,Op.az]
 rintro⟨i,hi,hs⟩;rw[dq];simp only[↓aX,mX,seval,aR,aI,Op.az];by_cases aF:i<3
 ·rw[show decide ((i:Int)<3)=true by simp;omega];have bU:([IV.int .i64 6,.int .i64 7,.int .i64 8]:List IV)[i]?=some (.int .i64 (6+(i:Int))):=by
   have:i=0\/i=1\/i=2:=ajK;rcases this with rfl|rfl|rfl<;>rfl
  have j5:dV 1 [IV.int .i64 6,.int .i64 7,.int .i64 8]:=alE
  have hw:=w1 i;have V':((a.kind==(6+i:Int))&&(b.kind==(6+i:Int)))=false->∀j:Nat,j<i+1->((a.kind==(6+j:Int))&&(b.kind==(6+j:Int)))=false:=by
   intro h j hj;rcases Nat.lt_succ_iff_lt_or_eq.1 hj with h1|rfl
   ·exact hs j h1
   exact h
  simp only[↓aX,mX,seval,bU,j5,IV.cells,agd,agx];cases hk:(a.kind==(6+i:Int)) with
  |false=>
   simp only[↓aX,mX,seval,hk,hw];refine⟨⟨i+1,aF,V' (by simp[hk])⟩,ajM,[],?_⟩;refine⟨?_,?_,?_,ajS,λl _=>⟨id,λ_=>rfl⟩⟩
   ·exact E7
   ·simp[dp,aD,aH,put,iX]
   simp[eL,aD,ae,aP,aA,aH,Op.az]
  |true=>
  simp only[↓aX,mX,seval,hk];cases EG:(b.kind==(6+i:Int)) with
  |false=>
   simp only[↓aX,mX,seval,EG,hw];refine⟨⟨i+1,aF,V' (by simp[EG])⟩,ajM,[],?_⟩;refine⟨?_,?_,?_,ajS,λl _=>⟨id,λ_=>rfl⟩⟩
   ·exact E7
   ·simp[dp,aD,aH,put,iX]
   simp[eL,aD,ae,aP,aA,aH,Op.az]
  |true=>
  simp only[↓aX,mX,seval,EG];simp only[ag9] at hk EG ht';have:a.kind=b.kind:=ajK
  have h6:6<=b.kind:=ajK
  have h8:b.kind<=8:=ajK
  simp[bK,ht',this,h6,h8]
 rw[show decide ((i:Int)<3)=false by simp;omega];have hi3:i=3:=ajK
 subst hi3;have s0:=hs 0 ajN;have s1:=hs 1 ajN;have s2:=hs 2 ajN;have e:bK a b=((a.kind==9||a.kind==10)&&(b.kind==9||b.kind==10)&&a.name==b.name):=by
  unfold bK;have:(a.kind==b.kind&&decide (6<=a.kind)&&decide (a.kind<=8))=false:=by
   cases h:(a.kind==b.kind&&decide (6<=a.kind)&&decide (a.kind<=8)) with
   |false=>rfl
   |true=>
   exfalso;simp only[agm,ag9,agv] at h;simp only[aiO,agZ] at s0 s1 s2;omega
  rw[this,ht',ah6,ag7];rfl
 rw[e];simp only[↓aX,mX,seval];cases h1:(a.kind==9)<;>cases h2:(a.kind==10)<;>cases h3:(b.kind==9)<;>cases h4:(b.kind==10)<;>simp only[↓aX,mX,seval,h1,h2,h3,h4,ah6,aih,aiV,ajk,aiz,ag7,aht,aha]
def NA (d:Doc) (l:List Op) (hl:l.length<=B) (hD:aj P G 77 [Doc.av d] (.bool (bQ d)))
  (hO:∀o∈l,aj P G 121 [Doc.av d,o.av] (.int .i64 (db d o)))
  (hA:∀a b:Op,aj P G 122 [a.av,b.av] (.bool (bK a b))):aj P G 79 [Doc.av d,.list (l.map Op.iv)] (.int .i64 (dn d l)):=by
 refine au (cw 79 []) ajL alh ajP ?_;have gV:B=1073741824:=rfl;simp only[↓aX,mX,seval,Op.av,Doc.av];refine ah hD ?_;unfold dn;cases hd:bQ d with
 |false=>simp only[↓aX,mX,seval,af1];try rfl
 |true=>
 simp only[↓aX,mX,seval,af4,Op.av,Doc.av,eD,aiF];cases h1:decide ((20:Int)<(l.length:Int)) with
 |true=>
  simp only[↓aX,mX,seval];have:20<l.length:=alj
  simp[this]
 |false=>
 simp only[↓aX,mX,seval,eD];have k1:¬20<l.length:=alj
 rw[af8 k1];refine br (σ:={i:Nat // i<=l.length/\∀o∈l.take i,db d o=0}) (λ_=>[.loc 2]) (λ_ _=>false)
  (λq=>[(1,.list (l.map Op.iv)),(2,.ptr (.loc 2) 1 0 0),(16,.list (l.map Op.iv)),(17,.int .i64 l.length),(18,.int .i64 q.1)])
  (λq=>[(.loc 2,⟨1,[[.list (d.map Node.iv)]]⟩)]) (λq=>l.length - q.1) ⟨0,ajL⟩ (λ_=>rfl) (λq=>by simp[ai,AV.aq]) ?_ ⟨[],?_⟩ ?_
 ·exact abq
 ·exact abg
 rintro⟨i,hi,hs⟩;rw[dq];simp only[↓aX,mX,seval,aR,aI,eD];by_cases aF:i<l.length
 ·exact dq7
 have je:i=l.length:=ajK
 rw[dF aF];have hf:l.find? (λo=>db d o !=0)=none:=by
  rw[ajF];intro a ha;rw[je,agu] at hs;simp[hs a ha]
 rw[hf];simp only[↓aX,mX,seval,eD];refine dj (σ:={j:Nat // j<=l.length/\jq [] l=jq (l.take j) (l.drop j)}) (λq=>[(1,.list (l.map Op.iv)),(30,.int .i64 l.length),(31,.int .i64 q.1)]) (λq=>l.length - q.1) ⟨0,ajL⟩ (λ_=>by simp[ai,AV.aq]) ?_ ?_
 ·exact XP
 rintro⟨j,hj,pN⟩;simp only[↓aX,mX,seval,eD];by_cases iw:j<l.length
 ·rw[dT iw];obtain⟨o,ho⟩:=gE iw;have hw:=w1 j;have ig:l.take (j+1)=l.take j++[o]:=cn ho;have Ml:jq (l.take j) (l.drop j)=((l.take j).any (bK o)||jq (l.take (j+1)) (l.drop (j+1))):=by
   rw[drop_eq ho,ig];rfl
  simp only[↓aX,mX,seval];refine dj (σ:={i:Nat // i<=j/\(l.take i).any (bK o)=false}) (λq=>[(1,.list (l.map Op.iv)),(8,.int .i64 j),(30,.int .i64 l.length),(31,.int .i64 j),(34,.int .i64 j),(35,.int .i64 q.1)]) (λq=>j - q.1) ⟨0,ajL⟩ (λ_=>by simp[ai,AV.aq]) ?_ ?_
  ·exact XP
  rintro⟨i,hi,hs3⟩;simp only[↓aX,mX,seval,eD];by_cases UK:i<j
  ·rw[dT UK];obtain⟨o',SJ⟩:∃o,l[i]?=some o:=⟨_,af7 ajK⟩;have ml:=w1 i;simp only[↓aX,mX,seval,zo,ho,SJ,af9,xH,Op.ax,Op.cs];refine⟨rfl,dG (hA o o') ?_⟩;simp only[↓aX,mX,seval];cases h0:bK o o' with
   |true=>
    simp only[↓aX,mX,seval];have:(l.take j).any (bK o)=true:=by
     rw[List.any_eq_true];refine⟨o',?_,h0⟩;rw[List.mem_iff_getElem?];exact⟨i,by rw[agG,agc UK,SJ]⟩
    rw[pN,Ml,this];simp
   |false=>
   simp only[↓aX,mX,seval,ml];refine⟨⟨i+1,UK,by rw[cn SJ,List.any_append,hs3];simp[h0]⟩,ajM,rfl⟩
  rw[dF UK];have:i=j:=ajK
  subst this;simp only[↓aX,mX,seval,hw];refine⟨⟨i+1,iw,by rw[pN,Ml,hs3];simp⟩,ajM,rfl⟩
 rw[dF iw];have kE:j=l.length:=ajK
 simp only[↓aX,mX,seval];rw[pN,kE]
 try simp[jq]
end
end Go.Am

set_option maxRecDepth 20000
namespace Go.Am
open Go Go.RowKit
def kD:Option Op->List AV
 |none=>[.int .i64 0,.int .i64 0,.nil0,.str [],.str []]
 |some o=>o.az
def fM (x:Option Op):(kD x).length=5:=by cases x<;>rfl
def cQ (ρ:Lb->Lb) (x:Option Op):aA ρ (kD x)=kD x:=by cases x<;>simp[kD,Op.az,aA,aH]
def gm (ρ:Lb->Lb) (xs:List IV):(ak xs).map (aA ρ)=ak xs:=by have:=aK ρ 1 xs;simpa[aP] using this
def gP (x:Option Op):(kD x).take 5=kD x:=af2 (aiD (fM x))
def ga (x:Option Op):(kD x).drop 5=[]:=ahN (aiD (fM x))
def iV (x:Option Op):(kD x).all AV.one=true:=by cases x<;>rfl
theorem wA (x:Option Op):ai (kD x)=[]:=by cases x<;>simp[kD,Op.az,ai,AV.aq]
def UL (a b:List Op):nF (a++b)=nF a+nF b:=by simp[nF]
def RR (l:List Op) (i:Nat):nF (l.take i)<=nF l:=by
 have:=UL (l.take i) (l.drop i);rw[agD] at this;omega
def UM {env:Env} {H:Hp} (m:Option Nat) (t u v:Nat) (R:AV->Hp->Prop):eZ [(none,t),(none,u),(some m,v)] R .ret env H=yp (eV m (env v) H) (λx=>R (.bq [env t,env u,x]) H) .mk:=by
 simp only[eZ,eY,qF,yp];cases eV m (env v) H<;>simp[fw]
section
variable {P:Program} {G:Nat->Option (List IV)} [KN P G]
def NB (l:List Op) (k:Int) (n:Nat) (L:Lb):AV:= .bq [.sl L 4 0 (aB l k n).length,.bool (bZ l k n),.agg (kD (pj l k n).getLast?)]
def oOf (l:List Op) (k:Int) (n:Nat) (hl:l.length<=B) (hw:nF l<=B) (hn:n<=B)
  (hC:∀o∈l,aj P G 164 [.list (aM o.content)] (.list (aM o.content))) :
  UJ P G 123 [.list (l.map Op.iv),.int .i64 k,.int .i64 (n:Int)] (NB l k n) 4 (aM (aB l k n)):=by
 refine Jo (NB l k n) (cw 123 [.f 37 2 (.rw [.loc 10] []),.f 37 5 (.rw [] [.loc 8]),.a 9 (.own 9 4)]) ajL ajO (λρ L=>by simp[NB,aH,aA,cQ]) (λL=>by simp[NB,AV.aq,ai,wA]) ?_;have gV:B=1073741824:=rfl;simp only[↓aX,mX,seval,eD];refine br (σ:={i:Nat // i<=l.length}) (λ_=>[.loc 8,.loc 9,.loc 10]) (λ_ _=>false)
  (λq=>[(1,.int .i64 k),(2,.int .i64 (n:Int)),(8,.ptr (.loc 8) 5 0 0),(9,.sl (.loc 9) 4 0 (aB (l.take q.1) k n).length),(10,.ptr (.loc 10) 5 0 0),(11,.bool (bZ (l.take q.1) k n)),(14,.list (l.map Op.iv)),(15,.int .i64 l.length),(16,.int .i64 q.1)])
  (λq=>[(.loc 8,⟨5,[kD none]⟩),(.loc 9,⟨4,ak (aM (aB (l.take q.1) k n))⟩),(.loc 10,⟨5,[kD (pj (l.take q.1) k n).getLast?]⟩)]) (λq=>l.length - q.1) ⟨0,ajL⟩ (λ_=>rfl) (λq=>by simp[ai,AV.aq]) ?_ ⟨[],?_⟩ ?_
 ·rintro q r hr cs aZ l' gR;simp only[aga,agf,agI] at hr;rcases hr with rfl|rfl|rfl
  ·exact XN
  ·rw[bc aZ] at gR;simp at gR
  exact XN
 ·refine⟨?_,?_,?_,ajS,λl _=>⟨id,λ_=>rfl⟩⟩
  ·exact E7
  ·simp[dp,aD,aH,put,fH,aB,bZ,pj]
  simp[eL,aD,ae,aP,aA,aH,aB,pj,kD,ak,aM]
 rintro⟨i,hi⟩;rw[dq];simp only[↓aX,mX,seval,aR,aI,eD];by_cases aF:i<l.length
 ·rw[dT aF];obtain⟨o,ho⟩:=gE aF;have hom:=af3 ho;have gz:=w1 i;have ig:l.take (i+1)=l.take i++[o]:=cn ho;have NU:(aB (l.take (i+1)) k n).length<=B:=by
   have:=bO (aB (l.take (i+1)) k n);have:=iJ k n (l.take (i+1));have:=RR l (i+1);omega
  simp only[↓aX,mX,seval,zo,ho,af9,xH,Op.ax,Op.cs];cases h1:(o.kind==k) with
  |false=>
   simp only[↓aX,mX,seval,h1];have hc:¬(o.kind=k/\o.target=(n:Int)):=(by rintro⟨c1,c2⟩;simp[c1,c2] at h1);have e1:aB (l.take (i+1)) k n=aB (l.take i) k n:=(by rw[ig,bp,af8 hc,agb]);have e2:bZ (l.take (i+1)) k n=bZ (l.take i) k n:=(by rw[ig,cG,ahV hc,ah6]);have e3:pj (l.take (i+1)) k n=pj (l.take i) k n:=(by rw[ig,nu,af8 hc,agb]);simp only[gz];refine⟨⟨i+1,aF⟩,ajM,[],?_⟩;refine⟨?_,?_,?_,ajS,λl _=>⟨id,λ_=>rfl⟩⟩
   ·exact E7
   ·simp[dp,aD,aH,put,iX,e1,e2]
   simp[eL,aD,ae,aP,e1,e3,gm,cQ]
  |true=>
  simp only[↓aX,mX,seval,h1];cases h2:(o.target==(n:Int)) with
  |false=>
   simp only[↓aX,mX,seval,h2];have hc:¬(o.kind=k/\o.target=(n:Int)):=(by rintro⟨c1,c2⟩;simp[c1,c2] at h2);have e1:aB (l.take (i+1)) k n=aB (l.take i) k n:=(by rw[ig,bp,af8 hc,agb]);have e2:bZ (l.take (i+1)) k n=bZ (l.take i) k n:=(by rw[ig,cG,ahV hc,ah6]);have e3:pj (l.take (i+1)) k n=pj (l.take i) k n:=(by rw[ig,nu,af8 hc,agb]);simp only[gz];refine⟨⟨i+1,aF⟩,ajM,[],?_⟩;refine⟨?_,?_,?_,ajS,λl _=>⟨id,λ_=>rfl⟩⟩
   ·exact E7
   ·simp[dp,aD,aH,put,iX,e1,e2]
   simp[eL,aD,ae,aP,e1,e3,gm,cQ]
  |true=>
  simp only[↓aX,mX,seval,h2];refine ah (hC o hom) ?_;have hc:o.kind=k/\o.target=(n:Int):=⟨aj8,akN⟩;have e1:aB (l.take (i+1)) k n=aB (l.take i) k n++o.content:=by rw[ig,bp,agc hc]
  have e2:bZ (l.take (i+1)) k n=true:=by rw[ig,cG,ahQ hc,aiV]
  have e3:(pj (l.take (i+1)) k n).getLast?=some o:=by rw[ig,nu,agc hc,List.getLast?_concat]
  rw[e1,age] at NU;simp only[↓aX,mX,seval];rw[vm 4 72 34 9 (aM (aB (l.take i) k n)) (aM o.content) ajR ak4 (fa _) (gd _) akD ajN ajN ajX];simp only[↓aX,mX,seval,gz,fM,ga,af6];refine⟨⟨i+1,aF⟩,ajM,[(.loc 9,.loc 34)],?_⟩;refine⟨?_,?_,?_,ajS,?_⟩
  ·exact E7
  ·simp[dp,aD,aH,put,iX,e1,e2,ar]
  ·simp[eL,aD,ae,aP,aA,aH,e1,e3,ed,kD,Op.az,aA,aH];rw[gm]
  intro q hq;simp only[aga,agf,agI] at hq;rcases hq with rfl|rfl|rfl<;>simp[aD,Lb.fresh]
 rw[dF aF];have:i=l.length:=ajK
 subst this;simp only[↓aX,mX,seval,agu];refine⟨rfl,?_⟩;simp only[↓aX,mX,seval,agj,fM,gP,ga,iV,af6,↓UM];exact⟨.loc 9,rfl,ajR⟩
end

def O3 (H:Lb->Slot) (l l':Lb) (x:Slot) (h:l'.fresh=false/\l.fresh=true):aS H l x l'=H l':=an _ _ (by rintro rfl;rw[h.1] at h;cases h.2)
def ib {S:St} {Q:ir} {c:AC} {k:List It} {env:Env} {H:Hp} (ls:List Lb) (u:Lb->Bool) (ps:List (Nat×AV)) (rs:List (Lb×Row)) (pf:rs.map Prod.fst=ls) (hp:∀l∈ai (ps.map Prod.snd),l∈ls)
  (hr:∀q∈rs,∀cs∈q.2.els,∀l∈ai cs,l∈ls) (h0:∃m,WU ls u ps rs env H m) (hg:go S Q (.code c::k) (iX ps) (cU u rs)):go S Q (.code (.gh .jf c)::k) env H:=by
 rw[ec];obtain⟨m,h⟩:=h0;exact⟨_,_,eE.VF (h.wk pf hp hr),hg⟩
def ob {sz b d n:Nat} {l:Lb} {xs ys:List IV} {x:AV} {H:Hp} (hs:kG sz x H=some (ak ys)) (hl:H l= .live ⟨sz,ak xs⟩) (hn:xs.length=n) (Z7:l.fresh=true) (hf:Flat ys) (hb:(n+ys.length)*b<=140737488355328) (h0:0<b)
  (hd:l≠ .loc d) (hu:H (.loc d)= .unused) :
  iQ sz b d (.sl l sz 0 n) x H=some (.sl (.loc d) sz 0 (n+ys.length),aS (aS H l .dead) (.loc d) (.live ⟨sz,ak (xs++ys)⟩)):=by
 have e:l.app d= .loc d:=by simp[Lb.app,Z7]
 rw[<-e] at hd hu ⊢;have h1:(ak ys).length=ys.length:=bw ys;have h2:(ak xs).length=n:=ana
 unfold iQ;rw[hs,af_,af8 al'];simp only[hl];rw[agc ⟨rfl,rfl,rfl,ajK,by rw[h1];exact hb,h0,hd,hu⟩,h1,af2 ajK,fR]
def sE {sz n:Nat} {l:Lb} {xs:List IV} {H:Hp} (hl:H l= .live ⟨sz,ak xs⟩) (hn:xs.length=n):kG sz (.sl l sz 0 n) H=some (ak xs):=by
 have h2:(ak xs).length=n:=ana
 simp only[kG,hl,agj,agh,agt];rw[agc ajK,af2 ajK]
end Go.Am

set_option maxRecDepth 20000
namespace Go.Am
open Go Go.RowKit
section
variable {P:Program} {G:Nat->Option (List IV)} [KN P G]
def OfC (P:Program) (G:Nat->Option (List IV)) (f:Nat) (l:List Op):Prop:=∀(k:Int) (n:Nat),n<=B->UJ P G f [.list (l.map Op.iv),.int .i64 k,.int .i64 (n:Int)] (NB l k n) 4 (aM (aB l k n))
def uh (o:Op):kD (some o)=o.az:=rfl
def edT (l:List Ed):List Ed:=[.f 48 1 (.rw [.loc 7] []),.f 48 3 (.rw [.loc 7] []),.f 48 5 (.rw [.loc 7] []),.f 48 6 (.rw [] [.loc 54]),.f 48 8 (.rw [] [.loc 8]),.f 48 9 (.rw [] [.loc 8]),.f 171 1 (.rw [.loc 8] []),.f 171 2 (.rw [.loc 3] []),.f 171 6 (.rw [] [.loc 1000,.loc 177]),.f 171 8 (.rw [] [.loc 8]),.a 48 (.uJ (.loc 54) (.loc 8) 2),.a 17 (.own 17 2),.b 134 (.tj (.loc 17) 17),.a 184 (.uJ (.loc 183) (.loc 8) 3),.r (.tj (.loc 234) 6)]++l
noncomputable def c_U:AC:=(Ds 81 (edT [])).NS 192
noncomputable def c_V:AC:=(Ds 81 (edT [])).NS 117
noncomputable def k_W (V:AC):AC:=(Ds 81 (edT [.t 117 (.gh .jf V)])).NS 89
noncomputable def k_T (U W:AC):AC:=(Ds 81 (edT [.t 192 (.gh .jf U),.t 89 (.gh .jf W)])).NS 74
def e_U:=BI c_U
def e_V:=BI c_V
def e_W V:=BI (k_W V)
def e_T U W:=BI (k_T U W)
def RS T:=XW 81 (edT [.t 74 (.gh .jf T)]) id
noncomputable def c_W:AC:=k_W c_V
noncomputable def c_T:AC:=k_T c_U c_W
def Jq (y:Tree) (l:List Op) (n:Nat) (kv:AV) (hl:l.length<=B) (hw:nF l<=B) (hn:n<=B) (hb:bH (y.iH l n)<=B)
  (hkv:kv= .list (aM (y.bG l n).kids)\/(kv= .nil0/\(y.bG l n).kids=[])) (hO:OfC P G 123 l) :
  go ⟨P,G,235⟩ (eZ [(none,6)] λx _=>x= .list (aM (y.iH l n))) [.code c_U] (iX [(1,.list (l.map Op.iv)),(2,.int .i64 (n:Int)),(8,.ptr (.loc 8) 4 0 0)])
   (cU (λ_=>false) [(.loc 8,⟨4,[[.bool y.text,.str (y.bG l n).s,.list (aQ (y.bG l n).attrs),kv]]⟩)]):=by
 have gV:B=1073741824:=rfl;rw[dq];rw[e_U];simp only[↓aX,mX,seval,aR,aI];refine iL 194 (hO 3 n hn) ajO (λl=>by simp[ae,Hp.none,NW]) λl3=> ?_;simp only[↓aX,mX,seval,NB,NW,fM,iV,gP,ga,af6];refine iL 201 (hO 4 n hn) ajO (λl=>by simp[ae,Hp.none,NW]) λl4=> ?_;simp only[↓aX,mX,seval,NB,NW,fM,iV,gP,ga,af6];refine iL 208 (hO 6 n hn) ajO (λl=>by simp[ae,Hp.none,NW]) λl6=> ?_;simp only[↓aX,mX,seval,NB,NW,fM,iV,gP,ga,af6];refine iL 215 (hO 5 n hn) ajO (λl=>by simp[ae,Hp.none,NW]) λl5=> ?_;simp only[↓aX,mX,seval,NB,NW,fM,iV,gP,ga,af6];have TF:bH (y.iH l n)=bH (aB l 3 n)+bH (if bZ l 6 n then aB l 6 n else if bZ l 5 n then [] else [y.bG l n])+bH (aB l 4 n):=by rw[Tree.jI,dQ,dQ]
 have w3:=bO (aB l 3 n);have w6:=bO (aB l 6 n);have w4:=bO (aB l 4 n);cases h6:bZ l 6 n with
 |true=>
  simp only[h6,agn] at TF;simp only[↓aX,mX,seval];rw[ob (ys:=aM (aB l 6 n)) (xs:=aM (aB l 3 n)) (sE akM ak4) akM ak4 rfl (gd _) akD ajN ajL ajX];simp only[↓aX,mX,seval];rw[ob (ys:=aM (aB l 4 n)) (xs:=aM (aB l 3 n)++aM (aB l 6 n)) (sE akM ak4) akM anz rfl (gd _) (by simp only[ar];omega) ajN ajL ajX];simp only[↓aX,mX,seval];refine⟨4,aM (y.iH l n),0,_,rfl,by rw[Tree.jI,h6];simp[ae,ed],ann,gd _,?_⟩;simp only[↓aX,mX,seval,agj];rw[af2 ann]
 |false=>
 simp only[h6,agl,agk] at TF;simp only[↓aX,mX,seval];cases h5:bZ l 5 n with
 |true=>
  simp only[h5,agn] at TF;simp only[↓aX,mX,seval,h5,af4];rw[ob (ys:=aM (aB l 4 n)) (xs:=aM (aB l 3 n)) (sE akM ak4) akM ak4 rfl (gd _) akD ajN ajL ajX];simp only[↓aX,mX,seval];refine⟨4,aM (y.iH l n),0,_,rfl,by rw[Tree.jI,h6,h5];simp[ae,ed],by rw[Tree.jI,h6,h5];simp[ar],gd _,?_⟩;simp only[↓aX,mX,seval,agj];rw[af2 (by rw[Tree.jI,h6,h5];simp[ar])]
 |false=>
 simp only[h5,agl,agk] at TF;have Bh:[IV.agg [.bool y.text,.str (y.bG l n).s,.list (aQ (y.bG l n).attrs),.list (aM (y.bG l n).kids)]]=aM [y.bG l n]:=by simp[aM,Tree.mY,Tree.cs];rfl
 have h1t:=(y.bG l n).dL;simp only[bH] at TF;have hT:y.iH l n=aB l 3 n++[y.bG l n]++aB l 4 n:=by rw[Tree.jI,h6,h5];rfl
 rcases hkv with rfl|⟨rfl,pe⟩
 ·simp only[↓aX,mX,seval,h5,af1];rw[Bh];rw[ob (ys:=aM [y.bG l n]) (xs:=aM (aB l 3 n)) (jT (fa _)) akM ak4 rfl (gd _) anG ajN ajL ajX];simp only[↓aX,mX,seval];rw[ob (ys:=aM (aB l 4 n)) (xs:=aM (aB l 3 n)++aM [y.bG l n]) (sE akM ak4) akM anz rfl (gd _) (by simp only[ar,ahl];omega) ajN ajL ajX];simp only[↓aX,mX,seval];refine⟨4,aM (y.iH l n),0,_,rfl,by rw[hT,ed,ed],by rw[hT];simp[ar];omega,gd _,?_⟩;simp only[↓aX,mX,seval,agj];rw[af2 am1]
 rw[pe] at Bh;rw[show aM ([]:List Tree)=[] from rfl] at Bh;simp only[↓aX,mX,seval,h5,af1];rw[Bh];rw[ob (ys:=aM [y.bG l n]) (xs:=aM (aB l 3 n)) (jT (fa _)) akM ak4 rfl (gd _) anG ajN ajL ajX];simp only[↓aX,mX,seval];rw[ob (ys:=aM (aB l 4 n)) (xs:=aM (aB l 3 n)++aM [y.bG l n]) (sE akM ak4) akM anz rfl (gd _) (by simp only[ar,ahl];omega) ajN ajL ajX];simp only[↓aX,mX,seval];refine⟨4,aM (y.iH l n),0,_,rfl,by rw[hT,ed,ed],by rw[hT];simp[ar];omega,gd _,?_⟩;simp only[↓aX,mX,seval,agj];rw[af2 am1]
def ew (t:Tree) (l:List Op) (n:Nat) (q:Int) (y:Tree) (az:List Attr) (kv:AV:= .nil0):List (Lb×Row):=
 [(.loc 3,⟨1,[[.list ((ay t).map Node.iv)]]⟩),(.loc 7,⟨5,[[.bool y.text,.str y.s,.list (aQ y.attrs),.int .i64 q,.list ((aG (n+1) y.kids).map aC)]]⟩),(.loc 8,⟨4,[[.bool y.text,.str (fy l n y.s), .list (aQ az),kv]]⟩),(.loc 11,⟨5,[kD (pj l 7 n).getLast?]⟩)]
def jz (l:List Op) (n:Nat):List (Nat×AV):=[(1,.list (l.map Op.iv)),(2,.int .i64 (n:Int)),(3,.ptr (.loc 3) 1 0 0),(7,.ptr (.loc 7) 5 0 0),(8,.ptr (.loc 8) 4 0 0),(10,.bool (bZ l 7 n)),(11,.ptr (.loc 11) 5 0 0)]
def xm (t:Tree) (l:List Op) (n:Nat) (q:Int) (y:Tree) (az:List Attr):∀r∈ew t l n q y az,∀cs∈r.2.els,∀z∈ai cs,z∈[Lb.loc 3,.loc 7,.loc 8,.loc 11]:=by
 grind [ew,ai,AV.aq,wA]
def pc (t:Tree) (l:List Op) (n:Nat) (q:Int) (y:Tree) (az:List Attr) (o:Op) {σ:Type} (f:σ->List Attr):∀s,∀r∈ew t l n q y az++[(.loc 16,⟨5,[o.az]⟩),(.loc 17,⟨2,ak (aQ (f s))⟩)],∀cs∈r.2.els,∀z∈ai cs,z∈[Lb.loc 3,.loc 7,.loc 8,.loc 11,.loc 16,.loc 17]:=by
 rintro s r hr cs aZ l' gR;rcases agi.1 hr with hr|hr
 ·exact aiS [.loc 16,.loc 17] (xm t l n q y az r hr cs aZ l' gR)
 grind [ai,AV.aq,Op.az,bc]
def C2 {Q:ir} {k:List It} (t:Tree) (l:List Op) (n:Nat) (q:Int) (y:Tree) (i:Nat) (o:Op) (pre az:List Attr) (hB:pre.length+az.length<=4294967296)
  (hk:∀env H,WU [.loc 3,.loc 7,.loc 8,.loc 11] (λ_=>false) (jz l n++[(74,.list (l.map Op.iv)),(75,.int .i64 l.length),(76,.int .i64 i)]) (ew t l n q y (pre++az.filter λa=>Op.bytesLess o.name a.name)) env H []->go ⟨P,G,235⟩ Q k env H) :
  go ⟨P,G,235⟩ Q (.code c_V::k) (iX (jz l n++[(16,.ptr (.loc 16) 5 0 0),(17,.sl (.loc 17) 2 0 pre.length),(74,.list (l.map Op.iv)),(75,.int .i64 l.length),(76,.int .i64 i)]))
   (cU (λ_=>false) (ew t l n q y az++[(.loc 16,⟨5,[o.az]⟩),(.loc 17,⟨2,ak (aQ pre)⟩)])):=by
 have gV:B=1073741824:=rfl;rw[dq];rw[e_V];unfold jz ew;simp only[↓aX,mX,seval,aR,aI,List.cons_append,List.nil_append,aE];refine br (σ:={j:Nat // j<=az.length}) (λ_=>[.loc 3,.loc 7,.loc 8,.loc 11,.loc 16,.loc 17]) (λ_ _=>false)
  (λs=>jz l n++[(16,.ptr (.loc 16) 5 0 0),(17,.sl (.loc 17) 2 0 (pre++(az.take s.1).filter λa=>Op.bytesLess o.name a.name).length),(74,.list (l.map Op.iv)),(75,.int .i64 l.length),(76,.int .i64 i),(118,.list (aQ az)),(119,.int .i64 az.length),(120,.int .i64 s.1)])
  (λs=>ew t l n q y az++[(.loc 16,⟨5,[o.az]⟩),(.loc 17,⟨2,ak (aQ (pre++(az.take s.1).filter λa=>Op.bytesLess o.name a.name))⟩)]) (λs=>az.length - s.1) ⟨0,ajL⟩ (λ_=>rfl) (λs=>by simp[ai,AV.aq,jz]) ?_ ⟨[],?_⟩ ?_
 ·exact pc t l n q y az o _
 ·exact abh
 rintro⟨j,hj⟩;rw[dq];unfold jz ew;simp only[↓aX,mX,seval,aR,aI,List.cons_append,List.nil_append,aE];by_cases aF:j<az.length
 ·rw[dT aF];obtain⟨a,ha⟩:=gE aF;have gz:=w1 j;have ig:az.take (j+1)=az.take j++[a]:=cn ha;have afi:((az.take j).filter λa=>Op.bytesLess o.name a.name).length<=az.length:=ag' (aiu _ _) ali;simp only[↓aX,mX,seval,ln,ha,af9,kx,Attr.ax,Attr.cs,Op.az,PB];cases hg:Op.bytesLess o.name a.name with
  |true=>
   simp only[↓aX,mX,seval,af4,af1];rw[bX 2 32 132 17 (aQ (pre++(az.take j).filter λa=>Op.bytesLess o.name a.name)) (.agg [.str a.name,.str a.val]) ajR (by rw[aE]) rfl aj0 (by rw[age];omega) ajN ajN ajX];simp only[↓aX,mX,seval,gz];have e1:pre++(az.take (j+1)).filter (λa=>Op.bytesLess o.name a.name)=pre++(az.take j).filter (λa=>Op.bytesLess o.name a.name)++[a]:=(by rw[ig,ahd];simp[hg]);refine⟨⟨j+1,aF⟩,ajM,[(.loc 17,.loc 132)],?_,?_,?_,ajS,?_⟩
   ·exact BG
   ·simp[dp,aD,aH,put,iX,jz,e1];omega
   ·have e2:aQ (pre++(az.take j).filter (λa=>Op.bytesLess o.name a.name))++[.agg [.str a.name,.str a.val]]=aQ (pre++(az.take (j+1)).filter (λa=>Op.bytesLess o.name a.name)):=(by rw[e1];simp[aQ,Attr.iv,Attr.cs]);rw[e2];simp[eL,ew,aD,ae,aP,aA,aH,cQ,Op.az,gm]
   exact S9
  |false=>
  simp only[↓aX,mX,seval,af4,af1,gz];have e1:pre++(az.take (j+1)).filter (λa=>Op.bytesLess o.name a.name)=pre++(az.take j).filter (λa=>Op.bytesLess o.name a.name):=by rw[ig,ahd];simp[hg]
  refine⟨⟨j+1,aF⟩,ajM,[],?_,?_,?_,ajS,λl _=>⟨id,λ_=>rfl⟩⟩
  ·exact BG
  ·simp[dp,aD,aH,put,iX,jz,e1]
  simp[eL,ew,aD,ae,aP,aA,aH,cQ,Op.az,e1,gm]
 rw[dF aF];have:j=az.length:=ajK
 subst this;simp only[↓aX,mX,seval,agu];refine⟨2,aQ (pre++az.filter λa=>Op.bytesLess o.name a.name),0,_,rfl,rfl,akQ,gn _,?_⟩;have xz:((aQ (pre++az.filter λa=>Op.bytesLess o.name a.name)).drop 0).take (pre++az.filter λa=>Op.bytesLess o.name a.name).length=aQ (pre++az.filter λa=>Op.bytesLess o.name a.name):=amd
 simp only[↓aX,mX,seval,xz];refine hk _ _ ⟨?_,?_,?_,ajS,λl _=>⟨id,λ_=>rfl⟩⟩
 ·exact BG
 ·exact wy
 rw[agj] at xz;simp only[age] at xz;simp[eL,ew,aD,ae,aP,aA,aH,cQ,xz]
set_option maxHeartbeats 800000 in
def ND {Q:ir} {k:List It} (t:Tree) (l:List Op) (n:Nat) (q:Int) (y:Tree) (i:Nat) (o:Op) (az:List Attr) (adn:az.length+1<=B) (UN:gA az=true) (hk9:9<=o.kind) (ado:o.kind<=10)
  (hk:∀env H,WU [.loc 3,.loc 7,.loc 8,.loc 11] (λ_=>false) (jz l n++[(74,.list (l.map Op.iv)),(75,.int .i64 l.length),(76,.int .i64 i)]) (ew t l n q y (i_ az o)) env H []->go ⟨P,G,235⟩ Q k env H) :
  go ⟨P,G,235⟩ Q (.code c_W::k) (iX (jz l n++[(16,.ptr (.loc 16) 5 0 0),(17,.sl (.loc 17) 2 0 0),(74,.list (l.map Op.iv)),(75,.int .i64 l.length),(76,.int .i64 i)]))
   (cU (λ_=>false) (ew t l n q y az++[(.loc 16,⟨5,[o.az]⟩),(.loc 17,⟨2,ak (aQ [])⟩)])):=by
 have gV:B=1073741824:=rfl;rw[dq];rw[c_W,e_W];unfold jz ew;simp only[↓aX,mX,seval,aR,aI,List.cons_append,List.nil_append,aE];refine br (σ:={j:Nat // j<=az.length}) (λ_=>[.loc 3,.loc 7,.loc 8,.loc 11,.loc 16,.loc 17]) (λ_ _=>false)
  (λs=>jz l n++[(16,.ptr (.loc 16) 5 0 0),(17,.sl (.loc 17) 2 0 ((az.take s.1).filter λa=>Op.bytesLess a.name o.name).length),(74,.list (l.map Op.iv)),(75,.int .i64 l.length),(76,.int .i64 i),(90,.list (aQ az)),(91,.int .i64 az.length),(92,.int .i64 s.1)])
  (λs=>ew t l n q y az++[(.loc 16,⟨5,[o.az]⟩),(.loc 17,⟨2,ak (aQ ((az.take s.1).filter λa=>Op.bytesLess a.name o.name))⟩)]) (λs=>az.length - s.1) ⟨0,ajL⟩ (λ_=>rfl) (λs=>by simp[ai,AV.aq,jz]) ?_ ⟨[],?_⟩ ?_
 ·exact pc t l n q y az o _
 ·exact abh
 rintro⟨j,hj⟩;rw[dq];unfold jz ew;simp only[↓aX,mX,seval,aR,aI,List.cons_append,List.nil_append,aE];by_cases kE:j<az.length
 ·rw[dT kE];obtain⟨a,ha⟩:=gE kE;have ml:=w1 j;have adp:az.take (j+1)=az.take j++[a]:=cn ha;have afi:((az.take j).filter λa=>Op.bytesLess a.name o.name).length<=az.length:=Nat.le_trans (List.length_filter_le _ _) (by rw[List.length_take];omega);simp only[↓aX,mX,seval,ln,ha,Option.map_some,kx,Attr.ax,Attr.cs,Op.az];cases hg:Op.bytesLess a.name o.name with
  |true=>
   simp only[↓aX,mX,seval,hg];rw[bX 2 32 104 17 (aQ ((az.take j).filter λa=>Op.bytesLess a.name o.name)) (.agg [.str a.name,.str a.val]) ajR (by rw[aE]) rfl aj0 ajK ajN ajN ajX];simp only[↓aX,mX,seval,ml];have e3:(az.take (j+1)).filter (λa=>Op.bytesLess a.name o.name)=(az.take j).filter (λa=>Op.bytesLess a.name o.name)++[a]:=amw;refine⟨⟨j+1,kE⟩,ajM,[(.loc 17,.loc 104)],?_,?_,?_,ajS,?_⟩
   ·exact BG
   ·simp[dp,aD,aH,put,iX,jz,e3]
   ·have e2:aQ ((az.take j).filter (λa=>Op.bytesLess a.name o.name))++[.agg [.str a.name,.str a.val]]=aQ ((az.take (j+1)).filter (λa=>Op.bytesLess a.name o.name)):=(by rw[e3];simp[aQ,Attr.iv,Attr.cs]);rw[e2];simp[eL,ew,aD,ae,aP,aA,aH,cQ,Op.az,gm]
   exact S9
  |false=>
  simp only[↓aX,mX,seval,hg,ml];have e3:(az.take (j+1)).filter (λa=>Op.bytesLess a.name o.name)=(az.take j).filter (λa=>Op.bytesLess a.name o.name):=amw
  refine⟨⟨j+1,kE⟩,ajM,[],?_,?_,?_,ajS,λl _=>⟨id,λ_=>rfl⟩⟩
  ·exact BG
  ·simp[dp,aD,aH,put,iX,jz,e3]
  simp[eL,ew,aD,ae,aP,aA,aH,cQ,Op.az,e3,gm]
 rw[dF kE];have:j=az.length:=ajK
 subst this;have ux:(az.filter λa=>Op.bytesLess a.name o.name).length<=az.length:=List.length_filter_le _ _;simp only[↓aX,mX,seval,List.take_length,Op.az];cases hke:(o.kind==9) with
 |true=>
  have e5:i_ az o=((az.filter λa=>Op.bytesLess a.name o.name)++[⟨o.name,o.s⟩])++az.filter λa=>Op.bytesLess o.name a.name:=by
   rw[AG UN,if_neg (by simp at hke;omega)];unfold QF;simp
  have hk5:=hk;rw[e5] at hk5;have hB4:((az.filter λa=>Op.bytesLess a.name o.name)++[(⟨o.name,o.s⟩:Attr)]).length+az.length<=4294967296:=by rw[List.length_append,List.length_singleton];omega
  simp only[↓aX,mX,seval,hke];rw[bX 2 32 116 17 (aQ (az.filter λa=>Op.bytesLess a.name o.name)) (.agg [.str o.name,.str o.s]) ajR (by rw[aE]) rfl aj0 ajK ajN ajN ajX];have e4:aQ (az.filter (λa=>Op.bytesLess a.name o.name))++[.agg [.str o.name,.str o.s]]=aQ ((az.filter λa=>Op.bytesLess a.name o.name)++[⟨o.name,o.s⟩]):=by simp[aQ,Attr.iv,Attr.cs]
  rw[e4];simp only[↓aX,mX,seval];have T2:=C2 (P:=P) (G:=G) (Q:=Q) (k:=k) t l n q y i o ((az.filter λa=>Op.bytesLess a.name o.name)++[(⟨o.name,o.s⟩:Attr)]) az hB4 hk5;refine ib [.loc 3,.loc 7,.loc 8,.loc 11,.loc 16,.loc 17] (λ_=>false) _ _ rfl amj (pc t l n q y az o (λ_=>((az.filter λa=>Op.bytesLess a.name o.name)++[(⟨o.name,o.s⟩:Attr)])) ()) ⟨[(.loc 17,.loc 116)],?_,?_,?_,ajS,?_⟩ T2
  ·exact BG
  ·exact wy
  ·simp[eL,ew,aD,ae,aP,aA,aH,cQ,Op.az,gm]
  exact S9
 |false=>
 have e5:i_ az o=(az.filter λa=>Op.bytesLess a.name o.name)++az.filter λa=>Op.bytesLess o.name a.name:=by
  rw[AG UN,if_pos (by simp at hke;omega)];rfl
 have hk5:=hk;rw[e5] at hk5;have hB4:(az.filter λa=>Op.bytesLess a.name o.name).length+az.length<=4294967296:=ajK
 simp only[↓aX,mX,seval,hke];have T2:=C2 (P:=P) (G:=G) (Q:=Q) (k:=k) t l n q y i o (az.filter λa=>Op.bytesLess a.name o.name) az hB4 hk5;refine ib [.loc 3,.loc 7,.loc 8,.loc 11,.loc 16,.loc 17] (λ_=>false) _ _ rfl amj (pc t l n q y az o (λ_=>(az.filter λa=>Op.bytesLess a.name o.name)) ()) ⟨[],?_,?_,?_,ajS,?_⟩ T2
 ·exact BG
 ·exact wy
 ·simp[eL,ew,aD,ae,aP,aA,aH,cQ,Op.az,gm]
 exact S9
theorem xn (l:List Op):∀(off:Nat) (a b:List Tree),turns l off (a++b)=turns l off a++turns l (off+aJ a) b
 |off,[],b=>by simp[turns,aJ]
 |off,x::a,b=>by simp only[List.cons_append,turns,aJ];rw[xn l (off+x.cC) a b,agT,agM]
set_option maxHeartbeats 2000000 in
def Jr (t:Tree) (l:List Op) (n:Nat) (q:Int) (y:Tree)
  (hl:l.length<=B) (hw:nF l<=B) (hn:n<=B) (hb:y.wt+y.cC*(8*nF l+2)<=B) (Gr:∀o∈l,o.kind<=10) (h8:y.text=true->bZ l 8 n=false) (hra:gA y.attrs=true)
  (hO:OfC P G 123 l)
  (hK:∀(A C:List Tree) (k:Tree),y.kids=A++k::C->aj P G 81 [Doc.av (ay t),.list (l.map Op.iv),.int .i64 ((n+1+aJ A:Nat):Int)] (.list (aM (k.iH l (n+1+aJ A))))) :
  go ⟨P,G,235⟩ (eZ [(none,6)] λx _=>x= .list (aM (y.iH l n))) [.code c_T] (iX (jz l n)) (cU (λ_=>false) (ew t l n q y y.attrs)):=by
 have gV:B=1073741824:=rfl;have hwx:=y.dL;have PJ:=fS y.attrs;have Sl:=y.ca;have hlw:=AP l;have HO:l.length+y.attrs.length<=B:=by
  have:=AT l;have:1*(8*nF l+2)<=y.cC*(8*nF l+2):=Nat.mul_le_mul_right _ Sl;omega
 rw[dq];rw[c_T,e_T];unfold jz ew;simp only[↓aX,mX,seval,aR,aI,List.length_map];refine br (σ:={i:Nat // i<=l.length}) (λ_=>[.loc 3,.loc 7,.loc 8,.loc 11]) (λ_ _=>false)
  (λs=>jz l n++[(74,.list (l.map Op.iv)),(75,.int .i64 l.length),(76,.int .i64 s.1)]) (λs=>ew t l n q y (bL (l.take s.1) n y.attrs)) (λs=>l.length - s.1) ⟨0,ajL⟩ (λ_=>rfl) (λs=>by simp[ai,AV.aq,jz]) ?_ ⟨[],?_⟩ ?_
 ·exactλs=>xm t l n q y _
 ·refine⟨?_,?_,?_,ajS,λl _=>⟨id,λ_=>rfl⟩⟩
  ·exact BG
  ·exact wy
  simp[eL,ew,aD,ae,aP,aA,aH,cQ,bL]
 rintro⟨i,hi⟩;rw[dq];unfold jz ew;simp only[↓aX,mX,seval,aR,aI,List.length_map,List.cons_append,List.nil_append];by_cases aF:i<l.length
 ·rw[dT aF];obtain⟨o,ho⟩:=gE aF;have hom:=List.mem_of_getElem? ho;have gz:=w1 i;have ig:l.take (i+1)=l.take i++[o]:=cn ho;obtain⟨az,has⟩:∃az,az=bL (l.take i) n y.attrs:=⟨_,rfl⟩;have UN:gA az=true:=by rw[has];exact tX hra _ _
  have za:bL (l.take (i+1)) n y.attrs=o8 n az o:=by rw[ig,rb,has]
  have adn:az.length+1<=B:=by
   have:=tY y.attrs (l.take i) n;rw[<-has,List.length_take] at this;omega
  rw[<-has];simp only[↓aX,mX,seval,zo,ho,Option.map_some,xH,Op.ax,Op.cs];cases htg:(o.target !=(n:Int)) with
  |true=>
   have e1:bL (l.take (i+1)) n y.attrs=az:=by
    rw[za];unfold o8;rw[if_neg];rintro⟨h,_⟩;simp[h] at htg
   simp only[↓aX,mX,seval,gz];refine⟨⟨i+1,aF⟩,ajM,[],?_,?_,?_,ajS,λl _=>⟨id,λ_=>rfl⟩⟩
   ·exact BG
   ·exact wy
   simp[eL,ew,aD,ae,aP,aA,aH,cQ,e1]
  |false=>
  simp only[↓aX,mX,seval];have ht:o.target=(n:Int):=by simpa using htg
  cases h9:decide (o.kind<9) with
  |true=>
   have e1:bL (l.take (i+1)) n y.attrs=az:=by
    have:o.kind<9:=(by simpa using h9);rw[za];unfold o8;rw[if_neg];rintro⟨_,h⟩;omega
   simp only[↓aX,mX,seval,gz,h9];refine⟨⟨i+1,aF⟩,ajM,[],?_,?_,?_,ajS,λl _=>⟨id,λ_=>rfl⟩⟩
   ·exact BG
   ·exact wy
   simp[eL,ew,aD,ae,aP,aA,aH,cQ,e1]
  |false=>
  have hk9:9<=o.kind:=by simpa using h9
  have ado:=Gr o hom;have e1:bL (l.take (i+1)) n y.attrs=i_ az o:=by rw[za];unfold o8;rw[if_pos ⟨ht,ajK⟩]
  simp only[↓aX,mX,seval,h9];refine ib [.loc 3,.loc 7,.loc 8,.loc 11,.loc 16,.loc 17] (λ_=>false) (jz l n++[(16,.ptr (.loc 16) 5 0 0),(17,.sl (.loc 17) 2 0 0),(74,.list (l.map Op.iv)),(75,.int .i64 l.length),(76,.int .i64 i)])
   (ew t l n q y az++[(.loc 16,⟨5,[o.az]⟩),(.loc 17,⟨2,ak (aQ [])⟩)]) rfl amj (pc t l n q y az o (λ_=>[]) ()) ⟨[],?_,?_,?_,ajS,λl _=>⟨id,λ_=>rfl⟩⟩
   (ND t l n q y i o az adn UN hk9 ado λenv H hW=> ?_)
  ·exact BG
  ·exact wy
  ·simp[eL,ew,aD,ae,aP,aA,aH,cQ,Op.az,gm];rfl
  have he:=hW.e;simp only[jz,dp,aD,aH,List.cons_append,List.nil_append] at he;obtain⟨g1,g2,g3,g7,g8,g10,g11,g74,g75,g76,_⟩:=he;simp only[↓aX,mX,seval,g76,gz];refine⟨⟨i+1,aF⟩,ajM,[],hW.nf,?_,by simp only;rw[e1];exact hW.r,hW.inj,hW.fr⟩;simp[dp,aD,aH,put,jz,g1,g2,g3,g7,g8,g10,g11,g74,g75]
 rw[dF aF];have:i=l.length:=ajK
 subst this;simp only[↓aX,mX,seval,List.take_length];have hbw:bH (y.iH l n)<=B:=by have:=K7 l y n;omega
 have W:=λ(kv:AV) (h:kv= .list (aM (y.bG l n).kids)\/(kv= .nil0/\(y.bG l n).kids=[]))=>Jq (P:=P) (G:=G) y l n kv hl hw hn hbw h hO;have SE:∀kv:AV,kv.aq=[]->∀r∈[((Lb.loc 8),(⟨4,[[.bool y.text,.str (y.bG l n).s,.list (aQ (y.bG l n).attrs),kv]]⟩:Row))],∀cs∈r.2.els,∀z∈ai cs,z∈[Lb.loc 8]:=by
  intro kv hkv r hr cs aZ z hz;simp only[List.mem_singleton] at hr;subst hr;simp only[List.mem_singleton] at aZ;subst aZ;simp[ai,AV.aq,hkv] at hz
 have at7:bZ l 7 n=true->∃o,(pj l 7 n).getLast?=some o/\∀s,fX l n s=o.s:=by
  intro h7;cases h:(pj l 7 n).getLast? with
  |some o=>exact⟨o,rfl,λs=>by unfold fX;rw[h]⟩
  |none=>rw[List.getLast?_eq_none_iff] at h;simp[bZ,h] at h7
 have no7:bZ l 7 n=false->∀s,fX l n s=s:=by
  intro h7 s;have h:pj l 7 n=[]:=by simpa[bZ] using h7
  unfold fX;rw[h];rfl
 cases ht:y.text with
 |true=>
  have no8:fy l n y.s=y.s:=by
   have h:pj l 8 n=[]:=(by simpa[bZ] using h8 ht);unfold fy;rw[h];rfl
  have e1:(y.bG l n).s=fX l n y.s:=by simp[Tree.bG,Tree.s,ht]
  have e2:(y.bG l n).kids=[]:=by simp[Tree.bG,Tree.kids,ht]
  have e3:(y.bG l n).attrs=bL l n y.attrs:=rfl;have WW:=W .nil0 (.inr ⟨rfl,e2⟩);rw[e1,e3,ht] at WW;have El:=SE .nil0 rfl;rw[e1,e3,ht] at El;simp only[↓aX,mX,seval];cases h7:bZ l 7 n with
  |true=>
   obtain⟨o,ho,hv⟩:=at7 h7;simp only[↓aX,mX,seval,ho,uh,Op.az];refine ib [.loc 8] (λ_=>false) _ _ rfl ajO El ⟨[],?_,?_,?_,ajS,λl _=>⟨id,λ_=>rfl⟩⟩ WW
   ·exact BG
   ·exact wy
   simp[eL,aD,ae,aP,aA,aH,hv]
  |false=>
  simp only[↓aX,mX,seval,h7];refine ib [.loc 8] (λ_=>false) _ _ rfl ajO El ⟨[],?_,?_,?_,ajS,λl _=>⟨id,λ_=>rfl⟩⟩ WW
  ·exact BG
  ·exact wy
  simp[eL,aD,ae,aP,aA,aH,no7 h7,no8]
 |false=>
 simp only[↓aX,mX,seval];refine iL 151 (hO 1 n hn) ajO (λl=>by simp[ae,Hp.none,NW]) λl1=> ?_;simp only[↓aX,mX,seval,NB,NW,fM,iV,gP,ga,Nat.le_refl];refine iL 158 (hO 2 n hn) ajO (λl=>by simp[ae,Hp.none,NW]) λl2=> ?_;simp only[↓aX,mX,seval,NB,NW,fM,iV,gP,ga,Nat.le_refl,List.length_map,ek];have xx:y.kids.length<=B:=by have:=bO y.kids;omega
 have NP:=iJ 1 n l;have HP:=iJ 2 n l;have lp1:=bO (aB l 1 n);have lp2:=bO (aB l 2 n);have TF:∀j,(turns l (n+1) (y.kids.take j)).length<=B:=by
  intro j;have h1:=bO (turns l (n+1) (y.kids.take j));have h2:=vN l y.kids (n+1);have h3:bH (turns l (n+1) (y.kids.take j))<=bH (turns l (n+1) y.kids):=by
   have:=xn l (n+1) (y.kids.take j) (y.kids.drop j);rw[List.take_append_drop] at this;rw[this,dQ];omega
  have h4:=y.ff;have h5:aJ y.kids*(8*nF l+2)<=y.cC*(8*nF l+2):=Nat.mul_le_mul_right _ ajK;omega
 refine br (σ:={j:Nat // j<=y.kids.length}) (λ_=>[.loc 3,.loc 8,.loc 11,.loc 1000,.loc 1001]) (λ_ _=>false)
  (λs=>[(1,.list (l.map Op.iv)),(2,.int .i64 (n:Int)),(3,.ptr (.loc 3) 1 0 0),(8,.ptr (.loc 8) 4 0 0),(10,.bool (bZ l 7 n)),(11,.ptr (.loc 11) 5 0 0),(25,.sl (.loc 1001) 4 0 (aB l 2 n).length),(165,.list ((aG (n+1) y.kids).map aC)),(166,.int .i64 y.kids.length),(167,.int .i64 s.1)])
  (λs=>[(.loc 3,⟨1,[[.list ((ay t).map Node.iv)]]⟩),(.loc 8,⟨4,[[.bool false,.str (fy l n y.s),.list (aQ (bL l n y.attrs)),.sl (.loc 1000) 4 0 (aB l 1 n++turns l (n+1) (y.kids.take s.1)).length]]⟩),(.loc 11,⟨5,[kD (pj l 7 n).getLast?]⟩),
   (.loc 1000,⟨4,ak (aM (aB l 1 n++turns l (n+1) (y.kids.take s.1)))⟩),(.loc 1001,⟨4,ak (aM (aB l 2 n))⟩)])
  (λs=>y.kids.length - s.1) ⟨0,ajL⟩ (λ_=>rfl) (λs=>by simp[ai,AV.aq]) ?_ ⟨[(.loc 1000,.nest (.loc 151) l1.enc 1),(.loc 1001,.nest (.loc 158) l2.enc 1)],?_⟩ ?_
 ·rintro s r hr cs aZ l' gR;simp only[List.mem_cons,List.not_mem_nil,or_false] at hr;rcases hr with rfl|rfl|rfl|rfl|rfl
  ·simp only[List.mem_singleton] at aZ;subst aZ;simp[ai,AV.aq] at gR
  ·simp only[List.mem_singleton] at aZ;subst aZ;simp[ai,AV.aq] at gR;subst gR;simp
  ·exact XN
  ·rw[bc aZ] at gR;simp at gR
  rw[bc aZ] at gR;simp at gR
 ·refine⟨?_,?_,?_,ajS,?_⟩
  ·exact BG
  ·exact wy
  ·simp[eL,aD,ae,aP,aA,aH,cQ,gm,turns]
  exact abw
 rintro⟨j,hj⟩;rw[dq];simp only[↓aX,mX,seval,aR,aI];by_cases kE:j<y.kids.length
 ·rw[dT kE];obtain⟨k,hkj⟩:∃k,y.kids[j]?=some k:=⟨_,List.getElem?_eq_getElem kE⟩;have ml:=w1 j;have hg:=tF (n+1) y.kids j kE;simp only[↓aX,mX,seval,pz,hg,mi,ek,Option.map_some,aC,IV.cells];have vZ:y.kids=y.kids.take j++k::y.kids.drop (j+1):=by rw[<-drop_eq hkj,List.take_append_drop]
  have V4:turns l (n+1) (y.kids.take (j+1))=turns l (n+1) (y.kids.take j)++k.iH l (n+1+aJ (y.kids.take j)):=by rw[cn hkj,xn];simp[turns]
  have W1:=TF (j+1);rw[V4,List.length_append] at W1;refine⟨rfl,dG (hK _ _ k vZ) ?_⟩;simp only[↓aX,mX,seval];rw[vm 4 72 177 1000 (aM (aB l 1 n++turns l (n+1) (y.kids.take j))) (aM (k.iH l (n+1+aJ (y.kids.take j)))) ajR ak4 (fa _) (gd _) am9 ajN ajN ajX];simp only[↓aX,mX,seval,ml];refine⟨by rintro l' (rfl|rfl)<;>simp[Lb.ix],⟨j+1,kE⟩,ajM,[(.loc 1000,.loc 177)],?_,?_,?_,ajS,?_⟩
  ·exact BG
  ·simp[dp,aD,aH,put,iX]
  ·have e4:aM (aB l 1 n++turns l (n+1) (y.kids.take j))++aM (k.iH l (n+1+aJ (y.kids.take j)))=aM (aB l 1 n++turns l (n+1) (y.kids.take (j+1))):=(by rw[V4,<-List.append_assoc,<-ed]);rw[e4];simp[eL,aD,ae,aP,aA,aH,cQ,gm,V4,ar]
   try omega
  exact abw
 rw[dF kE];have:j=y.kids.length:=ajK
 subst this;simp only[↓aX,mX,seval,List.take_length];have hta:=TF y.kids.length;rw[List.take_length] at hta;rw[ob (ys:=aM (aB l 2 n)) (xs:=aM (aB l 1 n++turns l (n+1) y.kids)) (sE ajR ak4) ajR ak4 rfl (gd _) am9 ajN ajL ajX];obtain⟨K,hKe⟩:∃K,K=aB l 1 n++turns l (n+1) y.kids++aB l 2 n:=⟨_,rfl⟩;have e4:aM (aB l 1 n++turns l (n+1) y.kids)++aM (aB l 2 n)=aM K:=by rw[hKe,<-ed]
 have Iw:(aB l 1 n++turns l (n+1) y.kids).length+(aB l 2 n).length=K.length:=by rw[hKe];simp only[List.length_append]
 rw[e4,ar (aB l 2 n),Iw];simp only[↓aX,mX,seval];refine⟨4,aM K,0,_,[.bool false,.str (fy l n y.s),.list (aQ (bL l n y.attrs)),.sl (.loc 183) 4 0 _],rfl,rfl,rfl,ajL,akD,gd _,?_⟩;have xz:((aM K).drop 0).take K.length=aM K:=by rw[List.drop_zero];exact List.take_of_length_le (by rw[ar];exact Nat.le_refl _)
 simp only[↓aX,mX,seval,xz,List.set_cons_succ,List.set_cons_zero];have e1:(y.bG l n).s=fy l n y.s:=by simp[Tree.bG,Tree.s,ht]
 have e3:(y.bG l n).attrs=bL l n y.attrs:=rfl;cases h7:bZ l 7 n with
 |true=>
  obtain⟨o,ho,hv⟩:=at7 h7;have e2:(y.bG l n).kids=[Ew o.s]:=by simp[Tree.bG,Tree.kids,ht,h7,hv]
  have WW:=W (.list (aM [Ew o.s])) (.inl (by rw[e2]));rw[e1,e3,ht] at WW;have El:=SE (.list (aM [Ew o.s])) rfl;rw[e1,e3,ht] at El;have Bh:[IV.agg [.bool true,.str o.s,.list [],.list []]]=aM [Ew o.s]:=by simp[aM,Tree.iv,Ew,aQ]
  simp only[↓aX,mX,seval,ho,uh,Op.az,Bh];refine ib [.loc 8] (λ_=>false) _ _ rfl ajO El ⟨[],?_,?_,?_,ajS,λl _=>⟨id,λ_=>rfl⟩⟩ WW
  ·exact BG
  ·exact wy
  exact LX
 |false=>
 have e2:(y.bG l n).kids=K:=by rw[hKe];simp[Tree.bG,Tree.kids,ht,h7]
 have WW:=W _ (.inl (by rw[e2]));rw[e1,e3,ht] at WW;have El:=SE (.list (aM K)) rfl;rw[e1,e3,ht] at El;simp only[↓aX,mX,seval];refine ib [.loc 8] (λ_=>false) _ _ rfl ajO El ⟨[],?_,?_,?_,ajS,λl _=>⟨id,λ_=>rfl⟩⟩ WW
 ·exact BG
 ·exact wy
 rw[List.drop_zero] at xz;simp[eL,aD,ae,aP,aA,aH,xz]
def UO (t:Tree) (l:List Op) (n:Nat) (q:Int) (y:Tree) (hs:Sub 0 (-1) t n q y)
  (hd:(ay t).length<=B) (hl:l.length<=B) (hw:nF l<=B) (hn:n<=B) (hb:y.wt+y.cC*(8*nF l+2)<=B) (Gr:∀o∈l,o.kind<=10) (h8:y.text=true->bZ l 8 n=false) (hra:gA y.attrs=true)
  (hO:OfC P G 123 l)
  (hK:∀(A C:List Tree) (k:Tree),y.kids=A++k::C->aj P G 81 [Doc.av (ay t),.list (l.map Op.iv),.int .i64 ((n+1+aJ A:Nat):Int)] (.list (aM (k.iH l (n+1+aJ A))))) :
  aj P G 81 [Doc.av (ay t),.list (l.map Op.iv),.int .i64 (n:Int)] (.list (aM (y.iH l n))):=by
 refine au (XX (RS c_T)) ajL aka ajP ?_;have gV:B=1073741824:=rfl;have hL:jh (ay t) n q y:=hs.vc _ ⟨[],akJ⟩;have p9:=hL.node;have aF:=(afY.1 p9).1;have hwx:=y.dL;have PJ:=fS y.attrs;simp only[↓aX,mX,seval,Doc.av,eD,Doc.iE p9,iY,Node.ax,Node.cs,Tree.node];refine⟨rfl,?_⟩;rw[lI 2 32 54 (aQ y.attrs) (kx _) (gn _) akQ ajN ajX];simp only[↓aX,mX,seval,aE];refine⟨2,aQ y.attrs,0,y.attrs.length,[.bool y.text,.str y.s,.sl (.loc 54) 2 0 y.attrs.length,.nil0],rfl,rfl,rfl,ajL,akQ,gn _,?_⟩;have xz:((aQ y.attrs).drop 0).take y.attrs.length=aQ y.attrs:=amd
 simp only[↓aX,mX,seval,xz,List.set_cons_succ,ai4];refine iL 59 (hO 7 n hn) ajO (λl=>by simp[ae,Hp.none,NW]) λl7=> ?_;simp only[↓aX,mX,seval,NB,NW,fM,iV,gP,ga,af6];refine iL 66 (hO 8 n hn) ajO (λl=>by simp[ae,Hp.none,NW]) λl8=> ?_;simp only[↓aX,mX,seval,NB,NW,fM,iV,gP,ga,af6];have fin:∀env H m,WU [.loc 3,.loc 7,.loc 8,.loc 11] (λ_=>false) (jz l n) (ew t l n q y y.attrs) env H m ->
   go ⟨P,G,235⟩ (eZ [(none,6)] λx _=>x= .list (aM (y.iH l n))) [.code (.gh .jf c_T)] env H:=λenv H m h=>
  ib [.loc 3,.loc 7,.loc 8,.loc 11] _ _ _ rfl amj (xm t l n q y y.attrs) ⟨m,h⟩ (Jr t l n q y hl hw hn hb Gr h8 hra hO hK)
 cases h8c:bZ l 8 n with
 |true=>
  obtain⟨o,ho⟩:∃o,(pj l 8 n).getLast?=some o:=by
   cases h:(pj l 8 n).getLast? with
   |some o=>exact⟨o,rfl⟩
   |none=>rw[List.getLast?_eq_none_iff] at h;simp[bZ,h] at h8c
  have um:fy l n y.s=o.name:=by unfold fy;rw[ho]
  simp only[↓aX,mX,seval,ho,uh,Op.az];refine fin _ _ [] ⟨?_,?_,?_,ajS,λl _=>⟨id,λ_=>rfl⟩⟩
  ·exact BG
  ·simp[dp,aD,aH,put,jz,fH]
  simp[eL,ew,aD,ae,aP,aA,aH,cQ,um,Fa]
 |false=>
 have um:fy l n y.s=y.s:=by
  have h:pj l 8 n=[]:=by simpa[bZ] using h8c
  unfold fy;rw[h];rfl
 simp only[↓aX,mX,seval];refine fin _ _ [] ⟨?_,?_,?_,ajS,λl _=>⟨id,λ_=>rfl⟩⟩
 ·exact BG
 ·simp[dp,aD,aH,put,jz,fH]
 simp[eL,ew,aD,ae,aP,aA,aH,cQ,um,Fa]
end
end Go.Am

set_option maxRecDepth 20000
namespace Go.Am
open Go Go.RowKit
section
variable {P:Program} {G:Nat->Option (List IV)} [KN P G]
theorem Ll (t:Tree) (l:List Op)
  (hd:(ay t).length<=B) (hl:l.length<=B) (hw:nF l<=B) (Gr:∀o∈l,o.kind<=10) (hO:OfC P G 123 l)
  (hX:∀n q y,Sub 0 (-1) t n q y->n<=B/\y.wt+y.cC*(8*nF l+2)<=B/\(y.text=true->bZ l 8 n=false)/\gA y.attrs=true) :
  ∀(s:Nat) (n:Nat) (q:Int) (y:Tree),y.cC<=s->Sub 0 (-1) t n q y->aj P G 81 [Doc.av (ay t),.list (l.map Op.iv),.int .i64 (n:Int)] (.list (aM (y.iH l n)))
 |0,n,q,y,h,hs=>by have:=y.ca;omega
 |s+1,n,q,y,h,hs=>by
  obtain⟨h1,h2,h3,h4⟩:=hX n q y hs;refine UO t l n q y hs hd hl hw h1 h2 Gr h3 h4 hO λA C k hk=> ?_;have Lx:Sub 0 (-1) t (n+1+aJ A) n k:=hs.trans (.Bm A C k hk (.self _ _ _));refine Ll t l hd hl hw Gr hO hX s _ _ k ?_ Lx;have:=y.ff;rw[hk,dM] at this;simp only[aJ] at this;omega
def NG (d:Doc) (l:List Op)
  (hC:aj P G 79 [Doc.av d,.list (l.map Op.iv)] (.int .i64 (dn d l)))
  (hT:∀t,t.cA=true->d=ay t->dn d l=0->aj P G 81 [Doc.av (ay t),.list (l.map Op.iv),.int .i64 0] (.list (aM [t.bG l 0])))
  (hJ:∀t,t.cA=true->d=ay t->dn d l=0->aj P G 80 [.list (aM [t.bG l 0])] (.list (aM [ki t l])))
  (hM:∀t,t.cA=true->d=ay t->dn d l=0->aj P G 38 [(ki t l).av] (.bq [Doc.av (c_ (ki t l)).1,.int .i64 (c_ (ki t l)).2])) :
  aj P G 42 [Doc.av d,.list (l.map Op.iv)] (.bq [Doc.av (cq d l).1,.int .i64 (cq d l).2]):=by
 refine au (cw 42 []) ajL aka alM ?_;simp only[↓aX,mX,seval,Doc.av];refine ah hC ?_;cases hc:(dn d l !=0) with
 |true=>
  have Lu:dn d l≠0:=by simpa using hc
  have hb:cq d l=(d,dn d l):=by unfold cq;rw[af8 Lu]
  simp only[↓aX,mX,seval,hc,↓cS,hb]
 |false=>
 have Lu:dn d l=0:=by simpa using hc
 obtain⟨t,ht,rfl⟩:=dm.1 (CQ Lu);simp only[↓aX,mX,seval,hc];refine ah (hT t ht rfl Lu) ?_;simp only[↓aX,mX,seval];refine ah (hJ t ht rfl Lu) ?_;have hm:=hM t ht rfl Lu;simp only[Tree.av,Doc.av] at hm;simp only[↓aX,mX,seval,dc,agF,af9,fa,Tree.ax,Tree.cs];refine ah hm ?_;have hr:=AW ht Lu;simp only[c_];by_cases hg:(ki t l).cA=true
 ·rw[agc hg] at hr;simp only[hg,agn];simp only[↓aX,mX,seval,↓cS,show((0:Int) !=0)=false from rfl,hr,Doc.av]
 rw[af8 hg] at hr;simp only[hg,agk];simp only[↓aX,mX,seval,↓cS,show((1:Int) !=0)=true from rfl,hr,Doc.av]
end

def Ev (c:UInt8):Nat->Bs->List Bs
 |0,r=>[r]
 |k+1,r=>if(a6 c r).2.2 then(a6 c r).1::Ev c k (a6 c r).2.1 else [r]
structure afj (c:UInt8) (s:Bs) (k:Nat) where
 i:Nat
 pre:List Bs
 hp:i=pre.length
 r:Bs
 hi:pre.length<=k
 hs:Ev c k s=pre++Ev c (k - pre.length) r
 hl:r.length<=s.length
def Lm {pre:List Bs} {k:Nat} (h:pre.length<=k) (w:Bs):(pre++List.replicate (k+1 - pre.length) []).set pre.length w=pre++[w]++List.replicate (k - pre.length) []:=by
 rw[ahr _ _ (af6 _),ahc,show k+1 - pre.length=(k - pre.length)+1 by omega,aiZ,ai4];simp
def Js {P:Program} {G:Nat->Option (List IV)} [KN P G] (s:Bs) (c:UInt8) (hs:s.length<=B) (n:Nat) (hn:n+1<=s.length+1) (ov:0<=n) (Hj:n<=B) (N:Nat) (hN:min N (s.length+1)=n+1)
  (hX:∀r:Bs,aj P G 96 [.str r,.str [c]] (.int .i64 (Lib.indexByte r c))) :
  aj P G 58 [.str s,.str [c],.int .i64 0,.int .i64 N] (.list ((Ev c n s).map IV.str)):=by
 refine au (cw 58 [.r (.tj (.loc 31) 8)]) ajL ajO ajP ?_;have gV:B=1073741824:=rfl;have ml:IntKind.i64.wrap (((s.length:Nat):Int)+1)=((s.length+1:Nat):Int):=wrap64 ajK ajK;have Cg:IntKind.i64.wrap (((n+1:Nat):Int) - 1)=((n:Nat):Int):=ajW
 have hN0:((N:Int)==0)=false:=ajY
 have hN1:decide ((N:Int)<0)=false:=ajL
 have OA:(if((s.length+1:Nat):Int)<(N:Int) then((s.length+1:Nat):Int) else(N:Int))=((n+1:Nat):Int):=an1
 simp only[↓aX,mX,seval,hN0,hN1,show(([c]:Bs)==[])=false from rfl,ml,OA];rw[P4 ajK an0];simp only[↓aX,mX,seval,Cg];refine b_ (σ:=afj c s n) [.loc 31] (λq=>[(0,.str q.r),(1,.str [c]),(2,.int .i64 0),(3,.int .i64 (n:Int)),(9,.sl (.loc 31) 1 0 (n+1)),(10,.int .i64 q.i)])
  (λq=>[(.loc 31,⟨1,yt (q.pre++List.replicate (n+1 - q.pre.length) [])⟩)]) (λq=>n - q.pre.length) ⟨0,[],rfl,s,agO _,rfl,af6 _⟩ (λ_=>rfl) ajN ajO (by
   intro q r hr cs aZ l hl;simp only[af'] at hr;subst hr;rw[FW aZ] at hl;simp at hl) ?_ ?_
 ·refine eu ak1 ajT ⟨?_,trivial⟩;simp[yt,ae]
 rintro⟨_,pre,rfl,r,hi,vZ,hl⟩;have hlen:(pre++List.replicate (n+1 - pre.length) ([]:Bs)).length=n+1:=ajY
 have hwc:IntKind.i64.wrap (((pre.length:Nat):Int)+1)=((pre.length+1:Nat):Int):=wrap64 ajK ajK;obtain⟨w0,yn⟩:∃w0,(pre++List.replicate (n+1 - pre.length) ([]:Bs))[pre.length]?=some w0:=⟨_,af7 ajK⟩;have kH:=Lm hi r;simp only[↓aX,mX,seval,aR,aI];refine j7 (λaF=> ?_) (λaF=> ?_)
 ·have aF:pre.length<n:=by simpa using aF
  simp only[↓aX,mX,seval];refine ah (hX r) ?_;simp only[↓aX,mX,seval];refine j7 (λhm=> ?_) (λhm=> ?_)
  rotate_left
  ·have hm:¬Lib.indexByte r c<0:=anO;rcases eT c r with⟨h1,_,_⟩|⟨m,h1,h2,_,_⟩
   ·rw[h1] at hm;exact absurd hm ajN
   have fG:Ev c (n - pre.length) r=r.take m::Ev c (n - (pre.length+1)) (r.drop (m+1)):=by
    rw[show n - pre.length=(n - (pre.length+1))+1 by omega];simp[Ev,a6,h1]
   have adq:=Lm hi (r.take m);have P6:IntKind.i64.wrap (((m:Nat):Int)+0)=((m:Nat):Int):=ajW;have Ys:IntKind.i64.wrap (((m:Nat):Int)+1)=((m+1:Nat):Int):=wrap64 ajK ajK;simp only[h1,↓aX,mX,seval,P6,iz,yI,af5,af0,agt,show m<=r.length by omega,agj,qV,qW,hlen,yn,af9,af_,ag_,aiJ,adq,show pre.length<n+1 by omega,agh,
    agd,agx,show((1:Nat):Int)=1 from rfl,Ys,show m+1<=r.length by omega,agu,hwc]
   exact⟨⟨pre.length+1,pre++[r.take m],ajL,r.drop (m+1),ajY,by rw[vZ,fG];simp,ajY⟩,by simp only[age,agd,agx];omega,eu ak1 ajT ⟨ajR,trivial⟩⟩
  have fG:Ev c (n - pre.length) r=[r]:=by
   rcases eT c r with⟨h1,_,_⟩|⟨m,h1,h2,_,_⟩
   ·rw[show n - pre.length=(n - pre.length - 1)+1 by omega];simp[Ev,a6,h1]
   rw[h1] at hm;simp at hm;omega
  simp only[↓aX,mX,seval,iz,yI,af5,af0,agt,qW,yn,af9,af_,agd,agx,ag_,agj,aiJ,agh,qV,kH,hwc,
   show pre.length<n+1 by omega,af6]
  simp only[↓aX,mX,seval,nH,nG,iz,yI,af5,af0,agt,af6,agO,af_,af9,ahG,ait,ahs,agh,show pre.length+1<=n+1 by omega];refine⟨1,(pre++[r]++List.replicate (n - pre.length) []).map IV.str,0,pre.length+1,rfl,?_,ajL,P5 _,?_⟩
  ·rw[<-vA];try simp[ae]
  exact aa9
 have fG:Ev c (n - pre.length) r=[r]:=by
  have:¬pre.length<n:=by simpa using aF
  rw[show n - pre.length=0 by omega];rfl
 simp only[↓aX,mX,seval,iz,yI,af5,af0,agt,qW,yn,af9,af_,agd,agx,ag_,agj,aiJ,agh,qV,kH,hwc,hlen,
  show pre.length<n+1 by omega,af6]
 simp only[↓aX,mX,seval,nH,nG,iz,yI,af5,af0,agt,af6,agO,af_,af9,ahG,ait,ahs,agh,show pre.length+1<=n+1 by omega];refine⟨1,(pre++[r]++List.replicate (n - pre.length) []).map IV.str,0,pre.length+1,rfl,?_,ajL,P5 _,?_⟩
 ·rw[<-vA];try simp[ae]
 exact aa9
def UP {c:UInt8} {r:Bs} (h:(a6 c r).2.2=true):(a6 c r).2.1.length<r.length:=by
 unfold a6 at h ⊢;rcases eT c r with⟨h1,_,_⟩|⟨m,h1,h2,_,_⟩
 ·rw[h1] at h;simp at h
 rw[h1];simp;omega
theorem Em (c:UInt8):∀(k:Nat) (r:Bs),Ev c k r=Ev c (min k r.length) r
 |0,r=>by simp
 |k+1,r=>by
  rcases Nat.eq_zero_or_pos r.length with h|h
  ·rw[h,Nat.min_zero];have:r=[]:=aj6;subst this;rfl
  rw[show min (k+1) r.length=min k (r.length - 1)+1 by omega];simp only[Ev];split
  ·rename_i h2;have:=UP h2;rw[Em c k,Em c (min k (r.length - 1)),show min (min k (r.length - 1)) (a6 c r).2.1.length=min k (a6 c r).2.1.length by omega]
  rfl
def UQ {P:Program} {G:Nat->Option (List IV)} [KN P G] (s:Bs) (c:UInt8) (hs:s.length<=B)
  (hX:∀r:Bs,aj P G 96 [.str r,.str [c]] (.int .i64 (Lib.indexByte r c))):aj P G 24 [.str s,.str [c],.int .i64 3] (.list ((Ev c 2 s).map IV.str)):=by
 refine au (cw 24 []) ajL ajO ajP ?_;have gV:B=1073741824:=rfl;simp only[↓aX,mX,seval];have:=Js s c hs (min 2 s.length) ajK ajK ajK 3 ajK hX;rw[<-Em] at this;refine ah this ?_;simp only[↓aX,mX,seval]
def UR {c:UInt8} {s:Bs}:∃w:List Bs,Ev c 2 s=w/\w[0]?=some (a6 c s).1/\w.length<=3/\(1<w.length->w[1]?=some (a6 c (a6 c s).2.1).1)/\(w.length<=1->(a6 c (a6 c s).2.1).1=[]) /\
  ((w.length:Int)==3)=(a6 c (a6 c s).2.1).2.2/\((a6 c (a6 c s).2.1).2.2=true->w[2]?=some (a6 c (a6 c s).2.1).2.1):=by
 refine⟨_,rfl,?_⟩;have no:∀r:Bs,(a6 c r).2.2=false->(a6 c r).1=r/\(a6 c r).2.1=[]:=λr h=>by
  unfold a6 at h ⊢;split at h
  ·simp at h
  rename_i h1;rw[af8 h1];exact⟨rfl,rfl⟩
 simp only[Ev];cases h1:(a6 c s).2.2 with
 |false=>
  have h2:a6 c []=([],[],false):=rfl;simp[h1,(no s h1).1,(no s h1).2,h2]
 |true=>
 cases h2:(a6 c (a6 c s).2.1).2.2 with
 |false=>simp[h1,h2,(no _ h2).1]
 |true=>simp[h1,h2]

def Zz {o:Option AV} {x:AV} {k:AV->Prop} {u:Tv k} (h:o=some x) (hk:k x):yp o k u:=by exact⟨x,h,hk⟩
def pT:List Bs:=kj.tail
def N0 (kd:Int) (j:Nat):Int:=if 1<=kd/\kd<=j then kd else 0
def US {w x:Bs} {j:Nat} (h:pT[j]?=some x):(w==x)=decide (pa kj w=(j+1:Nat)):=by
 have hj:j<10:=(afY.1 h).1;rw[agP,ag9,agv];constructor
 ·rintro rfl
  match j,hj with
  |0,_|1,_|2,_|3,_|4,_|5,_|6,_|7,_|8,_|9,_=>simp[pT,kj] at h;subst h;rfl
 intro e;have h2:∀(l:List Bs) (w x:Bs) (i:Nat),pa l w=(i:Int)->l[i]?=some x->w=x:=by
  intro l;induction l with
  |nil=>intro w x i h;simp[pa] at h
  |cons v r ih=>
  intro w x i h hx;simp only[pa] at h;split at h
  ·rename_i e;have:i=0:=ajK;subst this;simp at hx;rw[e,hx]
  split at h
  ·omega
  cases i with
  |zero=>omega
  |succ i=>exact ih w x i ajK ak5
 exact h2 kj w x (j+1) e (by rw[<-h];rfl)
section
variable {P:Program} {G:Nat->Option (List IV)} [KN P G]
def UT (e:Int):aj P G 23 [.int .i64 e] (.bq [.agg [.int .i64 0,.int .i64 0,.nil0,.str [],.str []],.nil0,.int .i64 e]):=by
 refine au (cw 23 []) ajL ajO ajU ?_;simp only[↓aX,mX,seval,↓cX]
set_option maxHeartbeats 2000000 in
def UU (s:Bs) (hs:s.length<=B) (hB:dE P 23=true)
  (vS:∀e,aj P G 23 [.int .i64 e] (.bq [.agg [.int .i64 0,.int .i64 0,.nil0,.str [],.str []],.nil0,.int .i64 e])) (hN:aj P G 24 [.str s,.str [32],.int .i64 3] (.list ((Ev 32 2 s).map IV.str)))
  (hP:∀t:Bs,t.length<=s.length->aj P G 25 [.str t] (kf t)) (hI:∀t:Bs,t.length<=s.length->aj P G 27 [.str t,.int .u8 61] (.int .i64 (Lib.indexByte t 61)))
  (hT:∀t:Bs,t.length<=s.length->aj P G 26 [.str t] (.bq [.str (ep t).1,.int .i64 (ep t).2]))
  (hC:∀t:Bs,t.length<=s.length->aj P G 28 [.str t] (.bq [.list (aM (eC t).1),.int .i64 (eC t).2])):aj P G 7 [.str s] (kA s):=by
 refine cO (cw 7 []) ajL ajO (by simp[AV.aq,ai,kA,Op.av]) ?_;have gV:B=1073741824:=rfl;have l1:=(gY 32 s).2;have l2:=gY 32 (a6 32 s).2.1;have l3:=gY 61 (a6 32 (a6 32 s).2.1).2.1;obtain⟨w,hw,w0,Cg,w1,wn,wl,w2⟩:=UR (c:=32) (s:=s);rw[hw] at hN;obtain⟨kd,qB⟩:∃kd,pa kj (a6 32 s).1=kd:=⟨_,rfl⟩;have hrg:=Eb kj (a6 32 s).1;rw[qB] at hrg;obtain⟨x,hx⟩:∃x,(a6 32 s).1=x:=⟨_,rfl⟩;obtain⟨a,ha⟩:∃a,a6 32 (a6 32 s).2.1=a:=⟨_,rfl⟩;rw[ha] at l2 l3 w1 wn wl w2;rw[hx] at w0;have j5:dV 1 (w.map IV.str):=akA
 have hek:dV 1 (pT.map IV.str):=akA
 have wg:∀i,(w.map IV.str)[i]?=(w[i]?).map IV.str:=λi=>List.getElem?_map ..;simp only[↓aX,mX,seval];refine ah hN ?_;simp only[↓aX,mX,reduceCtorEq,Int.reduceLT,Nat.reduceEqDiff,Int.reduceLE,Nat.reduceLT,Nat.reduceLeDiff,Nat.reduceAdd,Nat.reduceMul,Int.reduceToNat];refine Zz (x:= .list (pT.map IV.str)) rfl ?_;simp only[↓aX,mX,seval,List.length_map,show pT.length=10 from rfl];refine br (σ:={j:Nat // j<=10}) (λ_=>[.loc 2,.loc 7]) (λ_ _=>false)
  (λq=>[(0,.str s),(2,.ptr (.loc 2) 5 0 0),(3,.nil0),(4,.int .i64 0),(5,.fn 23 [] []),(6,.list (w.map IV.str)),(7,.ptr (.loc 7) 5 0 0),(16,.list (pT.map IV.str)),(17,.int .i64 10),(18,.int .i64 q.1)])
  (λq=>[(.loc 2,⟨5,[[.int .i64 0,.int .i64 0,.nil0,.str [],.str []]]⟩),(.loc 7,⟨5,[[.int .i64 (N0 kd q.1),.int .i64 0,.nil0,.str [],.str []]]⟩)]) (λq=>10 - q.1)
  ⟨0,ajN⟩ (λ_=>rfl) (λq=>by simp[ai,AV.aq]) ?_ ⟨[],?_⟩ ?_
 ·intro q z hz cs aZ y hy;simp only[List.mem_cons,List.not_mem_nil,or_false] at hz;rcases hz with rfl|rfl<;>(simp only[List.mem_singleton] at aZ;subst aZ;simp[ai,AV.aq] at hy)
 ·refine⟨?_,?_,?_,ajS,λl _=>⟨id,λ_=>rfl⟩⟩
  ·exact ow
  ·simp[dp,aD,aH,aA,put,fH]
  have:N0 kd 0=0:=by unfold N0;rw[if_neg];omega
  simp[eL,aD,ae,aP,aA,aH,this]
 rintro⟨j,hj⟩;dsimp only;rw[dq];simp only[↓aX,mX,seval,aR,aI];refine j7 (λh=> ?_) (λh=> ?_)
 ·have kE:j<10:=by simp at h;omega
  obtain⟨y,hy⟩:∃y,pT[j]?=some y:=⟨_,List.getElem?_eq_getElem (show j<pT.length from kE)⟩;have Ch:=Go.Am.w1 j;have Bx:(pT.map IV.str)[j]?=some (.str y):=by rw[List.getElem?_map,hy];rfl
  simp only[↓aX,mX,seval,Bx,hek,wg,w0,j5,IV.cells,Option.map_some,Int.natCast_nonneg,Int.toNat_natCast];have EL:(x==y)=decide (kd=(j+1:Nat)):=by rw[<-qB,<-US hy,hx]
  rw[EL];refine j7 (λh=> ?_) (λh=> ?_)
  ·have h:kd=((j+1:Nat):Int):=aj6;have hk:N0 kd (j+1)=kd:=am';simp only[↓aX,mX,seval,Ch];refine⟨⟨j+1,kE⟩,ajM,[],?_,?_,?_,ajS,λl _=>⟨id,λ_=>rfl⟩⟩
   ·exact ow
   ·simp[dp,aD,aH,aA,put,iX]
   simp[eL,aD,ae,aP,aA,aH,hk];simp[h]
  have h:¬kd=((j+1:Nat):Int):=aj6
  have hk:N0 kd (j+1)=N0 kd j:=by unfold N0;split<;>split<;>omega
  simp only[↓aX,mX,seval,Ch];refine⟨⟨j+1,kE⟩,ajM,[],?_,?_,?_,ajS,λl _=>⟨id,λ_=>rfl⟩⟩
  ·exact ow
  ·simp[dp,aD,aH,aA,put,iX]
  simp[eL,aD,ae,aP,aA,aH,hk]
 have hj:j=10:=aki
 subst hj;simp only[↓aX,mX,seval];have cA:∀(o:Op) (l':List Step),bM s=(o,l',0)->kA s= .bq [o.av,.list (l'.map Step.iv),.int .i64 0]:=λo l' h=>by simp only[kA,h]
 have bad:∀e:Int,bM s=(qm,[],e)->kA s= .bq [.agg [.int .i64 0,.int .i64 0,.list [],.str [],.str []],.list [],.int .i64 e]:=λe h=>by simp only[kA,h];rfl
 by_cases P9:kd<1
 ·have hl:bM s=(qm,[],1):=by simp only[bM,qB,P9,true_or,ite_true]
  have pe:N0 kd 10=0:=by unfold N0;rw[if_neg ajK]
  simp only[↓aX,mX,seval,pe,show((0:Int)==0)=true from rfl,aU,bD,List.nil_append,List.append_nil];refine⟨hB,ah (vS 1) ?_⟩;simp only[↓aX,mX,seval,bad 1 hl,↓cX,norm,bP]
 have afV:kd<=10:=by have:(kj.length:Int)=11:=rfl;omega
 have pe:N0 kd 10=kd:=am'
 rw[pe];simp only[↓aX,mX,seval,pe,show(kd==0)=false by simp;omega];rcases Nat.lt_or_ge 2500 s.length with hlen|hlen
 ·have hl:bM s=(qm,[],1):=by simp only[bM,qB,hlen,or_true,ite_true]
  simp only[↓aX,mX,seval,show decide ((s.length:Int)>2500)=true by simp;omega,aU,bD,List.nil_append,List.append_nil];refine⟨hB,ah (vS 1) ?_⟩;simp only[↓aX,mX,seval,bad 1 hl,↓cX,norm,bP]
 simp only[↓aX,mX,seval,show decide ((s.length:Int)>2500)=false by simp;omega];have c4:=hP a.1 ajK;have yE:¬(kd<1\/2500<s.length):=ajK
 have lV:bM s=(match lM a.1 with
  |none=>(qm,[],1)
  |some l=>
   if a.2.2=decide (kd=5) then(qm,[],1)
   else if kd=8\/kd=10 then(⟨kd,0,[],a.2.1,[]⟩,l,0)
   else if kd=9 then
    if(a6 61 a.2.1).2.2 then(if(ep (a6 61 a.2.1).2.1).2=0 then(⟨kd,0,[],(a6 61 a.2.1).1,(ep (a6 61 a.2.1).2.1).1⟩,l,0) else(qm,[],(ep (a6 61 a.2.1).2.1).2)) else(qm,[],1)
   else if kd=7 then(if(ep a.2.1).2=0 then(⟨kd,0,[],[],(ep a.2.1).1⟩,l,0) else(qm,[],(ep a.2.1).2))
   else if kd=5 then(⟨kd,0,[],[],[]⟩,l,0)
   else if(eC a.2.1).2=0 then(⟨kd,0,(eC a.2.1).1,[],[]⟩,l,0) else(qm,[],(eC a.2.1).2)):=by
  unfold bM;simp only[qB,ha];rw[if_neg yE];cases lM a.1<;>rfl
 have two:∀p:Bs,p=a.1->aj P G 25 [.str p] (kf a.1):=λp e=>by rw[e];exact c4
 refine j7 (λh=> ?a1) (λh=> ?a2)
 case' a1=>
  have h:1<w.length:=aki
  simp only[↓aX,mX,seval,wg,w1 h,j5,IV.cells,Option.map_some];refine ah (two _ rfl) ?_
 case' a2=>
  have h:w.length<=1:=aki
  simp only[↓aX,mX,seval];refine ah (two _ (wn h).symm) ?_
 all_goals
  cases hp:lM a.1 with
  |none=>
   have hl:bM s=(qm,[],1):=(by rw[lV,hp]);simp only[↓aX,mX,seval,kf,hp,show((1:Int) !=0)=true from rfl,aU,bD,List.nil_append,List.append_nil];refine⟨hB,ah (vS 1) ?_⟩;simp only[↓aX,mX,seval,bad 1 hl,↓cX,norm,bP]
  |some l=>
  rw[hp] at lV;simp only at lV;simp only[↓aX,mX,seval,kf,hp,show((0:Int) !=0)=false from rfl,wl,pe];by_cases h3:a.2.2=decide (kd=5)
  ·have hl:bM s=(qm,[],1):=(by rw[lV,if_pos h3]);simp only[↓aX,mX,seval,show(a.2.2==(kd==5))=true by rw[h3];by_cases e:kd=5<;>simp[e],aU,bD,List.nil_append,List.append_nil];refine⟨hB,ah (vS 1) ?_⟩;simp only[↓aX,mX,seval,bad 1 hl,↓cX,norm,bP]
  rw[if_neg h3] at lV;simp only[↓aX,mX,seval,show(a.2.2==(kd==5))=false by by_cases e:kd=5<;>cases h4:a.2.2<;>simp_all];by_cases k5:kd=5
  ·have e5:a.2.2=false:=(by cases h4:a.2.2<;>simp_all);have hl:bM s=(⟨kd,0,[],[],[]⟩,l,0):=(by rw[lV,if_neg ajK,if_neg ajK,if_neg ajK,if_pos k5]);simp only[↓aX,mX,seval,show(kd==5)=true by simp[k5],show((0:Int) !=0)=false from rfl,cA _ _ hl,↓cX,norm,bP,Op.av,aM,List.map_nil]
  have e5:a.2.2=true:=by cases h4:a.2.2<;>simp_all
  have g2:=w2 e5;have z0:((0:Int) !=0)=false:=rfl;have eg:(w.map IV.str)[2]?=some (.str a.2.1):=by rw[wg,g2];rfl
  by_cases k8:kd=8
  ·have hl:bM s=(⟨kd,0,[],a.2.1,[]⟩,l,0):=(by rw[lV,if_pos (.inl k8)]);simp only[↓aX,mX,seval,show(kd==5)=false by simp[k5],show(kd==8)=true by simp[k8],eg,j5,IV.cells,z0,cA _ _ hl,↓cX,norm,bP,Op.av,aM,List.map_nil]
  by_cases Hr:kd=10
  ·have hl:bM s=(⟨kd,0,[],a.2.1,[]⟩,l,0):=(by rw[lV,if_pos (.inr Hr)]);simp only[↓aX,mX,seval,show(kd==5)=false by simp[k5],show(kd==8)=false by simp[k8],show(kd==10)=true by simp[Hr],eg,j5,IV.cells,z0,cA _ _ hl,↓cX,norm,bP,Op.av,aM,List.map_nil]
  have k80:¬(kd=8\/kd=10):=λh=>h.elim k8 Hr;rw[if_neg k80] at lV;simp only[↓aX,mX,seval,show(kd==5)=false by simp[k5],show(kd==8)=false by simp[k8],show(kd==10)=false by simp[Hr]];by_cases k7:kd=7
  ·rw[if_neg ajK,if_pos k7] at lV;simp only[↓aX,mX,seval,show(kd==7)=true by simp[k7],eg,j5,IV.cells];refine ah (hT a.2.1 ajK) ?_;cases he:(ep a.2.1).2==0 with
   |true=>
    have ql:(ep a.2.1).2=0:=akk;have hl:bM s=(⟨kd,0,[],[],(ep a.2.1).1⟩,l,0):=anK;simp only[↓aX,mX,seval,ql,z0,cA _ _ hl,↓cX,norm,bP,Op.av,aM,List.map_nil]
   |false=>
   have ql:¬(ep a.2.1).2=0:=akk;have hl:bM s=(qm,[],(ep a.2.1).2):=anL;simp only[↓aX,mX,seval,show((ep a.2.1).2 !=0)=true by simpa using ql,aU,bD,List.nil_append,List.append_nil];refine⟨hB,ah (vS _) ?_⟩;simp only[↓aX,mX,seval,bad _ hl,↓cX,norm,bP]
  by_cases k9:kd=9
  ·rw[if_pos k9] at lV;simp only[↓aX,mX,seval,show(kd==7)=false by simp[k7],show(kd==9)=true by simp[k9],eg,j5,IV.cells];refine ah (hI a.2.1 ajK) ?_;rcases eT 61 a.2.1 with⟨h1,_,_⟩|⟨m,h1,h2,_,_⟩
   ·have hc:(a6 61 a.2.1).2.2=false:=(by simp[a6,h1]);have hl:bM s=(qm,[],1):=(by rw[lV,hc];rfl);simp only[↓aX,mX,seval,h1,show((-1:Int)<0)=True by decide,decide_true];simp only[↓aX,mX,seval,aU,bD,List.nil_append,List.append_nil];refine⟨hB,ah (vS 1) ?_⟩;simp only[↓aX,mX,seval,bad 1 hl,↓cX,norm,bP]
   have hc:a6 61 a.2.1=(a.2.1.take m,a.2.1.drop (m+1),true):=(by simp[a6,h1]);rw[hc] at lV;simp only[if_true] at lV;have Ys:IntKind.i64.wrap (((m:Nat):Int)+1)=((m+1:Nat):Int):=wrap64 ajK ajK;simp only[↓aX,mX,seval,h1,show decide ((m:Int)<0)=false by simp,eg,j5,IV.cells,iz,yI,Int.natCast_nonneg,Int.toNat_natCast,true_and,show m<=a.2.1.length by omega,List.drop_zero,Ys,show m+1<=a.2.1.length by omega,List.take_length];refine ah (hT (a.2.1.drop (m+1)) (by rw[List.length_drop];omega)) ?_;cases he:(ep (a.2.1.drop (m+1))).2==0 with
   |true=>
    have ql:(ep (a.2.1.drop (m+1))).2=0:=akk;have hl:bM s=(⟨kd,0,[],a.2.1.take m,(ep (a.2.1.drop (m+1))).1⟩,l,0):=anK;simp only[↓aX,mX,seval,ql,z0,cA _ _ hl,↓cX,norm,bP,Op.av,aM,List.map_nil]
   |false=>
   have ql:¬(ep (a.2.1.drop (m+1))).2=0:=akk;have hl:bM s=(qm,[],(ep (a.2.1.drop (m+1))).2):=anL;simp only[↓aX,mX,seval,show((ep (a.2.1.drop (m+1))).2 !=0)=true by simpa using ql,aU,bD,List.nil_append,List.append_nil];refine⟨hB,ah (vS _) ?_⟩;simp only[↓aX,mX,seval,bad _ hl,↓cX,norm,bP]
  rw[if_neg k9,if_neg k7,if_neg k5] at lV;simp only[↓aX,mX,seval,show(kd==7)=false by simp[k7],show(kd==9)=false by simp[k9],eg,j5,IV.cells];refine ah (hC a.2.1 ajK) ?_;cases he:(eC a.2.1).2==0 with
  |true=>
   have ql:(eC a.2.1).2=0:=akk;have hl:bM s=(⟨kd,0,(eC a.2.1).1,[],[]⟩,l,0):=anK;simp only[↓aX,mX,seval,ql,z0,cA _ _ hl,↓cX,norm,bP,Op.av,aM,List.map_nil]
  |false=>
  have ql:¬(eC a.2.1).2=0:=akk
  have hl:bM s=(qm,[],(eC a.2.1).2):=anL
  simp only[↓aX,mX,seval,show((eC a.2.1).2 !=0)=true by simpa using ql,aU,bD,List.nil_append,List.append_nil];refine⟨hB,ah (vS _) ?_⟩;simp only[↓aX,mX,seval,bad _ hl,↓cX,norm,bP]
end

def tL:Tree:= .mk false [100,111,99] [] [tA]
section
variable {P:Program} {G:Nat->Option (List IV)} [KN P G]
end
end Go.Am
