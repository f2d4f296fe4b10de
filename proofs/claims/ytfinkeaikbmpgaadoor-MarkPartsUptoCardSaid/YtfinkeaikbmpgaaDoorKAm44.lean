import Derived.Test.YtfinkeaikbmpgaaDoorKAm40
import Derived.Test.YtfinkeaikbmpgaaDoorKT26
import Derived.Test.YtfinkeaikbmpgaaDoorKD2
import Derived.Test.YtfinkeaikbmpgaaDoorKT150
import Derived.Laws.Externs
import Derived.Test.YtfinkeaikbmpgaaDoorKT1
import Derived.Test.YtfinkeaikbmpgaaDoorKAm24
import Derived.Test.YtfinkeaikbmpgaaDoorKT64
import Derived.Test.YtfinkeaikbmpgaaDoorKT21
import Derived.Test.YtfinkeaikbmpgaaDoorKT61
set_option linter.unusedSimpArgs false
set_option linter.unusedVariables false
set_option linter.unnecessarySimpa false
set_option linter.defProp false
/- THE ABSTRACT MACHINE, part 44: loops over rows of any shape. -/
namespace Go.Am
open Go Go.RowKit
open Classical in
noncomputable def PM (Nk lab:Nat→Lb) (R:uR) (m:List (Lb×Lb)):Lb→Lb:=fun q=>
 if h:∃p,R.ok p∧Nk p=q then lab (Classical.choose h) else dn m q
def On {Nk lab:Nat→Lb} {R:uR} {m:List (Lb×Lb)} (hi:∀p q,R.ok p→R.ok q→Nk p=Nk q→p=q) {p:Nat} (hp:R.ok p):PM Nk lab R m (Nk p)=lab p:=by
 have h:∃p',R.ok p'∧Nk p'=Nk p:=⟨p,hp,rfl⟩;have hc:=X9 h;unfold PM;rw[XM h,hi _ _ hc.1 hp hc.2]
def OE {Nk lab:Nat→Lb} {R:uR} {m:List (Lb×Lb)} {q:Lb} (h:∀p,R.ok p→Nk p≠q):PM Nk lab R m q=dn m q:=by
 unfold PM;rw[dif_neg (by rintro⟨p,h1,h2⟩;exact h p h1 h2)]
structure WH (Nk:Nat→Lb) (R:uR) (ls:List Lb) (u:Lb→Bool) (ps:List (Nat×AV)) (rs:List (Lb×Row)) (env:Env) (H:Hp) (lab:Nat→Lb) (m:List (Lb×Lb)):Prop where
 at':Ed lab R H
 nf:∀l:Lb,l.entry=true→H l≠ .unused→(∃p,R.ok p∧Nk p=l)∨l∈ls∨u l=true
 e:k_ (PM Nk lab R m) env ps
 r:∀q∈rs,H (dn m q.1)= .live (dO (PM Nk lab R m) q.2)
 inj:(ls.map (dn m)).Nodup
 ap:∀l∈ls,∀p,R.ok p→lab p≠dn m l
 fr:∀l∈ls,(l.fresh=true→(dn m l).fresh=true)∧(l.entry=true→dn m l=l)
 fp:∀p,R.ok p→((Nk p).fresh=true→(lab p).fresh=true)∧((Nk p).entry=true→lab p=Nk p)
def WH.wk {Nk:Nat→Lb} {R:uR} {ls:List Lb} {u:Lb→Bool} {ps:List (Nat×AV)} {rs:List (Lb×Row)} {env:Env} {H:Hp} {lab:Nat→Lb} {m:List (Lb×Lb)} (h:WH Nk R ls u ps rs env H lab m)
  (hi:∀p q,R.ok p→R.ok q→Nk p=Nk q→p=q) (lr:rs.map Prod.fst=ls) (hC:∀l∈ls,∀p,R.ok p→Nk p≠l) (hp:∀l∈ah (ps.map Prod.snd),l∈ls∨∃p,R.ok p∧Nk p=l)
  (hr:∀q∈rs,∀cs∈q.2.els,∀l∈ah cs,l∈ls∨∃p,R.ok p∧Nk p=l):Wk (PM Nk lab R m) env H (o9 ps) (Lw Nk R (ie u rs)):=by
 have sw:∀l,live (Lw Nk R (ie u rs)) l→(∃p,R.ok p∧Nk p=l)∨((∀p,R.ok p→Nk p≠l)∧l∈ls):=by
  rintro l ⟨r,hl⟩;rcases PF hi hl with⟨p,h1,h2,_⟩|⟨h1,h2⟩
  ·exact .inl ⟨p,h1,h2⟩
  exact .inr ⟨h1,by rw[←lr];exact VC.2 ⟨_,fy (cL.1 h2),rfl⟩⟩
 have Tz:∀l,(l∈ls∨∃p,R.ok p∧Nk p=l)→Lw Nk R (ie u rs) l≠ .unused:=by
  intro l hl;by_cases e:∃p,R.ok p∧Nk p=l
  ·obtain⟨p,h1,rfl⟩:=e;obtain⟨r,hr⟩:=(Ed.R6 hi (ie u rs)).live h1;rw[hr];simp
  rw[Qa _ fun p h1 h2=>e ⟨p,h1,h2⟩];rcases hl with hl|hl
  ·exact jb (.inl (by rw[lr];exact hl))
  exact absurd hl e
 refine⟨h.e.we,?_,?_,mu fun l hl=>Tz l (hp l hl),?_,?_,?_⟩
 ·intro l r hl;rcases PF hi hl with⟨p,h1,rfl,h2⟩|⟨h1,h2⟩
  ·rw[On hi h1];have:=R.nat Nk (PM Nk lab R m) p;have e:R.row (fun i=>PM Nk lab R m (Nk i)) p=R.row lab p:=by
    have h0:=R.nat Lb.par (S1 (fun i=>PM Nk lab R m (Nk i))) p;have Ur:=R.nat Lb.par (S1 lab) p;simp only[S1] at h0 Ur;rw[h0,Ur];cases pT:R.row Lb.par p with
    |none=>rfl
    |some r0=>
    simp only[Vf,di,dO,Row.mk.injEq,V9];refine VO fun cs bV=>NZ cs fun z hz=> ?_;obtain⟨p',h6,rfl⟩:=R.an Lb.par p r0 pT cs bV z hz;simp only[S1];exact On hi ((R.Ec _ _).1 h6)
   rw[e,h2] at this;exact h.at'.row p _ this
  rw[OE h1];exact h.r _ (fy (cL.1 h2))
 ·intro l l' g1 g2 e;rcases sw l g1 with⟨p,h1,rfl⟩|⟨h1,wL⟩<;>rcases sw l' g2 with⟨p',h2,rfl⟩|⟨h2,H6⟩
  ·rw[On hi h1,On hi h2] at e;rw[h.at'.inj p p' h1 h2 e]
  ·rw[On hi h1,OE h2] at e;exact absurd e (h.ap _ H6 p h1)
  ·rw[OE h1,On hi h2] at e;exact absurd e.symm (h.ap _ wL p' h2)
  rw[OE h1,OE h2] at e;exact gi h.inj l wL l' H6 e
 ·intro l r hl cs bV q hq;rcases PF hi hl with⟨p,h1,rfl,h2⟩|⟨h1,h2⟩
  ·obtain⟨p',h6,rfl⟩:=R.an Nk p r h2 cs bV q hq;exact Tz _ (.inr ⟨p',(R.Ec _ _).1 h6,rfl⟩)
  exact Tz q (hr _ (fy (cL.1 h2)) cs bV q hq)
 ·intro l hf;refine⟨fun hu=> ?_,fun hl=> ?_⟩
  ·rcases h.nf l hf hu with⟨p,h1,h2⟩|h1|h1
   ·exact Tz l (.inr ⟨p,h1,h2⟩)
   ·exact Tz l (.inl h1)
   by_cases e:∃p,R.ok p∧Nk p=l
   ·exact Tz l (.inr e)
   rw[Qa _ fun p h1 h2=>e ⟨p,h1,h2⟩];exact jb (.inr h1)
  rcases sw l hl with⟨p,h1,rfl⟩|⟨h1,h2⟩
  ·rw[On hi h1];exact(h.fp p h1).2 hf
  rw[OE h1];exact(h.fr l h2).2 hf
 intro l hl hf;rcases sw l hl with⟨p,h1,rfl⟩|⟨h1,h2⟩
 ·rw[On hi h1];exact(h.fp p h1).1 hf
 rw[OE h1];exact(h.fr l h2).1 hf
def SJ {σ:Type} {S:St} {Q:gI} {c:AC} {k:List It} {env:Env} {H:Hp} (Nk:Nat→Lb) (R:σ→uR) (ls:List Lb) (u:Lb→Bool) (ps:σ→List (Nat×AV)) (rs:σ→List (Lb×Row)) (μ:σ→Nat) (s0:σ)
  (hi:∀s p q,(R s).ok p→(R s).ok q→Nk p=Nk q→p=q) (lr:∀s,(rs s).map Prod.fst=ls) (hC:∀s,∀l∈ls,∀p,(R s).ok p→Nk p≠l) (hp:∀s,∀l∈ah ((ps s).map Prod.snd),l∈ls∨∃p,(R s).ok p∧Nk p=l)
  (hr:∀s,∀q∈rs s,∀cs∈q.2.els,∀l∈ah cs,l∈ls∨∃p,(R s).ok p∧Nk p=l) (h0:∃lab m,WH Nk (R s0) ls u (ps s0) (rs s0) env H lab m)
  (round:∀s,go S (kM S Q k (fun env H s=>∃lab m,WH Nk (R s) ls u (ps s) (rs s) env H lab m) μ (μ s)) [.code c] (o9 (ps s)) (Lw Nk (R s) (ie u (rs s)))):lI S Q c k env H:=
 j7 (fun s=>o9 (ps s)) (fun s=>Lw Nk (R s) (ie u (rs s))) _ (fun _ _ s ⟨lab,m,h⟩=>⟨_,h.wk (hi s) (lr s) (hC s) (hp s) (hr s)⟩) μ s0 h0 round
end Go.Am

namespace Go.Am
open Go Go.RowKit
def Pp {S:St} {env:Env} {H:Hp} {q N:Lb} {sq i j sz:Nat} {els:List (List AV)} {cs:List AV} (g1:H q= .live ⟨sq,els⟩) (g0:els[i]?=some cs) (g2:cs[j]?=some .nil0) (g3:H N= .unused) (g4:0<sz) :
  nQ S env H env (bD (bD H N (.live ⟨sz,[]⟩)) q (.live ⟨sq,els.set i (cs.set j (.sl N sz 0 0))⟩)):=by
 intro K β a w IJ hS hr;have hk:=hr.OI N g3 (r:=⟨sz,[]⟩) (Below.refl _ _) none (by simp) (by simp) ⟨g4,by simp,by simp⟩;have TF:q≠N:=by rintro rfl;rw[g1] at g3;cases g3
 have hq:bD H N (.live ⟨sz,[]⟩) q= .live ⟨sq,els⟩:=by rw[aq _ _ TF];exact g1
 have hlen:=(hr.rows q _ g1).2.1;have TG:bD β N none q=β q:=aq _ _ TF;have oI:i<els.length:=(U9.1 g0).1;cases hb:β q with
 |none=>
  have:=(hr.rows q _ g1).2.2;simp only[hb] at this;rw[this] at oI;simp at oI
 |some g=>
 obtain⟨cur,e0,cap,k1,k2,k3,k4,k5⟩:=(hk.rows q _ hq).block (TG.trans hb);have zk:j<cs.length:=(U9.1 g2).1;have vf:=hk.setRow q (r':=⟨sq,els.set i (cs.set j (.sl N sz 0 0))⟩) (cur':=cur) (cap:=cap) hq (TG.trans hb) k1 rfl rfl k2 k3 (by simpa using k4) (by
   intro ds ua;rcases Wh ua with h|rfl
   ·exact hlen ds h
   simpa using hlen cs (U_ g0))
  (by
   intro ds ua p hp;rcases Wh ua with h|rfl
   ·exact hk.cH q _ hq ds h p hp
   obtain⟨y,hy,J'⟩:=Px hp;rcases Wh hy with hy|rfl
   ·obtain⟨m,hm⟩:=VI hy;exact hk.cH q _ hq cs (U_ g0) p (cW _ _ _ hm p J')
   simp only[AV.an,Vm] at J';subst J';simp)
  (by
   intro i' j' ds x0 ed iX;by_cases ei:i'=i
   ·subst ei;simp only at ed;rw[WW oI] at ed;cases ed;by_cases e:j'=j
    ·subst e;rw[WW zk] at iX;cases iX;obtain⟨v,q1,q2⟩:=k5 i' j' cs _ g0 g2;simp only[RV] at q2;obtain⟨ad,rfl⟩:=q2;refine⟨_,q1,?_⟩;simp only[RV];exact⟨ad,0,rfl,Va _,by simp[maxLen],by simp,fun _=> .inl rfl⟩
    rw[WK (V7 e)] at iX;exact k5 i' j' cs x0 g0 iX
   simp only at ed;rw[WK (V7 ei)] at ed;exact k5 i' j' ds x0 ed iX)
 have j0:w.setRow g cur=w:=setRow_self w g cur e0 (0,0) k1;rw[j0] at vf;exact⟨_,vf⟩

def fl (p:Nat):Lb:= .nest (.loc 900) p 3
def O2 {p q:Nat} (h:fl p=fl q):p=q:=by simpa[fl] using h
def N3 (p n:Nat):(fl p= .loc n)=False:=by simp[fl]
def N4 (p n:Nat):(Lb.loc n=fl p)=False:=by simp[fl]
def NL (p q:Nat):(fl p=fl q)=(p=q):=propext ⟨O2,fun h=>by rw[h]⟩
def N5 (p d:Nat):(fl p).app d= .loc d:=rfl
def PN (lab:Nat→Lb) (i:Nat) (x:Tree):List AV:=[.bool false,.str x.s,if i=0 then .nil0 else .list (cD x.attrs),.sl (lab (1+i)) 4 0 x.kids.length]
def Qf (o:List Tree) (lab:Nat→Lb) (p:Nat):Option Row:=
 if p=0 then some ⟨4,o.mapIdx (PN lab)⟩ else(o[p - 1]?).map fun x=>⟨4,aB (dq x.kids)⟩
def P' {o:List Tree} {lab:Nat→Lb} {p:Nat}:(Qf o lab p).isSome=true↔p≤o.length:=by
 unfold Qf;by_cases h:p=0
 ·simp[h]
 simp[h];omega
def S5 (o:List Tree):uR where
 row:=Qf o
 nat lab ρ p:=by
  unfold Qf;by_cases h:p=0
  ·simp only[h,Vp,Vf,di,dO,Row.mk.injEq,V9];refine V' fun i=> ?_;simp only[VL,V_,Option.map_map];congr 1;funext x;by_cases hi:i=0<;>simp[PN,bu,bJ,hi]
  simp only[h,Vk];cases o[p - 1]? with
  |none=>rfl
  |some x=>simp[dy]
 an lab p r hr cs bV q hq:=by
  unfold Qf at hr;by_cases h:p=0
  ·simp only[h,Vp,di] at hr;subst hr;simp only at bV;obtain⟨i,hi⟩:=VI bV;rw[V_] at hi;obtain⟨x,hx,rfl⟩:=oA.1 hi;have bI:=(U9.1 hx).1;have:q=lab (1+i):=by
    by_cases h0:i=0<;>simpa[PN,ah,AV.an,h0] using hq
   exact⟨1+i,P'.2 (by omega),this⟩
  simp only[h,Vk] at hr;obtain⟨x,_,rfl⟩:=oA.1 hr;rw[bU bV] at hq;simp at hq
def PO {o:List Tree} {p:Nat}:(S5 o).ok p↔p≤o.length:=P'
abbrev NT (lab:Nat→Lb) (o:List Tree) (H:Hp):Prop:=Ed lab (S5 o) H
section
variable {lab:Nat→Lb} {o:List Tree} {H H2:Hp}
def NT.TO (h:NT lab o H):H (lab 0)= .live ⟨4,o.mapIdx (PN lab)⟩:=h.row 0 _ rfl
def NT.k (h:NT lab o H) {i:Nat} {x:Tree} (hx:o[i]?=some x):H (lab (1+i))= .live ⟨4,aB (dq x.kids)⟩:=h.row (1+i) _ (by
 show Qf o lab (1+i)=_;unfold Qf;rw[U8 (by omega),show 1+i - 1=i by omega,hx];rfl)
def NT.mk' (hi:∀p q,p≤o.length→q≤o.length→lab p=lab q→p=q) (h0:H (lab 0)= .live ⟨4,o.mapIdx (PN lab)⟩) (h1:∀i x,o[i]?=some x→H (lab (1+i))= .live ⟨4,aB (dq x.kids)⟩):NT lab o H:=by
 refine⟨fun p r hp=> ?_,fun p q hp hq=>hi p q (PO.1 hp) (PO.1 hq)⟩;change Qf o lab p=some r at hp;unfold Qf at hp;by_cases h:p=0
 ·subst h;simp only[Vp,di] at hp;subst hp;exact h0
 simp only[h,Vk] at hp;obtain⟨x,hx,rfl⟩:=oA.1 hp;have:=h1 _ x hx
 rwa[show 1+(p - 1)=p by omega] at this
def OH (i:Nat) (N:Lb) (p:Nat):Lb:=if p=1+i then N else fl p
def Qg {i:Nat} {x:Tree} (hx:o[i]?=some x):(o.mapIdx (PN lab))[i]?=some (PN lab i x):=by rw[V_,hx];rfl
def NT.set (h:NT fl o H) {i:Nat} {x y:Tree} {N:Lb} (hx:o[i]?=some x) (hs:y.s=x.s) (ha:y.attrs=x.attrs) (hN:∀p,fl p≠N)
  (h0:H2 (fl 0)= .live ⟨4,(o.mapIdx (PN fl)).set i (PN (OH i N) i y)⟩) (h1:H2 N= .live ⟨4,aB (dq y.kids)⟩) (h2:∀p,p≠0→p≠1+i→H2 (fl p)=H (fl p)):NT (OH i N) (o.set i y) H2:=by
 have bI:=(U9.1 hx).1;refine NT.mk' ?_ ?_ ?_
 ·intro p q hp hq e;unfold OH at e;by_cases e1:p=1+i<;>by_cases e2:q=1+i<;>simp only[e1,e2,Vp,Vk] at e
  ·rw[e1,e2]
  ·exact absurd e.symm (hN q)
  ·exact absurd e (hN p)
  exact O2 e
 ·have:OH i N 0=fl 0:=by unfold OH;rw[U8 (by omega)]
  rw[this,h0];congr 2;refine V' fun j=> ?_;simp only[V_,WN,XQ];by_cases e:i=j
  ·subst e;simp[bI]
  simp only[e,Vk];congr 1;funext z;unfold PN OH;rw[U8 (show ¬1+j=1+i by omega)]
 intro j z hz;rw[WN] at hz;by_cases e:i=j
 ·subst e;simp only[bI,Vp,di] at hz;subst hz;unfold OH;rw[Vd rfl];exact h1
 simp only[e,Vk] at hz;have:OH i N (1+j)=fl (1+j):=by unfold OH;rw[U8 (by omega)]
 rw[this,h2 _ (by omega) (by omega)];exact h.k hz
def OG (n:Nat) (A N:Lb) (p:Nat):Lb:=if p=0 then A else if p=1+n then N else fl p
def NT.push (h:NT fl o H) {y:Tree} {A N:Lb} (UO:o≠[]) (hk:y.kids=[]) (hA:∀p,fl p≠A) (hN:∀p,fl p≠N) (Us:A≠N)
  (h0:H2 A= .live ⟨4,o.mapIdx (PN fl)++[[.bool false,.str y.s,.list (cD y.attrs),.sl N 4 0 0]]⟩) (h1:H2 N= .live ⟨4,[]⟩) (h2:∀p,p≠0→p≤o.length→H2 (fl p)=H (fl p)):NT (OG o.length A N) (o++[y]) H2:=by
 have xg:=Wz.2 UO;have e0:OG o.length A N 0=A:=rfl;have eN:OG o.length A N (1+o.length)=N:=by unfold OG;rw[U8 (by omega),Vd rfl]
 have eO:∀j,j<o.length→OG o.length A N (1+j)=fl (1+j):=fun j hj=>by unfold OG;rw[U8 (by omega),U8 (by omega)]
 refine NT.mk' ?_ ?_ ?_
 ·intro p q hp hq e;have hc:∀p,p=0∨p=1+o.length∨(p≠0∧p≠1+o.length):=fun p=>by omega
  have eF:∀p,p≠0→p≠1+o.length→OG o.length A N p=fl p:=fun p a b=>by unfold OG;rw[U8 a,U8 b]
  rcases hc p with rfl|rfl|⟨a1,a2⟩<;>rcases hc q with rfl|rfl|⟨b1,b2⟩
  ·rfl
  ·rw[e0,eN] at e;exact absurd e Us
  ·rw[e0,eF q b1 b2] at e;exact absurd e.symm (hA q)
  ·rw[e0,eN] at e;exact absurd e.symm Us
  ·rfl
  ·rw[eN,eF q b1 b2] at e;exact absurd e.symm (hN q)
  ·rw[e0,eF p a1 a2] at e;exact absurd e (hA p)
  ·rw[eN,eF p a1 a2] at e;exact absurd e (hN p)
  rw[eF p a1 a2,eF q b1 b2] at e;exact O2 e
 ·rw[e0,h0];congr 2;rw[Yq];congr 1
  ·refine V' fun j=> ?_;simp only[V_];cases hz:o[j]? with
   |none=>rfl
   |some z=>
   have:=(U9.1 hz).1;simp only[Vf,PN,eO j this]
  simp only[List.mapIdx_cons,List.mapIdx_nil,VT,PN,eN,hk,VR];rw[U8 (by omega)]
 intro j z hz;by_cases e:j<o.length
 ·rw[VF e] at hz;rw[eO j e,h2 _ (by omega) (by omega)];exact h.k hz
 have hj:j=o.length:=by
  have:=(U9.1 hz).1;simp at this;omega
 subst hj;rw[Vz (Va _),WJ] at hz;simp only[VQ,di] at hz;subst hz;rw[eN,h1,hk];rfl
def Q_ (l:List Bs) (i n:Nat) (L:Lb):List (Nat×AV):=[(6,.sl L 4 0 n),(25,.list (l.map IV.str)),(26,.int .i64 l.length),(27,.int .i64 i)]
def NT.wh (h:NT lab o H) {env:Env} {l:List Bs} {i:Nat} (he:∀l:Lb,l.entry=true→H l= .unused) (hf:∀p,p≤o.length→(lab p).fresh=true) (h6:env 6= .sl (lab 0) 4 0 o.length) (Pr:env 25= .list (l.map IV.str)) (TP:env 26= .int .i64 l.length) (TQ:env 27= .int .i64 i) :
  ∃lab m,WH fl (S5 o) [] (fun _=>false) (Q_ l i o.length (fl 0)) [] env H lab m:=by
 refine⟨lab,[],h,fun q hq hu=>absurd (he q hq) hu,?_,fun q hq=>by simp at hq,by simp,fun q hq=>by simp at hq,fun q hq=>by simp at hq,fun p hp=>⟨fun _=>hf p (PO.1 hp),fun h=>by simp[fl,Lb.entry] at h⟩⟩;have r0:PM fl lab (S5 o) [] (fl 0)=lab 0:=On (fun p1 p2 _ _ e=>O2 e) (PO.2 (by omega));simp[Q_,k_,bJ,h6,Pr,TP,TQ,r0]
end
def Ue (m:Bs):Prop:=m≠[]∧(m.head?=some 60→∃a,m=60::(a++[62]))
def RQ:∀(n:Nat) (s:Bs) (l:List Bs),s.length≤n→M8 s=some l→(∀m∈l,Ue m)∧(∀m∈l,m.length≤s.length)∧l.length≤s.length:=by
 intro n;induction n with
 |zero=>
  intro s l hn h;have:s=[]:=Vv.1 (by omega);subst this;rw[Ob] at h;cases h;simp
 |succ n ih=>
 intro s l hn h;cases s with
 |nil=>rw[Ob] at h;cases h;simp
 |cons c q=>
 have step:∀(p b:Bs) (l2:List Bs),Ue p→p.length+b.length=q.length+1→M8 b=some l2→l=p::l2→(∀m∈l,Ue m)∧(∀m∈l,m.length≤(c::q).length)∧l.length≤(c::q).length:=by
  intro p b l2 hp hl h2 e;have zQ:=Wz.2 hp.1;obtain⟨g1,g2,g3⟩:=ih b l2 (by simp at hn;omega) h2;subst e;refine⟨fun m hm=> ?_,fun m hm=> ?_,by simp;omega⟩
  ·rcases Vg.1 hm with rfl|hm
   ·exact hp
   exact g1 m hm
  rcases Vg.1 hm with rfl|hm
  ·simp;omega
  have:=g2 m hm;simp;omega
 by_cases tv:c=60
 ·subst tv;rw[OL] at h;cases hc:Nh [62] (60::q) with
  |none=>rw[hc] at h;cases h
  |some x=>
  obtain⟨a,b⟩:=x;rw[hc] at h;obtain⟨l2,h2,e⟩:=oA.1 h;obtain⟨e1,ha⟩:=Nn hc;have hl:=VW List.length e1;cases a with
  |nil=>simp at e1
  |cons a0 a=>
  simp only[Vb,Vj] at e1;obtain⟨rfl,e1⟩:=e1;exact step _ b l2 ⟨by simp,fun _=>⟨a,rfl⟩⟩ (by simp at hl ⊢;omega) h2 e.symm
 rw[OM tv] at h;cases hc:Nh [60] (c::q) with
 |none=>
  rw[hc] at h;cases h;exact step _ [] [] ⟨by simp,fun h=>absurd (by simpa using h) tv⟩ (by simp) Ob rfl
 |some x=>
 obtain⟨a,b⟩:=x;rw[hc] at h;obtain⟨l2,h2,e⟩:=oA.1 h;obtain⟨e1,ha⟩:=Nn hc;have hl:=VW List.length e1;cases a with
 |nil=>simp at e1;exact absurd e1.1 tv
 |cons a0 a=>
 simp only[Vb,Vj] at e1;obtain⟨rfl,e1⟩:=e1;refine step _ (60::b) l2 ⟨by simp,fun h=>absurd (by simpa using h) tv⟩ (by simp at hl ⊢;omega) h2 e.symm
def NH (s:Bs):AV:=match(M8 s).bind fun l=>l.foldlM Ni [N0] with
 |some o=> .gf [.list (dq ((o.getLast?.map Tree.kids).getD [])),.bool (o.length==1)]
 |none=> .gf [.nil0,.bool false]
def O' {s:Bs} {ks:List Tree} (h:Oe s=some ks):NH s= .gf [.list (dq ks),.bool true]:=by
 unfold Oe runs at h;unfold NH;cases hp:M8 s with
 |none=>rw[hp] at h;cases h
 |some l=>
 rw[hp] at h;simp only[U7] at h ⊢;cases hf:l.foldlM Ni [N0] with
 |none=>rw[hf] at h;cases h
 |some o=>
 rw[hf] at h;simp only[U7] at h ⊢;unfold Sa at h;split at h
 ·cases h;rfl
 cases h
def O_ {s:Bs} (h:Oe s=none):∃x:AV,(x= .nil0∨∃ks,x= .list (dq ks))∧NH s= .gf [x,.bool false]:=by
 unfold Oe runs at h;unfold NH;cases hp:M8 s with
 |none=>exact⟨.nil0,.inl rfl,rfl⟩
 |some l=>
 rw[hp] at h;simp only[U7] at h ⊢;cases hf:l.foldlM Ni [N0] with
 |none=>exact⟨.nil0,.inl rfl,rfl⟩
 |some o=>
 rw[hf] at h;simp only[U7] at h ⊢;have:(o.length==1)=false:=by
  unfold Sa at h;split at h
  ·cases h
  rename_i fO;rw[VX];intro hl;obtain⟨b,rfl⟩:=List.length_eq_one_iff.1 hl;exact fO b rfl
 exact⟨_,.inr ⟨(o.getLast?.map Tree.kids).getD [],rfl⟩,by rw[this]⟩

structure Op where
 kind:Int
 target:Int
 content:List Tree
 name:Bs
 s:Bs
def Op.cs (x:Op):List IV:=[.int .i64 x.kind,.int .i64 x.target,.list (dq x.content),.str x.name,.str x.s]
def Op.iv (x:Op):IV:= .agg x.cs
def Op.av (x:Op):AV:= .agg [.int .i64 x.kind,.int .i64 x.target,.list (dq x.content),.str x.name,.str x.s]
def Op.cJ (x:Op):x.iv.cells=x.cs:=rfl
def Op.uy (x:Op):∀z∈x.cs,∀cs,z≠ .agg cs:=by
 intro z hz cs;simp only[Op.cs,Vg,VN,Vy] at hz;rcases hz with rfl|rfl|rfl|rfl|rfl<;>simp

def p2 (a b:Nat):Nat:=2^a*(2*b+1)
def Lb.enc:Lb→Nat
 | .loc n=>p2 0 n
 | .par n=>p2 1 n
 | .gen n=>p2 2 n
 | .nest l i j=>p2 3 (p2 l.enc (p2 i j))

structure Bn where
 n0:Nat
 nodes:List Node
 fs:List Int
 as:List Int
def Bn.at (b:Bn) (i:Nat):List Attr:=match b.nodes[i]? with|some x=>x.attrs|none=>[]
def Bn.kd (b:Bn) (i:Nat):List Int:=match b.nodes[i]? with|some x=>x.kids|none=>[]
def Bn.SK {b:Bn} {i:Nat} {x:Node} (h:b.nodes[i]?=some x):b.at i=x.attrs:=by simp[Bn.at,h]
def Bn.Ru {b:Bn} {i:Nat} {x:Node} (h:b.nodes[i]?=some x):b.kd i=x.kids:=by simp[Bn.kd,h]
def NI (n0:Nat) (lab:Nat→Lb) (i:Nat) (x:Node):List AV:=
 [.bool x.text,.str x.s,if i<n0 then .sl (lab (4+2*i)) 2 0 x.attrs.length else .list (cD x.attrs),.int .i64 x.parent,if i<n0 then .sl (lab (5+2*i)) 1 0 x.kids.length else .list (x.kids.map xX)]
def Ps (b:Bn) (lab:Nat→Lb) (p:Nat):Option Row:=
 if p=0 then some ⟨3,[[.sl (lab 1) 5 0 b.nodes.length,.sl (lab 2) 1 0 b.fs.length,.sl (lab 3) 1 0 b.as.length]]⟩
 else if p=1 then some ⟨5,b.nodes.mapIdx (NI b.n0 lab)⟩
 else if p=2 then some ⟨1,aB (b.fs.map xX)⟩
 else if p=3 then some ⟨1,aB (b.as.map xX)⟩
 else if p<4+2*b.n0 then(if p%2=0 then some ⟨2,aB (cD (b.at ((p - 4)/2)))⟩ else some ⟨1,aB ((b.kd ((p - 5)/2)).map xX)⟩)
 else none
def RR (n0:Nat) (lab:Nat→Lb) (ρ:Lb→Lb) (i:Nat) (x:Node):bu ρ (NI n0 lab i x)=NI n0 (fun i=>ρ (lab i)) i x:=by
 unfold NI;by_cases h:i<n0<;>simp[bu,bJ,h]
def RS {n0:Nat} {lab:Nat→Lb} {i:Nat} {x:Node} {q:Lb} (h:q∈ah (NI n0 lab i x)):i<n0∧(q=lab (4+2*i)∨q=lab (5+2*i)):=by
 unfold NI at h;by_cases hi:i<n0
 ·simpa[ah,AV.an,hi] using h
 simp[ah,AV.an,hi] at h
def Od {b:Bn} {lab:Nat→Lb} {p:Nat}:(Ps b lab p).isSome=true↔p<4+2*b.n0:=by
 unfold Ps;by_cases h0:p=0
 ·simp[h0];omega
 by_cases h1:p=1
 ·simp[h1];omega
 by_cases h2:p=2
 ·simp[h2];omega
 by_cases h3:p=3
 ·simp[h3];omega
 by_cases h4:p<4+2*b.n0
 ·by_cases h5:p%2=0<;>simp[h0,h1,h2,h3,h4,h5]
 simp[h0,h1,h2,h3,h4]
def Ut (b:Bn):uR where
 row:=Ps b
 nat lab ρ p:=by
  unfold Ps;by_cases h0:p=0
  ·simp[h0,dO,bu,bJ]
  by_cases h1:p=1
  ·simp only[h1,U8 (show ¬(1:Nat)=0 by decide),Vp,Vf,di,dO,Row.mk.injEq,V9];refine V' fun i=> ?_;simp only[VL,V_,Option.map_map];congr 1;funext x;exact(RR _ _ _ _ _).symm
  by_cases h2:p=2
  ·simp[h2,dy]
  by_cases h3:p=3
  ·simp[h3,dy]
  by_cases h4:p<4+2*b.n0
  ·by_cases h5:p%2=0<;>simp[h0,h1,h2,h3,h4,h5,dy]
  simp[h0,h1,h2,h3,h4]
 an lab p r hr cs bV q hq:=by
  unfold Ps at hr;by_cases h0:p=0
  ·simp[h0] at hr;subst hr;simp only[Vm] at bV;subst bV;simp[ah,AV.an] at hq;rcases hq with rfl|rfl|rfl
   ·exact⟨1,Od.2 (by omega),rfl⟩
   ·exact⟨2,Od.2 (by omega),rfl⟩
   exact⟨3,Od.2 (by omega),rfl⟩
  by_cases h1:p=1
  ·simp[h1] at hr;subst hr;simp only at bV;obtain⟨i,hi⟩:=VI bV;rw[V_] at hi;obtain⟨x,_,rfl⟩:=oA.1 hi;obtain⟨h5,h6⟩:=RS hq;rcases h6 with rfl|rfl
   ·exact⟨4+2*i,Od.2 (by omega),rfl⟩
   exact⟨5+2*i,Od.2 (by omega),rfl⟩
  have key:∀(sz:Nat) (xs:List IV),r=⟨sz,aB xs⟩→False:=by
   rintro sz xs rfl;rw[bU bV] at hq;simp at hq
  exfalso;by_cases h2:p=2
  ·simp[h2] at hr;exact key _ _ hr.symm
  by_cases h3:p=3
  ·simp[h3] at hr;exact key _ _ hr.symm
  by_cases h4:p<4+2*b.n0
  ·by_cases h5:p%2=0
   ·simp[h0,h1,h2,h3,h4,h5] at hr;exact key _ _ hr.symm
   simp[h0,h1,h2,h3,h4,h5] at hr;exact key _ _ hr.symm
  simp[h0,h1,h2,h3,h4] at hr
def OO {b:Bn} {p:Nat}:(Ut b).ok p↔p<4+2*b.n0:=Od
def Pt {b:Bn} {lab:Nat→Lb} {i:Nat} (h:i<b.n0):Ps b lab (4+2*i)=some ⟨2,aB (cD (b.at i))⟩:=by
 unfold Ps;rw[U8 (by omega),U8 (by omega),U8 (by omega),U8 (by omega),Vd (by omega),Vd (by omega),show(4+2*i - 4)/2=i by omega]
def Pu {b:Bn} {lab:Nat→Lb} {i:Nat} (h:i<b.n0):Ps b lab (5+2*i)=some ⟨1,aB ((b.kd i).map xX)⟩:=by
 unfold Ps;rw[U8 (by omega),U8 (by omega),U8 (by omega),U8 (by omega),Vd (by omega),U8 (by omega),show(5+2*i - 5)/2=i by omega]
abbrev Oi (lab:Nat→Lb) (b:Bn) (H:Hp):Prop:=Ed lab (Ut b) H
section
variable {lab:Nat→Lb} {b:Bn} {H H2:Hp}
def Oi.s (h:Oi lab b H):H (lab 0)= .live ⟨3,[[.sl (lab 1) 5 0 b.nodes.length,.sl (lab 2) 1 0 b.fs.length,.sl (lab 3) 1 0 b.as.length]]⟩:=h.row 0 _ rfl
def Oi.n (h:Oi lab b H):H (lab 1)= .live ⟨5,b.nodes.mapIdx (NI b.n0 lab)⟩:=h.row 1 _ rfl
def Oi.f (h:Oi lab b H):H (lab 2)= .live ⟨1,aB (b.fs.map xX)⟩:=h.row 2 _ rfl
def Oi.a (h:Oi lab b H):H (lab 3)= .live ⟨1,aB (b.as.map xX)⟩:=h.row 3 _ rfl
def Oi.at' (h:Oi lab b H) {i:Nat} {x:Node} (hi:i<b.n0) (hx:b.nodes[i]?=some x):H (lab (4+2*i))= .live ⟨2,aB (cD x.attrs)⟩:=by
 have:=h.row _ _ (Pt hi)
 rwa[Bn.SK hx] at this
def Oi.kd (h:Oi lab b H) {i:Nat} {x:Node} (hi:i<b.n0) (hx:b.nodes[i]?=some x):H (lab (5+2*i))= .live ⟨1,aB (x.kids.map xX)⟩:=by
 have:=h.row _ _ (Pu hi)
 rwa[Bn.Ru hx] at this
def Oi.ne (h:Oi lab b H) {p q:Nat} (hp:p<4+2*b.n0) (hq:q<4+2*b.n0) (e:p≠q):lab p≠lab q:=fun e2=>e (h.inj p q (OO.2 hp) (OO.2 hq) e2)
def Bn.set (b:Bn) (i:Nat) (y:Node):Bn:={b with nodes:=b.nodes.set i y}
def Bn.put (b:Bn) (y:Node):Bn:={b with nodes:=b.nodes++[y]}
def Bn.TR (b:Bn) (i:Nat) (y:Node) (lab:Nat→Lb):(b.set i y).nodes.mapIdx (NI (b.set i y).n0 lab)=(b.nodes.mapIdx (NI b.n0 lab)).set i (NI b.n0 lab i y):=by
 refine V' fun j=> ?_;simp only[Bn.set,V_,WN,XQ];by_cases e:i=j
 ·subst e;by_cases hl:i<b.nodes.length<;>simp[hl]
 simp[e]
def Bn.TS (b:Bn) (y:Node) (lab:Nat→Lb):(b.put y).nodes.mapIdx (NI (b.put y).n0 lab)=b.nodes.mapIdx (NI b.n0 lab)++[NI b.n0 lab b.nodes.length y]:=by
 simp[Bn.put,Yq]
def Oi.mk' {lab:Nat→Lb} {b:Bn} {H:Hp} (hi:∀p q,p<4+2*b.n0→q<4+2*b.n0→lab p=lab q→p=q)
  (h0:H (lab 0)= .live ⟨3,[[.sl (lab 1) 5 0 b.nodes.length,.sl (lab 2) 1 0 b.fs.length,.sl (lab 3) 1 0 b.as.length]]⟩) (h1:H (lab 1)= .live ⟨5,b.nodes.mapIdx (NI b.n0 lab)⟩)
  (h2:H (lab 2)= .live ⟨1,aB (b.fs.map xX)⟩) (h3:H (lab 3)= .live ⟨1,aB (b.as.map xX)⟩)
  (h4:∀i,i<b.n0→H (lab (4+2*i))= .live ⟨2,aB (cD (b.at i))⟩) (h5:∀i,i<b.n0→H (lab (5+2*i))= .live ⟨1,aB ((b.kd i).map xX)⟩):Oi lab b H:=by
 refine⟨fun p r hp=> ?_,fun p q hp hq=>hi p q (OO.1 hp) (OO.1 hq)⟩;have bI:p<4+2*b.n0:=Od.1 (show(Ps b lab p).isSome=true by change Ps b lab p=some r at hp;rw[hp];rfl);change Ps b lab p=some r at hp;by_cases e0:p=0
 ·subst e0;cases hp;exact h0
 by_cases e1:p=1
 ·subst e1;cases hp;exact h1
 by_cases e2:p=2
 ·subst e2;cases hp;exact h2
 by_cases e3:p=3
 ·subst e3;cases hp;exact h3
 by_cases e:p%2=0
 ·obtain⟨i,rfl⟩:∃i,p=4+2*i:=⟨(p - 4)/2,by omega⟩;rw[Pt (by omega)] at hp;cases hp;exact h4 i (by omega)
 obtain⟨i,rfl⟩:∃i,p=5+2*i:=⟨(p - 5)/2,by omega⟩;rw[Pu (by omega)] at hp;cases hp;exact h5 i (by omega)
def Bn.Th (b:Bn) {i:Nat} {x y:Node} (hx:b.nodes[i]?=some x) (j:Nat):(b.set i y).at j=if j=i then y.attrs else b.at j:=by
 have hl:=(U9.1 hx).1;simp only[Bn.at,Bn.set,WN];by_cases e:i=j
 ·subst e;simp[hl]
 simp[e,V7 e]
def Bn.Ti (b:Bn) {i:Nat} {x y:Node} (hx:b.nodes[i]?=some x) (j:Nat):(b.set i y).kd j=if j=i then y.kids else b.kd j:=by
 have hl:=(U9.1 hx).1;simp only[Bn.kd,Bn.set,WN];by_cases e:i=j
 ·subst e;simp[hl]
 simp[e,V7 e]
def Oi.eh (h:Oi lab b H) {i:Nat} {x:Node} {ys:List Attr} {N:Lb} (hi:i<b.n0) (hx:b.nodes[i]?=some x) (hN:N=lab (4+2*i)∨∀p,p<4+2*b.n0→lab p≠N)
  (h1:H2 (lab 1)= .live ⟨5,(b.nodes.mapIdx (NI b.n0 lab)).set i [.bool x.text,.str x.s,.sl N 2 0 ys.length,.int .i64 x.parent,.sl (lab (5+2*i)) 1 0 x.kids.length]⟩)
  (h2:H2 N= .live ⟨2,aB (cD ys)⟩) (h3:∀q,q≠lab 1→q≠N→q≠lab (4+2*i)→H2 q=H q) :
  Oi (fun p=>if p=4+2*i then N else lab p) (b.set i {x with attrs:=ys}) H2:=by
 have fO:∀p,p<4+2*b.n0→p≠1→lab p≠lab 1:=fun p hp e=>h.ne hp (by omega) e;have Ry:∀p,p<4+2*b.n0→p≠4+2*i→lab p≠lab (4+2*i):=fun p hp e=>h.ne hp (by omega) e;have Ra:∀p,p<4+2*b.n0→p≠4+2*i→lab p≠N:=fun p hp e=>by
  rcases hN with rfl|hN
  ·exact Ry p hp e
  exact hN p hp
 have j0:∀p,p<4+2*b.n0→p≠1→p≠4+2*i→H2 (lab p)=H (lab p):=fun p hp e1 e2=>h3 _ (fO p hp e1) (Ra p hp e2) (Ry p hp e2);have hj:∀p,p≠4+2*i→(if p=4+2*i then N else lab p)=lab p:=fun p e=>U8 e;refine Oi.mk' ?_ ?_ ?_ ?_ ?_ ?_ ?_
 ·intro p q hp hq e;change p<4+2*b.n0 at hp;change q<4+2*b.n0 at hq;by_cases e1:p=4+2*i<;>by_cases e2:q=4+2*i
  ·rw[e1,e2]
  ·rw[Vd e1,U8 e2] at e;exact absurd e.symm (Ra q hq e2)
  ·rw[U8 e1,Vd e2] at e;exact absurd e (Ra p hp e1)
  rw[U8 e1,U8 e2] at e;exact h.inj p q (OO.2 hp) (OO.2 hq) e
 ·simp only[hj 0 (by omega),hj 1 (by omega),hj 2 (by omega),hj 3 (by omega)];rw[j0 0 (by omega) (by omega) (by omega),h.s];simp[Bn.set]
 ·simp only[hj 1 (by omega)];rw[h1,Bn.TR];congr 2;refine V' fun j=> ?_;simp only[WN,XQ,V_];by_cases e:i=j
  ·subst e;simp only[Vp];congr 1;simp[NI,hi,hj (5+2*i) (by omega)]
  simp only[e,Vk];congr 1;funext z;simp only[NI];rw[U8 (show ¬4+2*j=4+2*i by omega),U8 (show ¬5+2*j=4+2*i by omega)]
 ·simp only[hj 2 (by omega)];rw[j0 2 (by omega) (by omega) (by omega),h.f];rfl
 ·simp only[hj 3 (by omega)];rw[j0 3 (by omega) (by omega) (by omega),h.a];rfl
 ·intro j FE;change j<b.n0 at FE;rw[b.Th hx];by_cases e:j=i
  ·subst e;simp only[Vp];exact h2
  simp only[hj (4+2*j) (by omega),e,Vk];rw[j0 _ (by omega) (by omega) (by omega),h.row _ _ (Pt FE)]
 intro j FE;change j<b.n0 at FE;simp only[hj (5+2*j) (by omega)];rw[j0 _ (by omega) (by omega) (by omega),h.row _ _ (Pu FE),b.Ti hx];split
 ·rename_i e;subst e;rw[Bn.Ru hx]
 rfl
def Oi.push (h:Oi lab b H) {y:Node} {N:Lb} (hn:b.n0≤b.nodes.length) (hN:N=lab 1∨∀p,p<4+2*b.n0→lab p≠N)
  (h0:H2 (lab 0)= .live ⟨3,[[.sl N 5 0 (b.nodes.length+1),.sl (lab 2) 1 0 b.fs.length,.sl (lab 3) 1 0 b.as.length]]⟩)
  (h1:H2 N= .live ⟨5,b.nodes.mapIdx (NI b.n0 lab)++[[.bool y.text,.str y.s,.list (cD y.attrs),.int .i64 y.parent,.list (y.kids.map xX)]]⟩) (h3:∀q,q≠lab 0→q≠lab 1→q≠N→H2 q=H q) :
  Oi (fun p=>if p=1 then N else lab p) (b.put y) H2:=by
 have Ra:∀p,p<4+2*b.n0→p≠1→lab p≠N:=fun p hp e=>by
  rcases hN with rfl|hN
  ·exact h.ne hp (by omega) e
  exact hN p hp
 have j0:∀p,p<4+2*b.n0→p≠0→p≠1→H2 (lab p)=H (lab p):=fun p hp e0 e1=>h3 _ (h.ne hp (by omega) e0) (h.ne hp (by omega) e1) (Ra p hp e1);have hj:∀p,p≠1→(if p=1 then N else lab p)=lab p:=fun p e=>U8 e;have hlen:(b.put y).nodes.length=b.nodes.length+1:=by simp[Bn.put]
 have TT:∀j,j<b.n0→(b.put y).nodes[j]?=b.nodes[j]?:=fun j hj=>by simp only[Bn.put];rw[VF (by omega)]
 refine Oi.mk' ?_ ?_ ?_ ?_ ?_ ?_ ?_
 ·intro p q hp hq e;change p<4+2*b.n0 at hp;change q<4+2*b.n0 at hq;by_cases e1:p=1<;>by_cases e2:q=1
  ·rw[e1,e2]
  ·rw[Vd e1,U8 e2] at e;exact absurd e.symm (Ra q hq e2)
  ·rw[U8 e1,Vd e2] at e;exact absurd e (Ra p hp e1)
  rw[U8 e1,U8 e2] at e;exact h.inj p q (OO.2 hp) (OO.2 hq) e
 ·simp only[hj 0 (by omega),Vp,hj 2 (by omega),hj 3 (by omega),hlen];exact h0
 ·show H2 N=_;rw[h1,Bn.TS];have w5:NI b.n0 (fun p=>if p=1 then N else lab p)=NI b.n0 lab:=by
   funext j z;simp only[NI];rw[U8 (show ¬4+2*j=1 by omega),U8 (show ¬5+2*j=1 by omega)]
  rw[w5];simp[NI,show ¬b.nodes.length<b.n0 by omega]
 ·simp only[hj 2 (by omega)];rw[j0 2 (by omega) (by omega) (by omega),h.f];rfl
 ·simp only[hj 3 (by omega)];rw[j0 3 (by omega) (by omega) (by omega),h.a];rfl
 ·intro j FE;change j<b.n0 at FE;simp only[hj (4+2*j) (by omega)];rw[j0 _ (by omega) (by omega) (by omega),h.row _ _ (Pt FE)];simp only[Bn.at,TT j FE]
 intro j FE;change j<b.n0 at FE;simp only[hj (5+2*j) (by omega)];rw[j0 _ (by omega) (by omega) (by omega),h.row _ _ (Pu FE)];simp only[Bn.kd,TT j FE]
def Oi.get (h:Oi lab b H) {i:Nat} {x:Node} (hx:b.nodes[i]?=some x):(b.nodes.mapIdx (NI b.n0 lab))[i]?=some (NI b.n0 lab i x):=by
 rw[V_,hx];rfl
end

def Bn.all (b:Bn):List Nat:=List.range (4+2*b.n0)
section
variable {P:Program} {G:Nat→Option (List IV)}
def Bn.add (b:Bn) (t:Tree) (p:Int):Bn:={b with nodes:=b.nodes++t.flat b.nodes.length p}
structure UP (t:Tree) where
 i:Nat
 hi:i≤t.kids.length
end

def Bn.Uf (b:Bn) (p:Nat) (l:List Tree):Bn:={b with nodes:=b.nodes++fC b.nodes.length p l}
def Bn.ins (b:Bn) (p pl:Nat) (l:List Tree):Bn:=match b.nodes[p]? with
 |some x=>(b.Uf p l).set p {x with kids:=x.kids.take pl++mw b.nodes.length l++x.kids.drop pl}
 |none=>b
section
variable {P:Program} {G:Nat→Option (List IV)}
structure UQ (l:List Tree) where
 i:Nat
 hi:i≤l.length
end

def UR (s:Bs):Tree:= .mk true s [] []
def Bn.value (b:Bn) (n:Nat) (s:Bs):Bn:=match b.nodes[n]? with
 |some x=>if x.text then b.set n {x with s:=s} else(b.set n {x with kids:=[]}).ins n 0 [UR s]
 |none=>b
section
variable {P:Program} {G:Nat→Option (List IV)}
end

def RT (as:List Attr) (key:Bs):Nat:=(as.takeWhile fun a=>Op.bytesLess a.name key).length
def TU (as:List Attr) (key:Bs):Bool:=match as[RT as key]? with|some a=>a.name==key|none=>false
section
variable {P:Program} {G:Nat→Option (List IV)}
structure U3 (as:List Attr) (key:Bs) where
 lo:Nat
 hi:Nat
 h1:lo≤hi
 h2:hi≤as.length
 h3:∀j a,j<lo→as[j]?=some a→Op.bytesLess a.name key=true
 h4:∀j a,hi≤j→as[j]?=some a→Op.bytesLess a.name key=false
end

def TV (as:List Attr) (o:Op):List Attr:=
 if o.kind=10 then(if TU as o.name then as.take (RT as o.name)++as.drop (RT as o.name+1) else as)
 else if TU as o.name then as.set (RT as o.name) ⟨o.name,o.s⟩ else as.take (RT as o.name)++[⟨o.name,o.s⟩]++as.drop (RT as o.name)
def Bn.attr (b:Bn) (n:Nat) (o:Op):Bn:=match b.nodes[n]? with
 |some x=>b.set n {x with attrs:=TV x.attrs o}
 |none=>b
section
variable {P:Program} {G:Nat→Option (List IV)}
end
end Go.Am

set_option maxRecDepth 20000
namespace Go.Am
open Go Go.RowKit
def uR.congr (R:uR) {lab Qi:Nat→Lb} (h:∀p,R.ok p→lab p=Qi p) (p:Nat):R.row lab p=R.row Qi p:=by
 have e1:R.row lab p=(R.row Lb.par p).map (dO (S1 lab)):=R.nat Lb.par (S1 lab) p;have e2:R.row Qi p=(R.row Lb.par p).map (dO (S1 Qi)):=R.nat Lb.par (S1 Qi) p;rw[e1,e2];cases hr:R.row Lb.par p with
 |none=>rfl
 |some r=>
 simp only[Vf,dO,di,Row.mk.injEq,V9];refine VO fun cs bV=>NZ cs fun q hq=> ?_;obtain⟨p',BT,rfl⟩:=R.an Lb.par p r hr cs bV q hq;exact h p' BT
def Ed.congr {R:uR} {lab Qi:Nat→Lb} {H:Hp} (hs:Ed lab R H) (h:∀p,R.ok p→lab p=Qi p):Ed Qi R H:=by
 refine⟨fun p r hr=> ?_,fun p q hp hq e=>hs.inj p q hp hq (by rw[h p hp,h q hq,e])⟩;have hp:R.ok p:=(R.Ec Qi p).1 (by rw[hr];rfl);rw[←h p hp];exact hs.row p r (by rw[R.congr h];exact hr)
def Bn.name (b:Bn) (n:Nat) (s:Bs):Bn:=match b.nodes[n]? with
 |some x=>b.set n {x with s:=s}
 |none=>b
section
variable {S:St} {b:Bn} {lab:Nat→Lb} {H:Hp} {k:AV→Hp→Prop} {u:Tw k}
end
section
variable {P:Program} {G:Nat→Option (List IV)}
end
end Go.Am

set_option maxRecDepth 20000
namespace Go.Am
open Go Go.RowKit
def SM {sz b d n:Nat} {l q:Lb} {els:List (List AV)} {cs:List AV} {H:Hp} (hl:H l= .live ⟨sz,els⟩) (hq:H q= .live ⟨sz,[cs]⟩) (ho:AV.oJ cs) (hn:els.length=n) (hb:(n+1)*b≤140737488355328) (h0:0<b)
  (hd:l≠l.app d) (hu:H (l.app d)= .unused):jN sz b d (.sl l sz 0 n) (.sl q sz 0 1) H=some (.sl (l.app d) sz 0 (n+1),bD (bD H l .dead) (l.app d) (.live ⟨sz,els++[cs]⟩)):=by
 subst hn;have hs:kU sz (.sl q sz 0 1) H=some [cs]:=by simp[kU,hq]
 unfold jN;rw[hs];simp[hl,ho,hb,h0,hd,hu]
section
variable {P:Program} {G:Nat→Option (List IV)}
theorem Sm {env:Env} {f:AV→AV}:∀{ps:List (Nat×AV)},(∀q∈ps,q.2=f (env q.1))→∀n,o9 ps n= .any∨o9 ps n=f (env n)
 |[],_,n=> .inl rfl
 |(m,x)::r,h,n=>by
  rw[xK];by_cases e:n=m
  ·subst e;right;rw[s9,Vd rfl];exact h (n,x) (by simp)
  rw[s9,U8 e];exact Sm (fun q hq=>h q (by simp[hq])) n
def US:Lb→Option Nat
 | .nest (.loc c) p k=>if c=900∧k=3 then some p else none
 |_=>none
def UT (b:Bn) (p:Nat):Option (Nat×List IV):=
 if p=2 then some (1,b.fs.map xX) else if p=3 then some (1,b.as.map xX)
 else if 4≤p∧p<4+2*b.n0 then(if p%2=0 then some (2,cD (b.at ((p - 4)/2))) else some (1,(b.kd ((p - 5)/2)).map xX)) else none
def X1 (b:Bn) (l:Lb):Option (Nat×List IV):=(US l).bind (UT b)
end
end Go.Am
