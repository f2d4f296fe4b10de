import Derived.Test.YtfinkeaikbmpgaaGreatDoorKT7
import Derived.Test.YtfinkeaikbmpgaaGreatDoorKT21
import Derived.Laws.Externs
set_option linter.unusedSimpArgs false
set_option linter.unusedVariables false
set_option linter.unnecessarySimpa false
set_option linter.defProp false
/- THE ABSTRACT MACHINE, part 40: functions that are handed a row of data by a slice. -/
namespace Go.Am
open Go Go.RowKit
def df (sz:Nat) (xs:List IV):Hp:=bD Hp.none (.par 0) (.live ⟨sz,aB xs⟩)
def ig (P:Program) (G:Nat→Option (List IV)) (f:Nat) (args:List AV) (sz:Nat) (xs:List IV) (R:AV→List IV→Prop):Prop:=
 (∀l∈ah args,l= .par 0)∧ey P G f args (df sz xs) fun x H'=>∃nN,R x nN∧x.an=[]∧nN.length=xs.length∧H' (.par 0)= .live ⟨sz,aB nN⟩
def ig.mono {P:Program} {G:Nat→Option (List IV)} {f:Nat} {args:List AV} {sz:Nat} {xs:List IV} {R R':AV→List IV→Prop} (h:ig P G f args sz xs R) (hq:∀x c,R x c→R' x c):ig P G f args sz xs R':=
 ⟨h.1,h.2.mono fun x H ⟨c,h1,h2⟩=>⟨c,hq _ _ h1,h2⟩⟩

def ey.GI {P:Program} {G:Nat→Option (List IV)} {f:Nat} {args:List AV} {H:Hp} {Q:AV→Hp→Prop} (h:ey P G f args H Q) (kp:AV→Lb→Prop) :
  ey P G f args H fun x H'=>∃H1,Q x H1∧H'=eg (kp x) H1:=by
 intro w A β vs hr hv;refine(h w A β vs hr hv).mono ?_;rintro e w' ⟨v,x,H1,β',rfl,hq,lz,hx,hm⟩;exact⟨v,x,eg (kp x) H1,β',rfl,⟨H1,hq,rfl⟩,lz.eg _,hx.eg _,fun l hl=>by rw[Ne,N9];exact hm l hl⟩
def tq (P:Program) (G:Nat→Option (List IV)) (sz f:Nat) (args:List AV) (xs ys:List IV):Prop:=
 (∀l∈ah args,l= .par 0)∧ey P G f args (df sz xs) fun x H'=>∃L,x= .sl L sz 0 ys.length∧H' L= .live ⟨sz,aB ys⟩
def mI {S:St} {f:Nat} {args U6:List AV} {sz:Nat} {xs ys:List IV} {H:Hp} {k:AV→Hp→Prop} {u:Tw k} {l N:Lb} (h:tq S.P S.G sz f U6 xs ys)
  (ha:args=bu (ft l) U6) (hl:H l= .live ⟨sz,aB xs⟩) (hN:H N= .unused) (Jc:N.fresh=true→l.fresh=true)
  (Jd:k (.sl N sz 0 ys.length) (bD (bD H l .dead) N (.live ⟨sz,aB ys⟩))) (FA:k (.sl l sz 0 ys.length) (bD (bD H l .dead) l (.live ⟨sz,aB ys⟩))):C7 S f args H k u:=by
 obtain⟨h1,h3⟩:=h;have aK:∀q r,df sz xs q= .live r→q= .par 0∧r=⟨sz,aB xs⟩:=by
  intro q r h;by_cases e:q= .par 0
  ·subst e;simp[df] at h;exact⟨rfl,h.symm⟩
  rw[df,aq _ _ e] at h;simp[Hp.none] at h
 have Lv:H l≠ .unused:=by rw[hl];simp
 have Mz:N≠l:=by rintro rfl;exact Lv hN
 refine .inr<| .inr ⟨⟨ft l,df sz xs,U6,_,h3.GI (fun x q=>q∈x.an),ha,?_,?_,?_,?_,?_,?_,?_⟩⟩
 ·intro q r h;obtain⟨rfl,rfl⟩:=aK q r h;rw[dy];simp only[ft,eT,hl]
 ·intro q hq;by_cases e:q= .par 0
  ·subst e;exact⟨_,by simp[df];rfl⟩
  rw[df,aq _ _ e] at hq;simp[Hp.none] at hq
 ·rintro q q' ⟨r,h⟩ ⟨r',h'⟩ _;rw[(aK q r h).1,(aK q' r' h').1]
 ·intro q hq;rw[h1 q hq];simp[df]
 ·rintro q ⟨r,h⟩;rw[(aK q r h).1];rfl
 ·intro q r h c hc z hz;obtain⟨rfl,rfl⟩:=aK q r h;rw[bU hc] at hz;simp at hz
 rintro x H' ⟨H1,⟨L,rfl,e5⟩,rfl⟩;obtain⟨L1,Je⟩:∃L1,L1=(if L= .par 0 then l else N):=⟨_,rfl⟩;have oN:∀q,q∈(AV.sl L sz 0 ys.length).an↔q=L:=fun q=>by simp[AV.an]
 have hH:∀q r,eg (fun q=>q∈(AV.sl L sz 0 ys.length).an) H1 q= .live r→q=L∧r=⟨sz,aB ys⟩:=by
  intro q r h;obtain⟨g1,g2⟩:=dH.1 h;rw[oN] at g2;subst g2;rw[e5] at g1;cases g1;exact⟨rfl,rfl⟩
 have EY:eg (fun q=>q∈(AV.sl L sz 0 ys.length).an) H1 L= .live ⟨sz,aB ys⟩:=dH.2 ⟨e5,(oN L).2 rfl⟩;have hρ:(fun q=>if q=L then L1 else q) L=L1:=by simp
 have GJ:∀q,H q≠ .unused→bD (bD H l .dead) L1 (.live ⟨sz,aB ys⟩) q≠ .unused:=by
  intro q hq;by_cases e:q=L1
  ·subst e;simp
  rw[aq _ _ e];by_cases e2:q=l
  ·subst e2;simp
  rw[aq _ _ e2];exact hq
 refine⟨fun q=>if q=L then L1 else q,bD (bD H l .dead) L1 (.live ⟨sz,aB ys⟩),?_,?_,?_,GJ,?_,?_,?_,?_,?_⟩
 ·rintro q ⟨r,g1⟩ ⟨r',g2⟩;have e1:=(aK q r g1).1;have e2:=(hH q r' g2).1;subst e1;subst e2;simp only[eT,Je,ft]
 ·intro q r h;by_cases e:q=L1
  ·subst e;simp at h;refine .inr ⟨L,_,EY,by simp,?_⟩;rw[←h,dy]
  rw[aq _ _ e] at h;by_cases e2:q=l
  ·subst e2;simp at h
  rw[aq _ _ e2] at h;refine .inl ⟨h,?_⟩;rintro z ⟨r',hz⟩;rw[(aK z r' hz).1];simp only[ft,eT];exact dL e2
 ·rintro q q' ⟨r,h⟩ ⟨r',h'⟩ _;rw[(hH q r h).1,(hH q' r' h').1]
 ·intro q hq;rw[oN] at hq;subst hq;simp
 ·intro q r h c hc z hz;obtain⟨rfl,rfl⟩:=hH q r h;rw[bU hc] at hz;simp at hz
 ·rintro q ⟨r,h⟩;obtain⟨rfl,rfl⟩:=hH q r h;by_cases e:q= .par 0
  ·subst e;exact .inl ⟨_,by simp[df];rfl⟩
  right;simp only[eT,Je,a_ e];refine⟨hN,fun hf=> .inr ?_⟩;rintro z ⟨r',hz⟩;rw[(aK z r' hz).1];simp only[ft,eT];exact Jc hf
 ·rintro q (hq|⟨l1,r1,c,g1,g2,g3⟩) _
  ·rw[oN] at hq;subst hq;exact⟨_,EY⟩
  obtain⟨rfl,rfl⟩:=hH l1 r1 g1;rw[bU g2] at g3;simp at g3
 simp only[bJ,eT];rw[Je];split
 ·exact FA
 exact Jd
def Bg {S:St} {F:List Lb} {sz f:Nat} {args U6:List AV} {xs ys:List IV} {H:Hp} {k:AV→Hp→Prop} {u:Tw k} {l N:Lb} (h:tq S.P S.G sz f U6 xs ys)
  (ha:args=bu (ft l) U6) (hl:H l= .live ⟨sz,aB xs⟩) (hN:H N= .unused) (Jc:N.fresh=true→l.fresh=true) (h1:l.iQ∉F) (h2:N.iQ∉F)
  (Jd:k (.sl N sz 0 ys.length) (bD (bD H l .dead) N (.live ⟨sz,aB ys⟩))) (FA:k (.sl l sz 0 ys.length) (bD (bD H l .dead) l (.live ⟨sz,aB ys⟩))):DX S F f args H k u:=by
 refine⟨fun x H'=>(x= .sl N sz 0 ys.length∧H'=bD (bD H l .dead) N (.live ⟨sz,aB ys⟩))∨(x= .sl l sz 0 ys.length∧H'=bD (bD H l .dead) l (.live ⟨sz,aB ys⟩)),?_,⟨_,_,.inl ⟨rfl,rfl⟩⟩,?_⟩
 ·exact mI (k:=fun x H'=>(x= .sl N sz 0 ys.length∧H'=bD (bD H l .dead) N (.live ⟨sz,aB ys⟩))∨(x= .sl l sz 0 ys.length∧H'=bD (bD H l .dead) l (.live ⟨sz,aB ys⟩))) (u:= .mk) h ha hl hN Jc (.inl ⟨rfl,rfl⟩) (.inr ⟨rfl,rfl⟩)
 have key:∀q:Lb,q.iQ∈F→q≠l∧q≠N:=fun q hq=>⟨fun e=>h1 (e▸hq),fun e=>h2 (e▸hq)⟩;rintro x H' (⟨rfl,rfl⟩|⟨rfl,rfl⟩)
 ·refine⟨fun q hq=> ?_,Jd⟩;obtain⟨e1,e2⟩:=key q hq;rw[aq _ _ e2,aq _ _ e1]
 refine⟨fun q hq=> ?_,FA⟩;obtain⟨e1,e2⟩:=key q hq;rw[aq _ _ e1,aq _ _ e1]

structure WE (ls:List Lb) (u:Lb→Bool) (ps:List (Nat×AV)) (rs:List (Lb×Row)) (env:Env) (H:Hp) (m:List (Lb×Lb)):Prop where
 nf:∀l:Lb,l.entry=true→H l≠ .unused→l∈ls∨u l=true
 e:k_ (dn m) env ps
 r:tc (dn m) H rs
 inj:(ls.map (dn m)).Nodup
 fr:∀l∈ls,(l.fresh=true→(dn m l).fresh=true)∧(l.entry=true→dn m l=l)
def WE.wk {ls:List Lb} {u:Lb→Bool} {ps:List (Nat×AV)} {rs:List (Lb×Row)} {env:Env} {H:Hp} {m:List (Lb×Lb)} (h:WE ls u ps rs env H m) (lr:rs.map Prod.fst=ls) (hp:∀l∈ah (ps.map Prod.snd),l∈ls)
  (hr:∀q∈rs,∀cs∈q.2.els,∀l∈ah cs,l∈ls):Wk (dn m) env H (o9 ps) (ie u rs):=by
 have sw:∀l,live (ie u rs) l→l∈ls:=fun l ⟨r,h⟩=>by rw[←lr];exact cO.2 ⟨_,fy (cL.1 h),rfl⟩
 refine⟨h.e.we,fun l r hl=>nr h.r (fy (cL.1 hl)),fun l l' h1 h2 e=>gi h.inj l (sw l h1) l' (sw l' h2) e,mu fun l hl=>jb (.inl (by rw[lr];exact hp l hl)),fun l r hl cs bV q hq=> ?_,
  fun l hf=>⟨fun hu=> ?_,fun hl=>(h.fr l (sw l hl)).2 hf⟩,fun l hl hf=>(h.fr l (sw l hl)).1 hf⟩
 ·exact jb (.inl (by rw[lr];exact hr _ (fy (cL.1 hl)) cs bV q hq))
 exact jb (by rw[lr];exact h.nf l hf hu)

structure uR where
 row:(Nat→Lb)→Nat→Option Row
 nat:∀(lab:Nat→Lb) (ρ:Lb→Lb) (p:Nat),row (fun i=>ρ (lab i)) p=(row lab p).map (dO ρ)
 an:∀(lab:Nat→Lb) (p:Nat) (r:Row),row lab p=some r→∀cs∈r.els,∀q∈ah cs,∃p',(row lab p').isSome=true∧q=lab p'
def uR.ok (R:uR) (p:Nat):Prop:=(R.row Lb.par p).isSome=true
def uR.Ec (R:uR) (lab:Nat→Lb) (p:Nat):(R.row lab p).isSome=true↔R.ok p:=by
 have h:=R.nat Lb.par (fun q=>match q with| .par i=>lab i|q=>q) p;simp only at h;unfold uR.ok;rw[show R.row lab p=_ from h];simp
structure Ed (lab:Nat→Lb) (R:uR) (H:Hp):Prop where
 row:∀p r,R.row lab p=some r→H (lab p)= .live r
 inj:∀p q,R.ok p→R.ok q→lab p=lab q→p=q
def Ed.live {lab:Nat→Lb} {R:uR} {H:Hp} (h:Ed lab R H) {p:Nat} (hp:R.ok p):Am.live H (lab p):=by
 obtain⟨r,hr⟩:=ke.1 ((R.Ec lab p).2 hp);exact⟨r,h.row p r hr⟩
open Classical in
noncomputable def Lw (lab:Nat→Lb) (R:uR) (H:Hp):Hp:=fun q=>
 if h:∃p,R.ok p∧lab p=q then(match R.row lab (Classical.choose h) with|some r=> .live r|none=> .dead) else H q
def R5 {lab:Nat→Lb} {R:uR} (hi:∀p q,R.ok p→R.ok q→lab p=lab q→p=q) (H:Hp) {p:Nat} {r:Row} (hp:R.row lab p=some r):Lw lab R H (lab p)= .live r:=by
 have j4:R.ok p:=(R.Ec lab p).1 (by rw[hp];rfl);have h:∃p',R.ok p'∧lab p'=lab p:=⟨p,j4,rfl⟩;have hc:=sb h;have e:Classical.choose h=p:=hi _ _ hc.1 j4 hc.2;unfold Lw;rw[dif_pos h,e,hp]
def Qa {lab:Nat→Lb} {R:uR} (H:Hp) {q:Lb} (h:∀p,R.ok p→lab p≠q):Lw lab R H q=H q:=by
 unfold Lw;rw[dif_neg (by rintro⟨p,h1,h2⟩;exact h p h1 h2)]
def PF {lab:Nat→Lb} {R:uR} (hi:∀p q,R.ok p→R.ok q→lab p=lab q→p=q) {H:Hp} {q:Lb} {r:Row} (h:Lw lab R H q= .live r) :
  (∃p,R.ok p∧lab p=q∧R.row lab p=some r)∨((∀p,R.ok p→lab p≠q)∧H q= .live r):=by
 by_cases e:∃p,R.ok p∧lab p=q
 ·obtain⟨p,h1,rfl⟩:=e;obtain⟨r',hr⟩:=ke.1 ((R.Ec lab p).2 h1);rw[R5 hi H hr] at h;cases h;exact .inl ⟨p,h1,rfl,hr⟩
 have e':∀p,R.ok p→lab p≠q:=fun p h1 h2=>e ⟨p,h1,h2⟩;rw[Qa H e'] at h;exact .inr ⟨e',h⟩
def Ed.R6 {lab:Nat→Lb} {R:uR} (hi:∀p q,R.ok p→R.ok q→lab p=lab q→p=q) (H:Hp):Ed lab R (Lw lab R H):=⟨fun _ _ hp=>R5 hi H hp,hi⟩
def acW:∀p q:Nat,Lb.par p=Lb.par q→p=q:=fun p q h=>by cases h;rfl
noncomputable def Lx (R:uR):Hp:=Lw Lb.par R Hp.none
def Xv (R:uR):Ed Lb.par R (Lx R):= .R6 (fun p q _ _ h=>acW p q h) _
def XI {R:uR} {q:Lb} {r:Row} (h:Lx R q= .live r):∃p,R.ok p∧Lb.par p=q∧R.row Lb.par p=some r:=by
 rcases PF (fun p q _ _ h=>acW p q h) h with h|⟨_,h⟩
 ·exact h
 simp[Hp.none] at h
def aeF {R:uR} {q:Lb} (h:Lx R q≠ .unused):∃p,R.ok p∧q= .par p:=by
 by_cases e:∃p,R.ok p∧Lb.par p=q
 ·obtain⟨p,h1,h2⟩:=e;exact⟨p,h1,h2.symm⟩
 refine absurd ?_ h;unfold Lx;rw[Qa Hp.none fun p h1 h2=>e ⟨p,h1,h2⟩];rfl
def ey.ahJ {T:Type} {P:Program} {G:Nat→Option (List IV)} {f:Nat} {args:List AV} {H:Hp} {Q:T→AV→Hp→Prop} (h:ey P G f args H fun x H'=>∃t,Q t x H') (kp:T→Lb→Prop) :
  ey P G f args H fun x H'=>∃t H1,Q t x H1∧H'=eg (kp t) H1:=by
 intro w A β vs hr hv;refine(h w A β vs hr hv).mono ?_;rintro e w' ⟨v,x,H1,β',rfl,⟨t,hq⟩,lz,hx,hm⟩;exact⟨v,x,eg (kp t) H1,β',rfl,⟨t,H1,hq,rfl⟩,lz.eg _,hx.eg _,fun l hl=>by rw[Ne,N9];exact hm l hl⟩
def Jg (P:Program) (G:Nat→Option (List IV)) (f:Nat) (args:List AV) (R:uR) (fx:List Nat) (Q:((Nat→Lb)→AV)→uR→Prop):Prop:=
 (∀l∈ah args,∃p,R.ok p∧l= .par p)∧ey P G f args (Lx R) fun x H'=>∃t:((Nat→Lb)→AV)×uR×(Nat→Lb),
  Q t.1 t.2.1∧(∀ρ,bJ ρ (t.1 t.2.2)=t.1 fun i=>ρ (t.2.2 i))∧(∀l∈x.an,∃p,t.2.1.ok p∧l=t.2.2 p)∧x=t.1 t.2.2∧Ed t.2.2 t.2.1 H'∧∀p∈fx,t.2.2 p= .par p
def S1 (lab:Nat→Lb):Lb→Lb:=fun q=>match q with
 | .par i=>lab i
 |q=>q
open Classical in
def WV {S:St} {f:Nat} {args U6:List AV} {R:uR} {fx:List Nat} {Q:((Nat→Lb)→AV)→uR→Prop} {H:Hp} {k:AV→Hp→Prop} {u:Tw k} {lab:Nat→Lb} (N:Lb→Lb) (h:Jg S.P S.G f U6 R fx Q)
  (ha:args=bu (S1 lab) U6) (hl:Ed lab R H) (hN:∀l,H (N l)= .unused) (hNi:∀l l',N l=N l'→l=l') (Jc:∀l,(N l).fresh=true→l.fresh=true∨∀p,R.ok p→(lab p).fresh=true) (Lt:∀p∈fx,R.ok p)
  (hk:∀X R2 U9 H2,Q X R2→Ed U9 R2 H2→(∀p∈fx,U9 p=lab p)→(∀p,R2.ok p→(∃p0,R.ok p0∧U9 p=lab p0)∨∃l,U9 p=N l) →
   (∀q,(∀p,R.ok p→q≠lab p)→(∀l,q≠N l)→H2 q=H q)→(∀q,H q≠ .unused→H2 q≠ .unused)→(∀l,(∀p,R2.ok p→U9 p≠N l)→H2 (N l)= .unused)→k (X U9) H2):C7 S f args H k u:=by
 obtain⟨h1,h3⟩:=h;refine .inr<| .inr ⟨⟨S1 lab,Lx R,U6,_,h3.ahJ (fun t q=>∃p,t.2.1.ok p∧t.2.2 p=q),ha,?_,?_,?_,?_,?_,?_,?_⟩⟩
 ·intro q r hq;obtain⟨p,h4,rfl,h5⟩:=XI hq;refine hl.row p _ ?_;have:=R.nat Lb.par (S1 lab) p;simp only[S1] at this;rw[show R.row lab p=_ from this,h5];rfl
 ·intro q hq;obtain⟨p,h4,rfl⟩:=aeF hq;exact(Xv R).live h4
 ·rintro q q' ⟨r,hq⟩ ⟨r',oX⟩ e;obtain⟨p,h4,rfl,_⟩:=XI hq;obtain⟨p',FI,rfl,_⟩:=XI oX;rw[hl.inj p p' h4 FI e]
 ·intro q hq;obtain⟨p,h4,rfl⟩:=h1 q hq;obtain⟨r,hr⟩:=(Xv R).live h4;rw[hr];simp
 ·rintro q ⟨r,hq⟩;obtain⟨p,_,rfl,_⟩:=XI hq;rfl
 ·intro q r hq cs bV z hz;obtain⟨p,h4,rfl,h5⟩:=XI hq;obtain⟨p',h6,rfl⟩:=R.an Lb.par p r h5 cs bV z hz;obtain⟨r',hr⟩:=(Xv R).live ((R.Ec _ _).1 h6);rw[hr];simp
 rintro x H' ⟨⟨X,R2,r9⟩,H1,⟨e1,e2,e3,rfl,e5,e6⟩,rfl⟩;simp only at e1 e2 e3 e5 e6 ⊢;have hH:∀q,Am.live (eg (fun q=>∃p,R2.ok p∧r9 p=q) H1) q→∃p,R2.ok p∧r9 p=q:=by
  rintro q ⟨r,hq⟩;exact(dH.1 hq).2
 have EY:∀p r,R2.row r9 p=some r→eg (fun q=>∃p,R2.ok p∧r9 p=q) H1 (r9 p)= .live r:=fun p r hp=>
  dH.2 ⟨e5.row p r hp,p,(R2.Ec r9 p).1 (by rw[hp];rfl),rfl⟩
 obtain⟨ρ',hρ⟩:∃ρ':Lb→Lb,ρ'=fun q=>if Am.live (Lx R) q then S1 lab q else N q:=⟨_,rfl⟩;have qB:∀q,Am.live (Lx R) q→∃p,R.ok p∧q= .par p:=by
  rintro q ⟨r,hq⟩;obtain⟨p,h4,rfl,_⟩:=XI hq;exact⟨p,h4,rfl⟩
 have aeG:∀p,R.ok p→ρ' (.par p)=lab p:=fun p hp=>by rw[hρ];simp only[(Xv R).live hp,if_true,S1]
 have YC:∀q,(∃p,R.ok p∧q= .par p∧ρ' q=lab p)∨(¬Am.live (Lx R) q∧ρ' q=N q):=by
  intro q;by_cases e:Am.live (Lx R) q
  ·obtain⟨p,h4,rfl⟩:=qB q e;exact .inl ⟨p,h4,rfl,aeG p h4⟩
  exact .inr ⟨e,by rw[hρ];simp only[e,if_false]⟩
 have Mz:∀l p,R.ok p→N l≠lab p:=fun l p hp e=>by
  obtain⟨r,hr⟩:=hl.live hp;have:=hN l;rw[e,hr] at this;cases this
 have ahK:∀q q',ρ' q=ρ' q'→q=q':=by
  intro q q' e;rcases YC q with⟨p,g1,rfl,g2⟩|⟨g1,g2⟩
  ·rcases YC q' with⟨p',g1',rfl,g2'⟩|⟨g1',g2'⟩
   ·rw[g2,g2'] at e;rw[hl.inj p p' g1 g1' e]
   rw[g2,g2'] at e;exact absurd e.symm (Mz _ p g1)
  rcases YC q' with⟨p',g1',rfl,g2'⟩|⟨g1',g2'⟩
  ·rw[g2,g2'] at e;exact absurd e (Mz _ p' g1')
  rw[g2,g2'] at e;exact hNi _ _ e
 obtain⟨U9,Ye⟩:∃U9:Nat→Lb,U9=fun i=>ρ' (r9 i):=⟨_,rfl⟩;have acX:∀p q,R2.ok p→R2.ok q→U9 p=U9 q→p=q:=fun p q hp hq e=>by
  rw[Ye] at e;exact e5.inj p q hp hq (ahK _ _ e)
 obtain⟨Hd,hHd⟩:∃Hd:Hp,Hd=fun q=>if ∃p,R.ok p∧lab p=q then Slot.dead else H q:=⟨_,rfl⟩;have aiu:∀l,Hd (N l)= .unused:=fun l=>by
  rw[hHd];simp only;rw[if_neg (by rintro⟨p,g1,g2⟩;exact Mz l p g1 g2.symm)];exact hN l
 have ahL:∀p r,R2.row r9 p=some r→R2.row U9 p=some (dO ρ' r):=fun p r hp=>by
  rw[Ye,R2.nat r9 ρ' p,hp];rfl
 have GJ:∀q,Hd q≠ .unused→Lw U9 R2 Hd q≠ .unused:=by
  intro q hq;by_cases e:∃p,R2.ok p∧U9 p=q
  ·obtain⟨p,g1,rfl⟩:=e;obtain⟨r,hr⟩:=(Ed.R6 acX Hd).live g1;rw[hr];simp
  rw[Qa Hd fun p g1 g2=>e ⟨p,g1,g2⟩];exact hq
 have ags:∀q,H q≠ .unused→Hd q≠ .unused:=by
  intro q hq;rw[hHd];simp only;split
  ·simp
  exact hq
 have agt:∀p,R2.ok p→Lw U9 R2 Hd (U9 p)≠ .unused:=fun p hp=>by
  obtain⟨r,hr⟩:=(Ed.R6 acX Hd).live hp;rw[hr];simp
 refine⟨ρ',Lw U9 R2 Hd,?_,?_,?_,fun q hq=>GJ q (ags q hq),?_,?_,?_,?_,?_⟩
 ·intro q g1 g2;obtain⟨p,h4,rfl⟩:=qB q g1;rw[aeG p h4];rfl
 ·intro q r hq;rcases PF acX hq with⟨p,g1,rfl,g2⟩|⟨g1,g2⟩
  ·right;obtain⟨r0,I_⟩:=Option.isSome_iff_exists.1 ((R2.Ec r9 p).2 g1);have:=ahL p r0 I_;rw[g2] at this;simp only[Option.some.injEq] at this;exact⟨r9 p,r0,EY p r0 I_,by rw[Ye],this⟩
  left;rw[hHd] at g2;simp only at g2;split at g2
  ·cases g2
  rename_i FQ;refine⟨g2,fun l sw e=> ?_⟩;obtain⟨p,h4,rfl⟩:=qB l sw;exact FQ ⟨p,h4,e⟩
 ·intro q q' _ _ e;exact ahK _ _ e
 ·intro q hq;obtain⟨p,g1,rfl⟩:=e3 q hq;have:=agt p g1;rw[Ye] at this;rw[Ye];exact this
 ·intro q r hq cs bV z hz;obtain⟨g0,p,g1,rfl⟩:=dH.1 hq;obtain⟨r0,I_⟩:=Option.isSome_iff_exists.1 ((R2.Ec r9 p).2 g1);have:=e5.row p r0 I_;rw[g0] at this;cases this;obtain⟨p',h6,rfl⟩:=R2.an r9 p _ I_ cs bV z hz;have:=agt p' ((R2.Ec r9 p').1 h6);rw[Ye] at this;rw[Ye];exact this
 ·intro q hq;obtain⟨p,g1,rfl⟩:=hH q hq;rcases YC (r9 p) with⟨p',g2,g3,g4⟩|⟨g2,g3⟩
  ·left;rw[g3];exact(Xv R).live g2
  right;rw[g3];refine⟨hN _,fun hf=> ?_⟩;rcases Jc _ hf with hf|hf
  ·exact .inl hf
  right;intro z hz;obtain⟨p',h4,rfl⟩:=qB z hz;exact hf p' h4
 ·rintro q hq _;have key:∃p,R2.ok p∧r9 p=q:=by
   rcases hq with hq|⟨l1,r1,cs,g1,g2,g3⟩
   ·obtain⟨p,g1,rfl⟩:=e3 q hq;exact⟨p,g1,rfl⟩
   obtain⟨g0,p,g4,rfl⟩:=dH.1 g1;obtain⟨r0,I_⟩:=Option.isSome_iff_exists.1 ((R2.Ec r9 p).2 g4);have:=e5.row p r0 I_;rw[g0] at this;cases this;obtain⟨p',h6,rfl⟩:=R2.an r9 p _ I_ cs g2 q g3;exact⟨p',(R2.Ec r9 p').1 h6,rfl⟩
  obtain⟨p,g1,rfl⟩:=key;obtain⟨r0,I_⟩:=Option.isSome_iff_exists.1 ((R2.Ec r9 p).2 g1);exact⟨r0,EY p r0 I_⟩
 rw[e2 ρ'];have:=hk X R2 U9 (Lw U9 R2 Hd) e1 (.R6 acX Hd) ?_ ?_ ?_ (fun q hq=>GJ q (ags q hq)) ?_
 ·rw[Ye] at this;rw[Ye];exact this
 ·intro p hp;rw[Ye];simp only;rw[e6 p hp];exact aeG p (Lt p hp)
 ·intro p hp;rw[Ye];simp only;rcases YC (r9 p) with⟨p',g2,g3,g4⟩|⟨g2,g3⟩
  ·exact .inl ⟨p',g2,g4⟩
  exact .inr ⟨_,g3⟩
 ·intro q g1 g2;rw[Qa Hd,hHd]
  ·simp only;rw[if_neg (by rintro⟨p,g3,g4⟩;exact g1 p g3 g4.symm)]
  intro p hp e;rw[Ye] at e;simp only at e;rcases YC (r9 p) with⟨p',g3,g4,g5⟩|⟨g3,g4⟩
  ·exact g1 p' g3 (e.symm.trans g5)
  exact g2 _ (e.symm.trans g4)
 intro l FQ;rw[Qa Hd FQ];exact aiu l
def VM {P:Program} {G:Nat→Option (List IV)} {f:Nat} {n:Nat} {rs:List RO} {ac:AC} {args:List AV} {R:uR} {fx:List Nat} {Q:((Nat→Lb)→AV)→uR→Prop}
  (hF:aw P G f=some (n,rs,ac.bare)) (hn:args.length≤n) (ha:∀l∈ah args,∃p,R.ok p∧l= .par p)
  (hg:go ⟨P,G,n⟩ (fX rs fun x H'=>∃t:((Nat→Lb)→AV)×uR×(Nat→Lb),
   Q t.1 t.2.1∧(∀ρ,bJ ρ (t.1 t.2.2)=t.1 fun i=>ρ (t.2.2 i))∧(∀l∈x.an,∃p,t.2.1.ok p∧l=t.2.2 p)∧x=t.1 t.2.2∧Ed t.2.2 t.2.1 H'∧∀p∈fx,t.2.2 p= .par p) [.code ac] (jP args) (Lx R)):Jg P G f args R fx Q:=by
 refine⟨ha,WY hF hn ?_ ?_ hg⟩
 ·rintro l ⟨r,h⟩;obtain⟨p,_,rfl,_⟩:=XI h;rfl
 intro l hl;obtain⟨p,h4,rfl⟩:=ha l hl;obtain⟨r,hr⟩:=(Xv R).live h4;rw[hr];simp
def Jg.mono {P:Program} {G:Nat→Option (List IV)} {f:Nat} {args:List AV} {R:uR} {fx:List Nat} {Q Q':((Nat→Lb)→AV)→uR→Prop} (h:Jg P G f args R fx Q) (hq:∀X R,Q X R→Q' X R):Jg P G f args R fx Q':=
 ⟨h.1,h.2.mono fun x H ⟨t,h1,h2⟩=>⟨t,hq _ _ h1,h2⟩⟩
end Go.Am

namespace Go.Am
open Go Go.RowKit
open Classical in
noncomputable def PM (labC lab:Nat→Lb) (R:uR) (m:List (Lb×Lb)):Lb→Lb:=fun q=>
 if h:∃p,R.ok p∧labC p=q then lab (Classical.choose h) else dn m q
def On {labC lab:Nat→Lb} {R:uR} {m:List (Lb×Lb)} (hi:∀p q,R.ok p→R.ok q→labC p=labC q→p=q) {p:Nat} (hp:R.ok p):PM labC lab R m (labC p)=lab p:=by
 have h:∃p',R.ok p'∧labC p'=labC p:=⟨p,hp,rfl⟩;have hc:=sb h;unfold PM;rw[dif_pos h,hi _ _ hc.1 hp hc.2]
def OE {labC lab:Nat→Lb} {R:uR} {m:List (Lb×Lb)} {q:Lb} (h:∀p,R.ok p→labC p≠q):PM labC lab R m q=dn m q:=by
 unfold PM;rw[dif_neg (by rintro⟨p,h1,h2⟩;exact h p h1 h2)]
structure WH (labC:Nat→Lb) (R:uR) (ls:List Lb) (u:Lb→Bool) (ps:List (Nat×AV)) (rs:List (Lb×Row)) (env:Env) (H:Hp) (lab:Nat→Lb) (m:List (Lb×Lb)):Prop where
 at':Ed lab R H
 nf:∀l:Lb,l.entry=true→H l≠ .unused→(∃p,R.ok p∧labC p=l)∨l∈ls∨u l=true
 e:k_ (PM labC lab R m) env ps
 r:∀q∈rs,H (dn m q.1)= .live (dO (PM labC lab R m) q.2)
 inj:(ls.map (dn m)).Nodup
 ap:∀l∈ls,∀p,R.ok p→lab p≠dn m l
 fr:∀l∈ls,(l.fresh=true→(dn m l).fresh=true)∧(l.entry=true→dn m l=l)
 fp:∀p,R.ok p→((labC p).fresh=true→(lab p).fresh=true)∧((labC p).entry=true→lab p=labC p)
def WH.wk {labC:Nat→Lb} {R:uR} {ls:List Lb} {u:Lb→Bool} {ps:List (Nat×AV)} {rs:List (Lb×Row)} {env:Env} {H:Hp} {lab:Nat→Lb} {m:List (Lb×Lb)} (h:WH labC R ls u ps rs env H lab m)
  (hi:∀p q,R.ok p→R.ok q→labC p=labC q→p=q) (lr:rs.map Prod.fst=ls) (hC:∀l∈ls,∀p,R.ok p→labC p≠l) (hp:∀l∈ah (ps.map Prod.snd),l∈ls∨∃p,R.ok p∧labC p=l)
  (hr:∀q∈rs,∀cs∈q.2.els,∀l∈ah cs,l∈ls∨∃p,R.ok p∧labC p=l):Wk (PM labC lab R m) env H (o9 ps) (Lw labC R (ie u rs)):=by
 have sw:∀l,live (Lw labC R (ie u rs)) l→(∃p,R.ok p∧labC p=l)∨((∀p,R.ok p→labC p≠l)∧l∈ls):=by
  rintro l ⟨r,hl⟩;rcases PF hi hl with⟨p,h1,h2,_⟩|⟨h1,h2⟩
  ·exact .inl ⟨p,h1,h2⟩
  exact .inr ⟨h1,by rw[←lr];exact cO.2 ⟨_,fy (cL.1 h2),rfl⟩⟩
 have Tz:∀l,(l∈ls∨∃p,R.ok p∧labC p=l)→Lw labC R (ie u rs) l≠ .unused:=by
  intro l hl;by_cases e:∃p,R.ok p∧labC p=l
  ·obtain⟨p,h1,rfl⟩:=e;obtain⟨r,hr⟩:=(Ed.R6 hi (ie u rs)).live h1;rw[hr];simp
  rw[Qa _ fun p h1 h2=>e ⟨p,h1,h2⟩];rcases hl with hl|hl
  ·exact jb (.inl (by rw[lr];exact hl))
  exact absurd hl e
 refine⟨h.e.we,?_,?_,mu fun l hl=>Tz l (hp l hl),?_,?_,?_⟩
 ·intro l r hl;rcases PF hi hl with⟨p,h1,rfl,h2⟩|⟨h1,h2⟩
  ·rw[On hi h1];have:=R.nat labC (PM labC lab R m) p;have e:R.row (fun i=>PM labC lab R m (labC i)) p=R.row lab p:=by
    have h0:=R.nat Lb.par (S1 (fun i=>PM labC lab R m (labC i))) p;have Ur:=R.nat Lb.par (S1 lab) p;simp only[S1] at h0 Ur;rw[h0,Ur];cases pT:R.row Lb.par p with
    |none=>rfl
    |some r0=>
    simp only[bT,di,dO,Row.mk.injEq,dK];refine dh fun cs bV=>NZ cs fun z hz=> ?_;obtain⟨p',h6,rfl⟩:=R.an Lb.par p r0 pT cs bV z hz;simp only[S1];exact On hi ((R.Ec _ _).1 h6)
   rw[e,h2] at this;exact h.at'.row p _ this
  rw[OE h1];exact h.r _ (fy (cL.1 h2))
 ·intro l l' g1 g2 e;rcases sw l g1 with⟨p,h1,rfl⟩|⟨h1,wL⟩<;>rcases sw l' g2 with⟨p',h2,rfl⟩|⟨h2,H6⟩
  ·rw[On hi h1,On hi h2] at e;rw[h.at'.inj p p' h1 h2 e]
  ·rw[On hi h1,OE h2] at e;exact absurd e (h.ap _ H6 p h1)
  ·rw[OE h1,On hi h2] at e;exact absurd e.symm (h.ap _ wL p' h2)
  rw[OE h1,OE h2] at e;exact gi h.inj l wL l' H6 e
 ·intro l r hl cs bV q hq;rcases PF hi hl with⟨p,h1,rfl,h2⟩|⟨h1,h2⟩
  ·obtain⟨p',h6,rfl⟩:=R.an labC p r h2 cs bV q hq;exact Tz _ (.inr ⟨p',(R.Ec _ _).1 h6,rfl⟩)
  exact Tz q (hr _ (fy (cL.1 h2)) cs bV q hq)
 ·intro l hf;refine⟨fun hu=> ?_,fun hl=> ?_⟩
  ·rcases h.nf l hf hu with⟨p,h1,h2⟩|h1|h1
   ·exact Tz l (.inr ⟨p,h1,h2⟩)
   ·exact Tz l (.inl h1)
   by_cases e:∃p,R.ok p∧labC p=l
   ·exact Tz l (.inr e)
   rw[Qa _ fun p h1 h2=>e ⟨p,h1,h2⟩];exact jb (.inr h1)
  rcases sw l hl with⟨p,h1,rfl⟩|⟨h1,h2⟩
  ·rw[On hi h1];exact(h.fp p h1).2 hf
  rw[OE h1];exact(h.fr l h2).2 hf
 intro l hl hf;rcases sw l hl with⟨p,h1,rfl⟩|⟨h1,h2⟩
 ·rw[On hi h1];exact(h.fp p h1).1 hf
 rw[OE h1];exact(h.fr l h2).1 hf
def SJ {σ:Type} {S:St} {Q:gI} {c:AC} {k:List It} {env:Env} {H:Hp} (labC:Nat→Lb) (R:σ→uR) (ls:List Lb) (u:Lb→Bool) (ps:σ→List (Nat×AV)) (rs:σ→List (Lb×Row)) (μ:σ→Nat) (s0:σ)
  (hi:∀s p q,(R s).ok p→(R s).ok q→labC p=labC q→p=q) (lr:∀s,(rs s).map Prod.fst=ls) (hC:∀s,∀l∈ls,∀p,(R s).ok p→labC p≠l) (hp:∀s,∀l∈ah ((ps s).map Prod.snd),l∈ls∨∃p,(R s).ok p∧labC p=l)
  (hr:∀s,∀q∈rs s,∀cs∈q.2.els,∀l∈ah cs,l∈ls∨∃p,(R s).ok p∧labC p=l) (h0:∃lab m,WH labC (R s0) ls u (ps s0) (rs s0) env H lab m)
  (round:∀s,go S (kM S Q k (fun env H s=>∃lab m,WH labC (R s) ls u (ps s) (rs s) env H lab m) μ (μ s)) [.code c] (o9 (ps s)) (Lw labC (R s) (ie u (rs s)))):lI S Q c k env H:=
 j7 (fun s=>o9 (ps s)) (fun s=>Lw labC (R s) (ie u (rs s))) _ (fun _ _ s ⟨lab,m,h⟩=>⟨_,h.wk (hi s) (lr s) (hC s) (hp s) (hr s)⟩) μ s0 h0 round
end Go.Am

namespace Go.Am
open Go Go.RowKit
def p2 (a b:Nat):Nat:=2^a*(2*b+1)
theorem Wh:∀{a b c d:Nat},p2 a b=p2 c d→a=c∧b=d
 |0,b,0,d,h=>by simp[p2] at h;omega
 |0,b,c+1,d,h=>by
  simp only[p2,tJ,Nat.pow_zero,nk] at h;have:2^c*2*(2*d+1)=2*(2^c*(2*d+1)):=by rw[kr (2^c) 2,qz]
  omega
 |a+1,b,0,d,h=>by
  simp only[p2,tJ,Nat.pow_zero,nk] at h;have:2^a*2*(2*b+1)=2*(2^a*(2*b+1)):=by rw[kr (2^a) 2,qz]
  omega
 |a+1,b,c+1,d,h=>by
  have h2:p2 a b=p2 c d:=by
   simp only[p2,tJ] at h ⊢;have e1:2^a*2*(2*b+1)=2*(2^a*(2*b+1)):=(by rw[kr (2^a) 2,qz]);have e2:2^c*2*(2*d+1)=2*(2^c*(2*d+1)):=(by rw[kr (2^c) 2,qz]);omega
  have:=Wh h2;omega
def Lb.enc:Lb→Nat
 | .loc n=>p2 0 n
 | .par n=>p2 1 n
 | .gen n=>p2 2 n
 | .nest l i j=>p2 3 (p2 l.enc (p2 i j))
theorem Lb.acY:∀l l':Lb,l.enc=l'.enc→l=l'
 | .loc n,.loc m,h=>by rw[(Wh h).2]
 | .par n,.par m,h=>by rw[(Wh h).2]
 | .gen n,.gen m,h=>by rw[(Wh h).2]
 | .nest l i j,.nest l' i' j',h=>by
  have h1:=Wh (Wh h).2;have h2:=Wh h1.2;rw[Lb.acY l l' h1.1,h2.1,h2.2]
 | .loc n,.par m,h=>by have:=(Wh h).1;omega
 | .loc n,.gen m,h=>by have:=(Wh h).1;omega
 | .loc n,.nest _ _ _,h=>by have:=(Wh h).1;omega
 | .par n,.loc m,h=>by have:=(Wh h).1;omega
 | .par n,.gen m,h=>by have:=(Wh h).1;omega
 | .par n,.nest _ _ _,h=>by have:=(Wh h).1;omega
 | .gen n,.loc m,h=>by have:=(Wh h).1;omega
 | .gen n,.par m,h=>by have:=(Wh h).1;omega
 | .gen n,.nest _ _ _,h=>by have:=(Wh h).1;omega
 | .nest _ _ _,.loc m,h=>by have:=(Wh h).1;omega
 | .nest _ _ _,.par m,h=>by have:=(Wh h).1;omega
 | .nest _ _ _,.gen m,h=>by have:=(Wh h).1;omega
def NW (c:Nat) (l:Lb):Lb:= .nest (.loc c) l.enc 1
def aeH (c:Nat):∀l l',NW c l=NW c l'→l=l':=fun l l' h=>Lb.acY _ _ (by simpa[NW] using h)
def NC (c:Nat) (l:Lb):Lb:= .nest l c 2
def Yo (c:Nat):∀l l',NC c l=NC c l'→l=l':=fun l l' h=>by simpa[NC] using h
def adx (sz:Nat) (xs:List IV):uR where
 row _ p:=if p=0 then some ⟨sz,aB xs⟩ else none
 nat lab ρ p:=by by_cases h:p=0<;>simp[h,dy]
 an lab p r h cs bV q hq:=by
  by_cases h0:p=0
  ·simp[h0] at h;subst h;rw[bU bV] at hq;simp at hq
  simp[h0] at h
def Y7 {sz:Nat} {xs:List IV} {p:Nat}:(adx sz xs).ok p↔p=0:=by
 unfold uR.ok adx;by_cases h:p=0<;>simp[h]
def aeI:uR where
 row _ _:=none
 nat _ _ _:=rfl
 an _ _ _ h:=by cases h
def Y8 {p:Nat}:¬aeI.ok p:=by simp[uR.ok,aeI]
def agU:Lx aeI=Hp.none:=by
 funext q;exact Qa _ fun p hp=>absurd hp Y8
abbrev aa4 (P:Program) (G:Nat→Option (List IV)) (f:Nat) (args:List AV) (sz:Nat) (xs:List IV):Prop:=
 Jg P G f args aeI [] fun X R2=>X=(fun lab=> .sl (lab 0) sz 0 xs.length)∧R2=adx sz xs
def aaI {P:Program} {G:Nat→Option (List IV)} {f:Nat} {n:Nat} {rs:List RO} {ac:AC} {args:List AV} {sz:Nat} {xs:List IV}
  (hF:aw P G f=some (n,rs,ac.bare)) (hn:args.length≤n) (ha:ah args=[])
  (hg:go ⟨P,G,n⟩ (fX rs fun x H'=>∃L,x= .sl L sz 0 xs.length∧H' L= .live ⟨sz,aB xs⟩) [.code ac] (jP args) Hp.none):aa4 P G f args sz xs:=by
 refine⟨by rw[ha];simp,?_⟩;rw[agU];refine(WY hF hn (by intro l ⟨r,h⟩;simp[Hp.none] at h) (by rw[ha];simp) hg).mono ?_;rintro x H ⟨L,hx,hL⟩;refine⟨⟨fun lab=> .sl (lab 0) sz 0 xs.length,adx sz xs,fun _=>L⟩,⟨rfl,rfl⟩,fun ρ=>rfl,fun l hl=>⟨0,Y7.2 rfl,?_⟩,hx,⟨fun p r hr=> ?_,fun p q hp hq _=>(Y7.1 hp).trans (Y7.1 hq).symm⟩,by simp⟩
 ·rw[hx] at hl;simpa[AV.an] using hl
 simp only[adx] at hr;by_cases h:p=0
 ·simp[h] at hr;subst hr;exact hL
 simp[h] at hr

section
variable {S:St} {env:Env} {H:Hp}
def aH.R7 {K:Kx} {β:Lb→Option Nat} {a:Act} {w:World} (hr:aH K β env H a w) {l:Lb} {sz:Nat} {els QX:List (List AV)} (hl:H l= .live ⟨sz,els⟩) (g:Nat) (hb:β l=some g)
   (hlen:∀cur e cap,w.heap[g]?=some (.cells cur e (0,0))→cur.size=cap*sz→els.length≤cap→QX.length≤cap) (bV:∀cs∈QX,cs.length=sz) (hm:∀cs∈QX,∀q∈ah cs,H q≠ .unused)
   (hc:∀(i j:Nat) cs x,QX[i]?=some cs→cs[j]?=some x→x= .any∨∃wy,els[i]?=some wy∧wy[j]?=some x):aH K β env (bD H l (.live ⟨sz,QX⟩)) a w:=by
 obtain⟨cur,e0,cap,k1,k2,k3,k4,k5⟩:=(hr.rows l _ hl).block hb
 have vf:=hr.setRow l (r':=⟨sz,QX⟩) (cur':=cur) (cap:=cap) hl hb k1 rfl rfl k2 k3 (hlen cur e0 cap k1 k2 k4) bV hm (by
   intro i j cs x hi hj
   rcases hc i j cs x hi hj with rfl|⟨wy,h1,h2⟩
   · have CQ:j<sz:=by
       have:=bV cs (aV hi)
       have:=(aI.1 hj).1
       omega
     have XV:i<QX.length:=(aI.1 hi).1
     have zD:=hlen cur e0 cap k1 k2 k4
     have:i*sz+j<cur.size:=by
       rw[k2]
       have:=ct sz (show i+1≤cap by omega)
       rw[cQ] at this
       simp only at this ⊢
       omega
     exact⟨cur[i*sz+j],ff this,by simp[RV]⟩
   exact k5 i j wy x h1 h2)
 rw[setRow_self w g cur e0 (0,0) k1] at vf
 exact vf
def RB {l:Lb} {r:Row} (h:H l= .live r):bD H l (.live r)=H:=by
 funext q;by_cases e:q=l
 ·subst e;simp[h]
 rw[aq _ _ e]
def Z8 {d:Nat} {l:Lb} {sz n:Nat} {els:List (List AV)} (hd:env d= .sl l sz 0 n) (hl:H l= .live ⟨sz,els⟩) :
  Choice S env H {c:Nat // n≤c∧c≤maxLen} (fun c=>put env d (.slk l sz 0 n c.1)) (fun c=>bD H l (.live ⟨sz,els++List.replicate (c.1 - els.length) (List.replicate sz .any)⟩)):=by
 intro K β a w hS hf hr;have hv:=hr.N8 d;rw[hd] at hv;simp only[RV] at hv;obtain⟨ad,c,h1,h2,h3,h4,h5⟩:=hv;have gm:0<sz:=(hr.rows l _ hl).1;refine⟨⟨c,h2,h3⟩,β,?_⟩;have pT:aH K β env (bD H l (.live ⟨sz,els++List.replicate (c - els.length) (List.replicate sz .any)⟩)) a w:=by
  rcases h5 ⟨_,hl⟩ with h6|⟨g,Sz,g1,g2,g3,g4⟩
  ·subst h6;simp only[Nat.zero_sub,List.replicate_zero,bO];rw[RB hl];exact hr
  refine hr.R7 hl g g1 ?_ ?_ ?_ ?_
  ·intro cur e cap k1 k2 k4;have hS:cur.size=Sz:=by
    unfold jl at g3;simp only[k1] at g3;simpa using g3
   have:(0+c)*sz=cap*sz:=(by rw[g4,←hS,k2]);have:=qx gm this;simp;omega
  ·intro cs bV;rcases aY.1 bV with h|h
   ·exact(hr.rows l _ hl).2.1 cs h
   rw[gR h];simp
  ·intro cs bV q hq;rcases aY.1 bV with h|h
   ·exact hr.cH l _ hl cs h q hq
   rw[gR h] at hq;have:∀m:Nat,ah (List.replicate m AV.any)=[]:=by
    intro m;induction m with
    |zero=>rfl
    |succ m ih=>simp[List.replicate_succ,ah,AV.an,ih]
   rw[this] at hq;simp at hq
  intro i j cs x hi hj;by_cases h:i<els.length
  ·rw[bB h] at hi;exact .inr ⟨cs,hi,hj⟩
  rw[b_ (by omega),kP] at hi;split at hi
  ·simp only[di] at hi;subst hi;rw[kP] at hj;split at hj
   ·simp only[di] at hj;exact .inl hj.symm
   simp at hj
  simp at hi
 refine um pT d ?_ (by simp[AV.an]);simp only[RV];refine⟨ad,h1,h2,h3,?_,fun _=>h5 ⟨_,hl⟩⟩;intro hc;rcases h5 ⟨_,hl⟩ with h6|⟨g,Sz,g1,g2,g3,g4⟩
 ·omega
 rw[g2];rfl
end

section
variable {K:Kx} {β:Lb→Option Nat} {env:Env} {H:Hp} {a:Act} {w:World}
def aH.trim (hr:aH K β env H a w) {l:Lb} {sz:Nat} {els:List (List AV)} (k:Nat) (hl:H l= .live ⟨sz,els⟩):aH K β env (bD H l (.live ⟨sz,els.take k⟩)) a w:=by
 cases hb:β l with
 |none=>
  have:=(hr.rows l _ hl).2.2;simp only[hb] at this;subst this;simp only[List.take_nil];rw[RB hl];exact hr
 |some g=>
 refine hr.R7 hl g hb ?_ ?_ ?_ ?_
 ·intro cur e cap k1 k2 k4;rw[cT];omega
 ·exact fun cs bV=>(hr.rows l _ hl).2.1 cs (ec bV)
 ·exact fun cs bV=>hr.cH l _ hl cs (ec bV)
 intro i j cs x hi hj;rw[cf] at hi;split at hi
 ·exact .inr ⟨cs,hi,hj⟩
 simp at hi
end
def Z9 {P:Program} {G:Nat→Option (List IV)} {f:Nat} {n:Nat} {rs:List RO} {ac:AC} {args:List AV} {sz:Nat} {xs ys:List IV}
  (hF:aw P G f=some (n,rs,ac.bare)) (hn:args.length≤n) (ha:∀l∈ah args,l= .par 0)
  (hg:go ⟨P,G,n⟩ (fX rs fun x H'=>∃L c els,(x= .sl L sz 0 ys.length∨x= .slk L sz 0 ys.length c)∧H' L= .live ⟨sz,aB ys++els⟩) [.code ac] (jP args) (df sz xs)):tq P G sz f args xs ys:=by
 refine⟨ha,?_⟩;have h0:=WY hF hn ?_ ?_ hg
 ·intro w A β vs hr hv;refine(h0 w A β vs hr hv).mono ?_;rintro e w' ⟨v,x,H1,β',rfl,⟨L,c,els,hx,hL⟩,lz,wT,hm⟩;have ht:=lz.trim ys.length hL;rw[show(aB ys++els).take ys.length=aB ys by rw[←lQ ys,List.take_left]] at ht;have aK:∀q,live (bD H1 L (.live ⟨sz,aB ys⟩)) q→live H1 q:=by
   rintro q ⟨r,hq⟩;by_cases e:q=L
   ·subst e;exact⟨_,hL⟩
   rw[aq _ _ e] at hq;exact⟨r,hq⟩
  refine⟨v,.sl L sz 0 ys.length,_,β',rfl,⟨L,rfl,by simp⟩,ht,?_,by simp[AV.an]⟩;simp only[RV];rcases hx with rfl|rfl
  ·simp only[RV] at wT;obtain⟨ad,c,g1,g2,g3,g4,g5⟩:=wT;exact⟨ad,c,g1,g2,g3,g4,fun hl=>g5 (aK _ hl)⟩
  simp only[RV] at wT;obtain⟨ad,g1,g2,g3,g4,g5⟩:=wT;exact⟨ad,c,g1,g2,g3,fun h=>g4 (by omega),fun hl=>g5 (aK _ hl)⟩
 ·rintro l ⟨r,h⟩;by_cases e:l= .par 0
  ·subst e;rfl
  rw[df,aq _ _ e] at h;simp[Hp.none] at h
 intro l hl;rw[ha l hl];simp[df]
def Y9 {S:St} {f:Nat} {fn:Func} (hf:S.P.funcs[f]?=some fn) (yA:(fn.name== "runtime.NumGoroutine")=false) (hb:fn.body.isNone=true)
  (hn:Extern.findNext fn=none) {tS tR e:TypeId} (he:Extern.find fn=some (Extern.SlicesOverlaps.overlaps #[tS,tS] #[tR])) (ht:S.P.underlying tS=some (.slice e)) {size:Nat} (hz:∀w,(Go.sizeOf e).run S.P w= .ok size w)
  {vs:List IV} (hv:vs≠[]) {l:Lb} {sz i n c:Nat} {r:Row} {H:Hp} (hl:H l= .live r) (h0:0<n):sZ S f [.list vs,.slk l sz i n c] H (.bool false):=by
 intro K β env a w ws hS ju hws;subst hS
 match ws,hws with
 |[u,v],h=>
  simp only[br] at h;obtain⟨_,_,e0,h1,_,_,e2,h3,e4⟩:=h;cases e0;cases e2;cases e4;simp only[RV,NN] at h1 h3;obtain⟨ad,c1,rfl,g1,g2,g3⟩:=h1;obtain⟨ad2,rfl,k1,k2,k3,k4⟩:=h3;have Hl:vs.length≠0:=fun e=>hv (gd.1 e);rcases g3 with g3|⟨b,o,s2,rfl,g4,g5,g6,g7⟩
  ·exact absurd g3 Hl
  rcases k4 ⟨_,hl⟩ with k4|⟨g,Sz,q1,rfl,q3,q4⟩
  ·omega
  have pT:=ju.rows l r hl;obtain⟨cur,ee,cap,p1,p2,p3,p4,p5⟩:=pT.block q1;obtain⟨y,Hh,rfl⟩:∃y Hh,vs=y::Hh:=by cases vs with|nil=>exact absurd rfl hv|cons y q=>exact⟨y,q,rfl⟩
  simp only[bH] at g7;have kG:∃z,w.cell? ⟨b,o,none⟩=some z:=by
   have:=g7.1;rw[eH] at this;obtain⟨hs,hc⟩:=this;cases bV:y.cells with
   |nil=>rw[bV] at hs;simp at hs;omega
   |cons c0 cr=>
   rw[bV] at hc;simp only[bK] at hc;obtain⟨⟨z,hz,_⟩,_⟩:=hc;exact⟨z,hz⟩
  obtain⟨z,ln⟩:=kG;obtain⟨cb,eb,fb,ahM⟩:∃cb eb fb,w.heap[b]?=some (.cells cb eb fb):=by
   unfold World.cell? at ln;simp only at ln;split at ln
   ·rename_i cb eb fb hb;exact⟨cb,eb,fb,hb⟩
   cases ln
  have hcb:cb.size≠0:=by
   intro e;unfold World.cell? at ln;simp only[ahM] at ln;simp at ln;have:cb=#[]:=Array.eq_empty_of_size_eq_zero e
   subst this;simp at ln
  have Vi:b≠g:=by
   rintro rfl;exact g4.2 l ⟨_,hl⟩ q1
  have K0:(b !=g)=true:=by simpa using Vi
  have aiv:(b==g)=false:=by simpa using Vi
  refine⟨.bool false,w,?_,Below.refl _ _,by simp[RV],by simp[AV.an]⟩;rw[run_callFunc_extern hf yA hb hn he];have ahN:(Extern.SlicesOverlaps.overlaps #[tS,tS] #[tR] #[.slice (some ⟨b,o,none⟩) (y::Hh).length c1,.slice (some ⟨g,i*sz,none⟩) n c]).run K.P w= .ok (.bool false) w:=by
   unfold Extern.SlicesOverlaps.overlaps
   rw[show ∀(p:Option Addr) (k d:Nat) (q:Option Addr) (k' d':Nat) (h1:Option Addr→Nat→Nat→Option Addr→Nat→Nat→Sem Value) (h2:Array Value→Sem Value),Extern.SlicesOverlaps.overlaps.match_4 (fun _=>Sem Value) #[.slice p k d,.slice q k' d'] h1 h2=h1 p k d q k' d' from fun _ _ _ _ _ _ _ _=>rfl]
   have hsa:w.shape? b=some (eb,cb.size):=(by simp[World.shape?,ahM]);have hsb:w.shape? g=some (ee,cur.size):=(by simp[World.shape?,p1]);have hfz:∀off,w.frozen? ⟨g,off,none⟩=false:=fun off=>(by simp[World.frozen?,p1]);obtain⟨kB,hkB⟩:∃kB,cb.size=kB+1:=⟨cb.size - 1,by omega⟩;by_cases h0:(y::Hh).length=0∨n=0∨size=0
   ·simp[run_underlying ht,hz,h0];rcases h0 with h0|h0|h0
    ·simp at h0
    ·omega
    simp[h0]
   have u7:size≠0:=fun e=>h0 (.inr (.inr e));have wq:n≠0:=by omega
   cases hfa:w.frozen? ⟨b,o,none⟩<;>cases hfe:w.frozen? ⟨b,cb.size,none⟩ <;>
    simp[run_underlying ht,hz,h0,K0,aiv,frozen,noView,viewAt,mayBeOne,stringish,shape,Sem.run,hsa,hsb,hfz,hkB,hfa,u7,wq]<;>rw[hkB] at hfe<;>simp[hfe]
  rw[ahN];rfl

structure Bn where
 n0:Nat
 nodes:List Node
 fs:List Int
 as:List Int
def Bn.at (b:Bn) (i:Nat):List Attr:=match b.nodes[i]? with|some x=>x.attrs|none=>[]
def Bn.kd (b:Bn) (i:Nat):List Int:=match b.nodes[i]? with|some x=>x.kids|none=>[]
def Bn.SK {b:Bn} {i:Nat} {x:Node} (h:b.nodes[i]?=some x):b.at i=x.attrs:=by simp[Bn.at,h]
def Bn.Ru {b:Bn} {i:Nat} {x:Node} (h:b.nodes[i]?=some x):b.kd i=x.kids:=by simp[Bn.kd,h]
def NI (n0:Nat) (lab:Nat→Lb) (i:Nat) (x:Node):List AV:=
 [.bool x.text,.str x.s,if i<n0 then .sl (lab (4+2*i)) 2 0 x.attrs.length else .list (cD x.attrs),.int .i64 x.parent,if i<n0 then .sl (lab (5+2*i)) 1 0 x.kids.length else .list (x.kids.map xX)]
def Ps (b:Bn) (lab:Nat→Lb) (p:Nat):Option Row:=
 if p=0 then some ⟨3,[[.sl (lab 1) 5 0 b.nodes.length,.sl (lab 2) 1 0 b.fs.length,.sl (lab 3) 1 0 b.as.length]]⟩
 else if p=1 then some ⟨5,b.nodes.mapIdx (NI b.n0 lab)⟩
 else if p=2 then some ⟨1,aB (b.fs.map xX)⟩
 else if p=3 then some ⟨1,aB (b.as.map xX)⟩
 else if p<4+2*b.n0 then(if p%2=0 then some ⟨2,aB (cD (b.at ((p - 4)/2)))⟩ else some ⟨1,aB ((b.kd ((p - 5)/2)).map xX)⟩)
 else none
def RR (n0:Nat) (lab:Nat→Lb) (ρ:Lb→Lb) (i:Nat) (x:Node):bu ρ (NI n0 lab i x)=NI n0 (fun i=>ρ (lab i)) i x:=by
 unfold NI;by_cases h:i<n0<;>simp[bu,bJ,h]
def RS {n0:Nat} {lab:Nat→Lb} {i:Nat} {x:Node} {q:Lb} (h:q∈ah (NI n0 lab i x)):i<n0∧(q=lab (4+2*i)∨q=lab (5+2*i)):=by
 unfold NI at h;by_cases hi:i<n0
 ·simpa[ah,AV.an,hi] using h
 simp[ah,AV.an,hi] at h
def Od {b:Bn} {lab:Nat→Lb} {p:Nat}:(Ps b lab p).isSome=true↔p<4+2*b.n0:=by
 unfold Ps;by_cases h0:p=0
 ·simp[h0];omega
 by_cases h1:p=1
 ·simp[h1];omega
 by_cases h2:p=2
 ·simp[h2];omega
 by_cases h3:p=3
 ·simp[h3];omega
 by_cases h4:p<4+2*b.n0
 ·by_cases h5:p%2=0<;>simp[h0,h1,h2,h3,h4,h5]
 simp[h0,h1,h2,h3,h4]
def Ut (b:Bn):uR where
 row:=Ps b
 nat lab ρ p:=by
  unfold Ps;by_cases h0:p=0
  ·simp[h0,dO,bu,bJ]
  by_cases h1:p=1
  ·simp only[h1,a_ (show ¬(1:Nat)=0 by decide),eT,bT,di,dO,Row.mk.injEq,dK];refine fe fun i=> ?_;simp only[cn,ik,Option.map_map];congr 1;funext x;exact(RR _ _ _ _ _).symm
  by_cases h2:p=2
  ·simp[h2,dy]
  by_cases h3:p=3
  ·simp[h3,dy]
  by_cases h4:p<4+2*b.n0
  ·by_cases h5:p%2=0<;>simp[h0,h1,h2,h3,h4,h5,dy]
  simp[h0,h1,h2,h3,h4]
 an lab p r hr cs bV q hq:=by
  unfold Ps at hr;by_cases h0:p=0
  ·simp[h0] at hr;subst hr;simp only[aW] at bV;subst bV;simp[ah,AV.an] at hq;rcases hq with rfl|rfl|rfl
   ·exact⟨1,Od.2 (by omega),rfl⟩
   ·exact⟨2,Od.2 (by omega),rfl⟩
   exact⟨3,Od.2 (by omega),rfl⟩
  by_cases h1:p=1
  ·simp[h1] at hr;subst hr;simp only at bV;obtain⟨i,hi⟩:=c_ bV;rw[ik] at hi;obtain⟨x,_,rfl⟩:=aP.1 hi;obtain⟨h5,h6⟩:=RS hq;rcases h6 with rfl|rfl
   ·exact⟨4+2*i,Od.2 (by omega),rfl⟩
   exact⟨5+2*i,Od.2 (by omega),rfl⟩
  have key:∀(sz:Nat) (xs:List IV),r=⟨sz,aB xs⟩→False:=by
   rintro sz xs rfl;rw[bU bV] at hq;simp at hq
  exfalso;by_cases h2:p=2
  ·simp[h2] at hr;exact key _ _ hr.symm
  by_cases h3:p=3
  ·simp[h3] at hr;exact key _ _ hr.symm
  by_cases h4:p<4+2*b.n0
  ·by_cases h5:p%2=0
   ·simp[h0,h1,h2,h3,h4,h5] at hr;exact key _ _ hr.symm
   simp[h0,h1,h2,h3,h4,h5] at hr;exact key _ _ hr.symm
  simp[h0,h1,h2,h3,h4] at hr
def OO {b:Bn} {p:Nat}:(Ut b).ok p↔p<4+2*b.n0:=Od
def Pt {b:Bn} {lab:Nat→Lb} {i:Nat} (h:i<b.n0):Ps b lab (4+2*i)=some ⟨2,aB (cD (b.at i))⟩:=by
 unfold Ps;rw[a_ (by omega),a_ (by omega),a_ (by omega),a_ (by omega),bf (by omega),bf (by omega),show(4+2*i - 4)/2=i by omega]
def Pu {b:Bn} {lab:Nat→Lb} {i:Nat} (h:i<b.n0):Ps b lab (5+2*i)=some ⟨1,aB ((b.kd i).map xX)⟩:=by
 unfold Ps;rw[a_ (by omega),a_ (by omega),a_ (by omega),a_ (by omega),bf (by omega),a_ (by omega),show(5+2*i - 5)/2=i by omega]
abbrev Oi (lab:Nat→Lb) (b:Bn) (H:Hp):Prop:=Ed lab (Ut b) H
section
variable {lab:Nat→Lb} {b:Bn} {H H2:Hp}
def Oi.s (h:Oi lab b H):H (lab 0)= .live ⟨3,[[.sl (lab 1) 5 0 b.nodes.length,.sl (lab 2) 1 0 b.fs.length,.sl (lab 3) 1 0 b.as.length]]⟩:=h.row 0 _ rfl
def Oi.n (h:Oi lab b H):H (lab 1)= .live ⟨5,b.nodes.mapIdx (NI b.n0 lab)⟩:=h.row 1 _ rfl
def Oi.f (h:Oi lab b H):H (lab 2)= .live ⟨1,aB (b.fs.map xX)⟩:=h.row 2 _ rfl
def Oi.a (h:Oi lab b H):H (lab 3)= .live ⟨1,aB (b.as.map xX)⟩:=h.row 3 _ rfl
def Oi.at' (h:Oi lab b H) {i:Nat} {x:Node} (hi:i<b.n0) (hx:b.nodes[i]?=some x):H (lab (4+2*i))= .live ⟨2,aB (cD x.attrs)⟩:=by
 have:=h.row _ _ (Pt hi)
 rwa[Bn.SK hx] at this
def Oi.kd (h:Oi lab b H) {i:Nat} {x:Node} (hi:i<b.n0) (hx:b.nodes[i]?=some x):H (lab (5+2*i))= .live ⟨1,aB (x.kids.map xX)⟩:=by
 have:=h.row _ _ (Pu hi)
 rwa[Bn.Ru hx] at this
def Oi.ne (h:Oi lab b H) {p q:Nat} (hp:p<4+2*b.n0) (hq:q<4+2*b.n0) (e:p≠q):lab p≠lab q:=fun e2=>e (h.inj p q (OO.2 hp) (OO.2 hq) e2)
def Bn.set (b:Bn) (i:Nat) (y:Node):Bn:={b with nodes:=b.nodes.set i y}
def Bn.put (b:Bn) (y:Node):Bn:={b with nodes:=b.nodes++[y]}
def Bn.TR (b:Bn) (i:Nat) (y:Node) (lab:Nat→Lb):(b.set i y).nodes.mapIdx (NI (b.set i y).n0 lab)=(b.nodes.mapIdx (NI b.n0 lab)).set i (NI b.n0 lab i y):=by
 refine fe fun j=> ?_;simp only[Bn.set,ik,gT,cz];by_cases e:i=j
 ·subst e;by_cases hl:i<b.nodes.length<;>simp[hl]
 simp[e]
def Bn.TS (b:Bn) (y:Node) (lab:Nat→Lb):(b.put y).nodes.mapIdx (NI (b.put y).n0 lab)=b.nodes.mapIdx (NI b.n0 lab)++[NI b.n0 lab b.nodes.length y]:=by
 simp[Bn.put,qv]
def Oi.lists (h:Oi lab b H) {p:Nat} (h4:4≤p) (hp:p<4+2*b.n0):∃i,i<b.n0∧(p=4+2*i∨p=5+2*i):=by
 by_cases e:p%2=0
 ·exact⟨(p - 4)/2,by omega,by omega⟩
 exact⟨(p - 5)/2,by omega,by omega⟩
def Oi.mk' {lab:Nat→Lb} {b:Bn} {H:Hp} (hi:∀p q,p<4+2*b.n0→q<4+2*b.n0→lab p=lab q→p=q)
  (h0:H (lab 0)= .live ⟨3,[[.sl (lab 1) 5 0 b.nodes.length,.sl (lab 2) 1 0 b.fs.length,.sl (lab 3) 1 0 b.as.length]]⟩) (h1:H (lab 1)= .live ⟨5,b.nodes.mapIdx (NI b.n0 lab)⟩)
  (h2:H (lab 2)= .live ⟨1,aB (b.fs.map xX)⟩) (h3:H (lab 3)= .live ⟨1,aB (b.as.map xX)⟩)
  (h4:∀i,i<b.n0→H (lab (4+2*i))= .live ⟨2,aB (cD (b.at i))⟩) (h5:∀i,i<b.n0→H (lab (5+2*i))= .live ⟨1,aB ((b.kd i).map xX)⟩):Oi lab b H:=by
 refine⟨fun p r hp=> ?_,fun p q hp hq=>hi p q (OO.1 hp) (OO.1 hq)⟩;have bI:p<4+2*b.n0:=Od.1 (show(Ps b lab p).isSome=true by change Ps b lab p=some r at hp;rw[hp];rfl);change Ps b lab p=some r at hp;by_cases e0:p=0
 ·subst e0;cases hp;exact h0
 by_cases e1:p=1
 ·subst e1;cases hp;exact h1
 by_cases e2:p=2
 ·subst e2;cases hp;exact h2
 by_cases e3:p=3
 ·subst e3;cases hp;exact h3
 by_cases e:p%2=0
 ·obtain⟨i,rfl⟩:∃i,p=4+2*i:=⟨(p - 4)/2,by omega⟩;rw[Pt (by omega)] at hp;cases hp;exact h4 i (by omega)
 obtain⟨i,rfl⟩:∃i,p=5+2*i:=⟨(p - 5)/2,by omega⟩;rw[Pu (by omega)] at hp;cases hp;exact h5 i (by omega)
def Bn.Th (b:Bn) {i:Nat} {x y:Node} (hx:b.nodes[i]?=some x) (j:Nat):(b.set i y).at j=if j=i then y.attrs else b.at j:=by
 have hl:=(aI.1 hx).1;simp only[Bn.at,Bn.set,gT];by_cases e:i=j
 ·subst e;simp[hl]
 simp[e,dL e]
def Bn.Ti (b:Bn) {i:Nat} {x y:Node} (hx:b.nodes[i]?=some x) (j:Nat):(b.set i y).kd j=if j=i then y.kids else b.kd j:=by
 have hl:=(aI.1 hx).1;simp only[Bn.kd,Bn.set,gT];by_cases e:i=j
 ·subst e;simp[hl]
 simp[e,dL e]
def Oi.ahO (h:Oi lab b H) {i:Nat} {x:Node} {s:Bs} (hx:b.nodes[i]?=some x)
  (h1:H2 (lab 1)= .live ⟨5,(b.nodes.mapIdx (NI b.n0 lab)).set i (NI b.n0 lab i {x with s:=s})⟩) (h2:∀q,q≠lab 1→H2 q=H q):Oi lab (b.set i {x with s:=s}) H2:=by
 have Vi:∀p,p<4+2*b.n0→p≠1→lab p≠lab 1:=fun p hp e=>h.ne hp (by omega) e;refine Oi.mk' (fun p q hp hq=>h.inj p q (OO.2 hp) (OO.2 hq)) ?_ ?_ ?_ ?_ ?_ ?_
 ·rw[h2 _ (Vi 0 (by omega) (by omega)),h.s];simp[Bn.set]
 ·rw[h1,Bn.TR]
 ·rw[h2 _ (Vi 2 (by omega) (by omega)),h.f];rfl
 ·rw[h2 _ (Vi 3 (by omega) (by omega)),h.a];rfl
 ·intro j hj;change j<b.n0 at hj;rw[h2 _ (Vi _ (by omega) (by omega)),h.row _ _ (Pt hj),b.Th hx];split
  ·rename_i e;subst e;rw[Bn.SK hx]
  rfl
 intro j hj;change j<b.n0 at hj;rw[h2 _ (Vi _ (by omega) (by omega)),h.row _ _ (Pu hj),b.Ti hx];split
 ·rename_i e;subst e;rw[Bn.Ru hx]
 rfl
def Oi.afQ (h:Oi lab b H) {i:Nat} {x:Node} {ys:List Int} {N:Lb} (hi:i<b.n0) (hx:b.nodes[i]?=some x) (hN:N=lab (5+2*i)∨∀p,p<4+2*b.n0→lab p≠N)
  (h1:H2 (lab 1)= .live ⟨5,(b.nodes.mapIdx (NI b.n0 lab)).set i [.bool x.text,.str x.s,.sl (lab (4+2*i)) 2 0 x.attrs.length,.int .i64 x.parent,.sl N 1 0 ys.length]⟩)
  (h2:H2 N= .live ⟨1,aB (ys.map xX)⟩) (h3:∀q,q≠lab 1→q≠N→q≠lab (5+2*i)→H2 q=H q) :
  Oi (fun p=>if p=5+2*i then N else lab p) (b.set i {x with kids:=ys}) H2:=by
 have Vi:∀p,p<4+2*b.n0→p≠1→lab p≠lab 1:=fun p hp e=>h.ne hp (by omega) e;have Ry:∀p,p<4+2*b.n0→p≠5+2*i→lab p≠lab (5+2*i):=fun p hp e=>h.ne hp (by omega) e;have Ra:∀p,p<4+2*b.n0→p≠5+2*i→lab p≠N:=fun p hp e=>by
  rcases hN with rfl|hN
  ·exact Ry p hp e
  exact hN p hp
 have j0:∀p,p<4+2*b.n0→p≠1→p≠5+2*i→H2 (lab p)=H (lab p):=fun p hp e1 e2=>h3 _ (Vi p hp e1) (Ra p hp e2) (Ry p hp e2);have hj:∀p,p≠5+2*i→(if p=5+2*i then N else lab p)=lab p:=fun p e=>a_ e;refine Oi.mk' ?_ ?_ ?_ ?_ ?_ ?_ ?_
 ·intro p q hp hq e;change p<4+2*b.n0 at hp;change q<4+2*b.n0 at hq;by_cases e1:p=5+2*i<;>by_cases e2:q=5+2*i
  ·rw[e1,e2]
  ·rw[bf e1,a_ e2] at e;exact absurd e.symm (Ra q hq e2)
  ·rw[a_ e1,bf e2] at e;exact absurd e (Ra p hp e1)
  rw[a_ e1,a_ e2] at e;exact h.inj p q (OO.2 hp) (OO.2 hq) e
 ·simp only[hj 0 (by omega),hj 1 (by omega),hj 2 (by omega),hj 3 (by omega)];rw[j0 0 (by omega) (by omega) (by omega),h.s];simp[Bn.set]
 ·simp only[hj 1 (by omega)];rw[h1,Bn.TR];congr 2;refine fe fun j=> ?_;simp only[gT,cz,ik];by_cases e:i=j
  ·subst e;simp only[eT];congr 1;simp[NI,hi,hj (4+2*i) (by omega)]
  simp only[e,fH];congr 1;funext z;simp only[NI];rw[a_ (show ¬4+2*j=5+2*i by omega),a_ (show ¬5+2*j=5+2*i by omega)]
 ·simp only[hj 2 (by omega)];rw[j0 2 (by omega) (by omega) (by omega),h.f];rfl
 ·simp only[hj 3 (by omega)];rw[j0 3 (by omega) (by omega) (by omega),h.a];rfl
 ·intro j FE;change j<b.n0 at FE;simp only[hj (4+2*j) (by omega)];rw[j0 _ (by omega) (by omega) (by omega),h.row _ _ (Pt FE),b.Th hx];split
  ·rename_i e;subst e;rw[Bn.SK hx]
  rfl
 intro j FE;change j<b.n0 at FE;rw[b.Ti hx];by_cases e:j=i
 ·subst e;simp only[eT];exact h2
 simp only[hj (5+2*j) (by omega),e,fH];rw[j0 _ (by omega) (by omega) (by omega),h.row _ _ (Pu FE)]
def Oi.eh (h:Oi lab b H) {i:Nat} {x:Node} {ys:List Attr} {N:Lb} (hi:i<b.n0) (hx:b.nodes[i]?=some x) (hN:N=lab (4+2*i)∨∀p,p<4+2*b.n0→lab p≠N)
  (h1:H2 (lab 1)= .live ⟨5,(b.nodes.mapIdx (NI b.n0 lab)).set i [.bool x.text,.str x.s,.sl N 2 0 ys.length,.int .i64 x.parent,.sl (lab (5+2*i)) 1 0 x.kids.length]⟩)
  (h2:H2 N= .live ⟨2,aB (cD ys)⟩) (h3:∀q,q≠lab 1→q≠N→q≠lab (4+2*i)→H2 q=H q) :
  Oi (fun p=>if p=4+2*i then N else lab p) (b.set i {x with attrs:=ys}) H2:=by
 have Vi:∀p,p<4+2*b.n0→p≠1→lab p≠lab 1:=fun p hp e=>h.ne hp (by omega) e;have Ry:∀p,p<4+2*b.n0→p≠4+2*i→lab p≠lab (4+2*i):=fun p hp e=>h.ne hp (by omega) e;have Ra:∀p,p<4+2*b.n0→p≠4+2*i→lab p≠N:=fun p hp e=>by
  rcases hN with rfl|hN
  ·exact Ry p hp e
  exact hN p hp
 have j0:∀p,p<4+2*b.n0→p≠1→p≠4+2*i→H2 (lab p)=H (lab p):=fun p hp e1 e2=>h3 _ (Vi p hp e1) (Ra p hp e2) (Ry p hp e2);have hj:∀p,p≠4+2*i→(if p=4+2*i then N else lab p)=lab p:=fun p e=>a_ e;refine Oi.mk' ?_ ?_ ?_ ?_ ?_ ?_ ?_
 ·intro p q hp hq e;change p<4+2*b.n0 at hp;change q<4+2*b.n0 at hq;by_cases e1:p=4+2*i<;>by_cases e2:q=4+2*i
  ·rw[e1,e2]
  ·rw[bf e1,a_ e2] at e;exact absurd e.symm (Ra q hq e2)
  ·rw[a_ e1,bf e2] at e;exact absurd e (Ra p hp e1)
  rw[a_ e1,a_ e2] at e;exact h.inj p q (OO.2 hp) (OO.2 hq) e
 ·simp only[hj 0 (by omega),hj 1 (by omega),hj 2 (by omega),hj 3 (by omega)];rw[j0 0 (by omega) (by omega) (by omega),h.s];simp[Bn.set]
 ·simp only[hj 1 (by omega)];rw[h1,Bn.TR];congr 2;refine fe fun j=> ?_;simp only[gT,cz,ik];by_cases e:i=j
  ·subst e;simp only[eT];congr 1;simp[NI,hi,hj (5+2*i) (by omega)]
  simp only[e,fH];congr 1;funext z;simp only[NI];rw[a_ (show ¬4+2*j=4+2*i by omega),a_ (show ¬5+2*j=4+2*i by omega)]
 ·simp only[hj 2 (by omega)];rw[j0 2 (by omega) (by omega) (by omega),h.f];rfl
 ·simp only[hj 3 (by omega)];rw[j0 3 (by omega) (by omega) (by omega),h.a];rfl
 ·intro j FE;change j<b.n0 at FE;rw[b.Th hx];by_cases e:j=i
  ·subst e;simp only[eT];exact h2
  simp only[hj (4+2*j) (by omega),e,fH];rw[j0 _ (by omega) (by omega) (by omega),h.row _ _ (Pt FE)]
 intro j FE;change j<b.n0 at FE;simp only[hj (5+2*j) (by omega)];rw[j0 _ (by omega) (by omega) (by omega),h.row _ _ (Pu FE),b.Ti hx];split
 ·rename_i e;subst e;rw[Bn.Ru hx]
 rfl
def Oi.push (h:Oi lab b H) {y:Node} {N:Lb} (hn:b.n0≤b.nodes.length) (hN:N=lab 1∨∀p,p<4+2*b.n0→lab p≠N)
  (h0:H2 (lab 0)= .live ⟨3,[[.sl N 5 0 (b.nodes.length+1),.sl (lab 2) 1 0 b.fs.length,.sl (lab 3) 1 0 b.as.length]]⟩)
  (h1:H2 N= .live ⟨5,b.nodes.mapIdx (NI b.n0 lab)++[[.bool y.text,.str y.s,.list (cD y.attrs),.int .i64 y.parent,.list (y.kids.map xX)]]⟩) (h3:∀q,q≠lab 0→q≠lab 1→q≠N→H2 q=H q) :
  Oi (fun p=>if p=1 then N else lab p) (b.put y) H2:=by
 have Ra:∀p,p<4+2*b.n0→p≠1→lab p≠N:=fun p hp e=>by
  rcases hN with rfl|hN
  ·exact h.ne hp (by omega) e
  exact hN p hp
 have j0:∀p,p<4+2*b.n0→p≠0→p≠1→H2 (lab p)=H (lab p):=fun p hp e0 e1=>h3 _ (h.ne hp (by omega) e0) (h.ne hp (by omega) e1) (Ra p hp e1);have hj:∀p,p≠1→(if p=1 then N else lab p)=lab p:=fun p e=>a_ e;have hlen:(b.put y).nodes.length=b.nodes.length+1:=by simp[Bn.put]
 have TT:∀j,j<b.n0→(b.put y).nodes[j]?=b.nodes[j]?:=fun j hj=>by simp only[Bn.put];rw[bB (by omega)]
 refine Oi.mk' ?_ ?_ ?_ ?_ ?_ ?_ ?_
 ·intro p q hp hq e;change p<4+2*b.n0 at hp;change q<4+2*b.n0 at hq;by_cases e1:p=1<;>by_cases e2:q=1
  ·rw[e1,e2]
  ·rw[bf e1,a_ e2] at e;exact absurd e.symm (Ra q hq e2)
  ·rw[a_ e1,bf e2] at e;exact absurd e (Ra p hp e1)
  rw[a_ e1,a_ e2] at e;exact h.inj p q (OO.2 hp) (OO.2 hq) e
 ·simp only[hj 0 (by omega),eT,hj 2 (by omega),hj 3 (by omega),hlen];exact h0
 ·show H2 N=_;rw[h1,Bn.TS];have w5:NI b.n0 (fun p=>if p=1 then N else lab p)=NI b.n0 lab:=by
   funext j z;simp only[NI];rw[a_ (show ¬4+2*j=1 by omega),a_ (show ¬5+2*j=1 by omega)]
  rw[w5];simp[NI,show ¬b.nodes.length<b.n0 by omega]
 ·simp only[hj 2 (by omega)];rw[j0 2 (by omega) (by omega) (by omega),h.f];rfl
 ·simp only[hj 3 (by omega)];rw[j0 3 (by omega) (by omega) (by omega),h.a];rfl
 ·intro j FE;change j<b.n0 at FE;simp only[hj (4+2*j) (by omega)];rw[j0 _ (by omega) (by omega) (by omega),h.row _ _ (Pt FE)];simp only[Bn.at,TT j FE]
 intro j FE;change j<b.n0 at FE;simp only[hj (5+2*j) (by omega)];rw[j0 _ (by omega) (by omega) (by omega),h.row _ _ (Pu FE)];simp only[Bn.kd,TT j FE]
def Oi.aiw (h:Oi lab b H) {i:Nat} {x:Node} {ys:List Int} (hi:b.n0≤i) (hx:b.nodes[i]?=some x)
  (h1:H2 (lab 1)= .live ⟨5,(b.nodes.mapIdx (NI b.n0 lab)).set i [.bool x.text,.str x.s,.list (cD x.attrs),.int .i64 x.parent,.list (ys.map xX)]⟩) (h2:∀q,q≠lab 1→H2 q=H q):Oi lab (b.set i {x with kids:=ys}) H2:=by
 have Vi:∀p,p<4+2*b.n0→p≠1→lab p≠lab 1:=fun p hp e=>h.ne hp (by omega) e;refine Oi.mk' (fun p q hp hq=>h.inj p q (OO.2 hp) (OO.2 hq)) ?_ ?_ ?_ ?_ ?_ ?_
 ·rw[h2 _ (Vi 0 (by omega) (by omega)),h.s];simp[Bn.set]
 ·rw[h1,Bn.TR];simp[NI,show ¬i<b.n0 by omega]
 ·rw[h2 _ (Vi 2 (by omega) (by omega)),h.f];rfl
 ·rw[h2 _ (Vi 3 (by omega) (by omega)),h.a];rfl
 ·intro j hj;change j<b.n0 at hj;rw[h2 _ (Vi _ (by omega) (by omega)),h.row _ _ (Pt hj),b.Th hx,a_ (by omega)]
 intro j hj;change j<b.n0 at hj;rw[h2 _ (Vi _ (by omega) (by omega)),h.row _ _ (Pu hj),b.Ti hx,a_ (by omega)]
def Oi.aix (h:Oi lab b H) {fs:List Int} (hl:fs.length=b.fs.length) (h1:H2 (lab 2)= .live ⟨1,aB (fs.map xX)⟩) (h2:∀q,q≠lab 2→H2 q=H q):Oi lab {b with fs:=fs} H2:=by
 have Vi:∀p,p<4+2*b.n0→p≠2→lab p≠lab 2:=fun p hp e=>h.ne hp (by omega) e;refine Oi.mk' (fun p q hp hq=>h.inj p q (OO.2 hp) (OO.2 hq)) ?_ ?_ ?_ ?_ ?_ ?_
 ·rw[h2 _ (Vi 0 (by omega) (by omega)),h.s];simp[hl]
 ·rw[h2 _ (Vi 1 (by omega) (by omega)),h.n]
 ·exact h1
 ·rw[h2 _ (Vi 3 (by omega) (by omega)),h.a]
 ·intro j hj;change j<b.n0 at hj;rw[h2 _ (Vi _ (by omega) (by omega)),h.row _ _ (Pt hj)];rfl
 intro j hj;change j<b.n0 at hj;rw[h2 _ (Vi _ (by omega) (by omega)),h.row _ _ (Pu hj)];rfl
def Oi.ahP (h:Oi lab b H) {as:List Int} (hl:as.length=b.as.length) (h1:H2 (lab 3)= .live ⟨1,aB (as.map xX)⟩) (h2:∀q,q≠lab 3→H2 q=H q):Oi lab {b with as:=as} H2:=by
 have Vi:∀p,p<4+2*b.n0→p≠3→lab p≠lab 3:=fun p hp e=>h.ne hp (by omega) e;refine Oi.mk' (fun p q hp hq=>h.inj p q (OO.2 hp) (OO.2 hq)) ?_ ?_ ?_ ?_ ?_ ?_
 ·rw[h2 _ (Vi 0 (by omega) (by omega)),h.s];simp[hl]
 ·rw[h2 _ (Vi 1 (by omega) (by omega)),h.n]
 ·rw[h2 _ (Vi 2 (by omega) (by omega)),h.f]
 ·exact h1
 ·intro j hj;change j<b.n0 at hj;rw[h2 _ (Vi _ (by omega) (by omega)),h.row _ _ (Pt hj)];rfl
 intro j hj;change j<b.n0 at hj;rw[h2 _ (Vi _ (by omega) (by omega)),h.row _ _ (Pu hj)];rfl
def Oi.get (h:Oi lab b H) {i:Nat} {x:Node} (hx:b.nodes[i]?=some x):(b.nodes.mapIdx (NI b.n0 lab))[i]?=some (NI b.n0 lab i x):=by
 rw[ik,hx];rfl
end

section
variable {P:Program} {G:Nat→Option (List IV)}
def WI:AC:=
(aM [zi 2] (.seq (aM [MR 3 0,aQ 4 (.BJ false (.t 3))] (.cond (.t 4) (aM [zi 2] (.gh (.own 2 2) .ret)) .skip)) (aM [aQ 5 (.lits 0 2 [(.str []),(.str [])] []),MR 6 0,aQ 7 (.app (.t 5) (.t 6) 2 32),MR 2 7] .ret)))
def W3:AC:=
(aM [zi 2] (.seq (aM [MR 3 0,aQ 4 (.BJ false (.t 3))] (.cond (.t 4) (aM [zi 2] (.gh (.own 2 1) .ret)) .skip)) (aM [aQ 5 (.lits 0 1 [(.int .i64 0)] []),MR 6 0,aQ 7 (.app (.t 5) (.t 6) 1 8),MR 2 7] .ret)))
def afR {iJ:Nat} (hF:aw P G iJ=some (8,[(none,2)],U8.bare)) (xs:List Attr) (hx:xs.length≤B):aa4 P G iJ [.list (cD xs)] 2 (cD xs):=by
 refine aaI (ac:=WI) hF (by simp) (by simp[ah,AV.an]) ?_;unfold WI;simp only[↓aX,mX,seval,ab9];refine aaW (fun h=> ?_) ?_
 ·simp only[↓aX,mX,seval];refine⟨.loc 2,?_,?_⟩
  ·rw[h];rfl
  rw[h];rfl
 simp only[↓aX,mX,seval];rw[Xp 2 32 7 (cD xs) (rq _) (nW _) (by rw[bp];unfold B at hx;omega) (by decide) rfl];simp only[↓aX,mX,seval];exact⟨.loc 7,rfl,by simp[ae]⟩
def afS {gC:Nat} (hF:aw P G gC=some (8,[(none,2)],Wd.bare)) (xs:List Int) (hx:xs.length≤B):aa4 P G gC [.list (xs.map xX)] 1 (xs.map xX):=by
 refine aaI (ac:=W3) hF (by simp) (by simp[ah,AV.an]) ?_;unfold W3;simp only[↓aX,mX,seval,ab9];refine aaW (fun h=> ?_) ?_
 ·simp only[↓aX,mX,seval];refine⟨.loc 2,?_,?_⟩
  ·rw[List.map_eq_nil_iff.1 h];rfl
  rw[h];rfl
 simp only[↓aX,mX,seval];rw[Xp 1 8 7 (xs.map xX) (YN _) (XD _) (by rw[ax];unfold B at hx;omega) (by decide) rfl];simp only[↓aX,mX,seval];exact⟨.loc 7,rfl,by simp[ae]⟩
def Xw (xs:List Int) (v:Int):Int:=match xs.findIdx? (·==v) with|some k=>(k:Int)|none=> -1
def acZ {xs:List Int} {v:Int} {k:Nat} (h:xs[k]?=some v) (hb:∀j,j<k→xs[j]?≠some v):Xw xs v=k:=by
 have:xs.findIdx? (·==v)=some k:=by
  rw[mG];obtain⟨hk,e⟩:=aI.1 h;refine⟨hk,by simp[e],fun j hj=> ?_⟩;have h2:=hb j hj;rw[aC (by omega)] at h2;simpa using h2
 rw[Xw,this]
def aaJ {xs:List Int} {v:Int} (h:∀j,j<xs.length→xs[j]?≠some v):Xw xs v= -1:=by
 have:xs.findIdx? (·==v)=none:=by
  rw[oR];intro x hx;obtain⟨j,hj⟩:=c_ hx;have h2:=h j (aI.1 hj).1;rw[hj] at h2;simpa using h2
 rw[Xw,this]
def afT (xs:List Int) (i:Nat):(xs.map xX)[i]?=(xs[i]?).map xX:=cn ..
def ady (n:Int):(xX n).cells=[.int .i64 n]:=rfl
def VP:AC:=
(aM [gH 4 0] (.seq (aM [MR 6 0,oy 7 6,gH 8 0] (.block 0 (.loop (aM [et 9 .lss 8 7] (.seq (.cond (.t 9) .skip (.exit 0)) (.seq (.block 1 (aM [MR 10 8,MR 5 10] (aM [MR 11 1,MR 12 0,MR 13 5,jL 14 12 13 1,fm 15 14,et 16 .eql 11 15] (.cond (.t 16) (aM [MR 17 5,MR 4 17] .ret) .skip)))) (.cq [eY 18 .add 8 1,MR 8 18]))))))) (aM [aQ 4 (.iC (.c (.int .i64 (-1))))] .ret)))
def adz {sh:Nat} (hF:aw P G sh=some (19,[(none,4)],VP.bare)) (xs:List Int) (v:Int) (hx:xs.length≤B) :
  au P G sh [.list (xs.map xX),.int .i64 v] (.int .i64 (Xw xs v)):=by
 refine aR hF (by simp) (by simp[ah,AV.an]) (by simp[AV.an]) ?_;unfold VP;simp only[↓aX,mX,seval,ax];refine VR (σ:={i:Nat // i≤xs.length∧∀j,j<i→xs[j]?≠some v}) (fun q=>[(0,.list (xs.map xX)),(1,.int .i64 v),(7,.int .i64 xs.length),(8,.int .i64 q.1)]) (fun q=>xs.length - q.1) ⟨0,by simp⟩ (fun _=>rfl) ?_ ?_
 ·exact⟨by simp only[↓aX,mX,seval],by repeat' constructor⟩
 rintro⟨i,hi,hs⟩;simp only[↓aX,mX,seval,ax];by_cases bI:i<xs.length
 ·rw[show decide ((i:Int)<(xs.length:Int))=true by simpa using bI];obtain⟨x,D1⟩:∃x,xs[i]?=some x:=⟨_,aC bI⟩;have hw:IntKind.i64.wrap ((i:Int)+1)=((i+1:Nat):Int):=wrap64 (by omega) (by unfold B at hx;omega);simp only[↓aX,mX,seval,afT,D1,bT,YN,ady,hw];by_cases KW:x=v
  ·subst KW;rw[acZ D1 hs];simp only[↓aX,mX,seval]
  rw[show(v==x)=false by simpa using fun e=>KW e.symm];simp only[↓aX,mX,seval,hw];refine⟨⟨i+1,bI,fun j hj=> ?_⟩,by simp only;omega,rfl⟩;by_cases e:j=i
  ·rw[e,D1];simpa using KW
  exact hs j (by omega)
 rw[show decide ((i:Int)<(xs.length:Int))=false by simpa using bI];simp only[↓aX,mX,seval];rw[aaJ fun j hj=>hs j (by omega)]
end
end Go.Am
