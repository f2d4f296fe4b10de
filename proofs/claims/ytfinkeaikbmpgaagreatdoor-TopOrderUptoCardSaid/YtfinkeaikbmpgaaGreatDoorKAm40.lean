import Derived.Test.YtfinkeaikbmpgaaGreatDoorKT4
import Derived.Test.YtfinkeaikbmpgaaGreatDoorKT21
import Derived.Test.YtfinkeaikbmpgaaGreatDoorKP2
import Derived.Laws.Externs
set_option linter.unusedSimpArgs false
set_option linter.unusedVariables false
set_option linter.unnecessarySimpa false
set_option linter.defProp false
/- THE ABSTRACT MACHINE, part 40: functions that are handed a row of data by a slice. -/
namespace Go.Am
open Go Go.RowKit
def gg (sz:Nat) (xs:List IV):Hp:=bF Hp.none (.par 0) (.live ⟨sz,ar xs⟩)
def qg (P:Program) (G:Nat→Option (List IV)) (f:Nat) (args:List AV) (sz:Nat) (xs:List IV) (R:AV→List IV→Prop):Prop:=
 (∀l∈ah args,l= .par 0)∧jb P G f args (gg sz xs) fun x H'=>∃Es,R x Es∧x.aB=[]∧Es.length=xs.length∧H' (.par 0)= .live ⟨sz,ar Es⟩
def h_ {S:St} {f:Nat} {args dG:List AV} {sz:Nat} {xs:List IV} {R:AV→List IV→Prop} {H:Hp} {k:AV→Hp→Prop} {u:Tw k} {l:Lb} (h:qg S.P S.G f dG sz xs R)
  (ha:args=aY (iH l) dG) (hl:H l= .live ⟨sz,ar xs⟩) (hk:∀x Es,R x Es→x.aB=[]→Es.length=xs.length→k x (bF H l (.live ⟨sz,ar Es⟩))):He S f args H k u:=by
 obtain⟨h1,h3⟩:=h;have bo:∀q r,gg sz xs q= .live r→q= .par 0∧r=⟨sz,ar xs⟩:=by
  intro q r h;by_cases e:q= .par 0
  ·subst e;simp[gg] at h;exact⟨rfl,h.symm⟩
  rw[gg,ax _ _ e] at h;simp[Hp.none] at h
 refine .inr<| .inr ⟨⟨iH l,gg sz xs,dG,_,h3.ik (fun q=>q= .par 0),ha,?_,?_,?_,?_,?_,?_,?_⟩⟩
 ·intro q r h;obtain⟨rfl,rfl⟩:=bo q r h;rw[b5];simp only[iH,adH,hl]
 ·intro q hq;by_cases e:q= .par 0
  ·subst e;exact⟨_,by simp[gg];rfl⟩
  rw[gg,ax _ _ e] at hq;simp[Hp.none] at hq
 ·rintro q q' ⟨r,h⟩ ⟨r',h'⟩ _;rw[(bo q r h).1,(bo q' r' h').1]
 ·intro q hq;rw[h1 q hq];simp[gg]
 ·rintro q ⟨r,h⟩;rw[(bo q r h).1];rfl
 ·intro q r h c hc z hz;obtain⟨rfl,rfl⟩:=bo q r h;rw[bT hc] at hz;simp at hz
 rintro x H' ⟨H1,⟨Es,e1,e2,e4,e5⟩,rfl⟩;have hH:∀q r,gG (fun q=>q= .par 0) H1 q= .live r→q= .par 0∧r=⟨sz,ar Es⟩:=by
  intro q r h;obtain⟨g1,rfl⟩:=eT.1 h;rw[e5] at g1;cases g1;exact⟨rfl,rfl⟩
 have wH:gG (fun q=>q= .par 0) H1 (.par 0)= .live ⟨sz,ar Es⟩:=eT.2 ⟨e5,rfl⟩;refine⟨iH l,bF H l (.live ⟨sz,ar Es⟩),fun _ _ _=>rfl,?_,?_,?_,?_,?_,?_,?_,?_⟩
 ·intro q r h;by_cases e:q=l
  ·subst e;simp at h;refine .inr ⟨.par 0,_,wH,by simp[iH],?_⟩;rw[←h,b5]
  rw[ax _ _ e] at h;refine .inl ⟨h,?_⟩;rintro z ⟨r',hz⟩;rw[(bo z r' hz).1];simp only[iH,adH];exact aef e
 ·rintro q q' ⟨r,h⟩ ⟨r',h'⟩ _;rw[(hH q r h).1,(hH q' r' h').1]
 ·intro q hq;by_cases e:q=l
  ·subst e;simp
  rw[ax _ _ e];exact hq
 ·intro q hq;rw[e2] at hq;simp at hq
 ·intro q r h c hc z hz;obtain⟨rfl,rfl⟩:=hH q r h;rw[bT hc] at hz;simp at hz
 ·rintro q ⟨r,h⟩;obtain⟨rfl,rfl⟩:=hH q r h;exact .inl ⟨_,by simp[gg];rfl⟩
 ·rintro q (hq|⟨l1,r1,c,g1,g2,g3⟩) _
  ·rw[e2] at hq;simp at hq
  obtain⟨rfl,rfl⟩:=hH l1 r1 g1;rw[bT g2] at g3;simp at g3
 rw[rf _ _ e2];exact hk x Es e1 e2 e4
def pw {P:Program} {G:Nat→Option (List IV)} {f:Nat} {n:Nat} {rs:List RO} {ac:AC} {args:List AV} {sz:Nat} {xs:List IV} {R:AV→List IV→Prop}
  (hF:an P G f=some (n,rs,ac.bare)) (hn:args.length≤n) (ha:∀l∈ah args,l= .par 0)
  (hg:go ⟨P,G,n⟩ (kX rs fun x H'=>∃Es,R x Es∧x.aB=[]∧Es.length=xs.length∧H' (.par 0)= .live ⟨sz,ar Es⟩) [.code ac] (lE args) (gg sz xs)):qg P G f args sz xs R:=by
 refine⟨ha,jB hF hn ?_ ?_ hg⟩
 ·rintro l ⟨r,h⟩;by_cases e:l= .par 0
  ·subst e;rfl
  rw[gg,ax _ _ e] at h;simp[Hp.none] at h
 intro l hl;rw[ha l hl];simp[gg]
def qg.mono {P:Program} {G:Nat→Option (List IV)} {f:Nat} {args:List AV} {sz:Nat} {xs:List IV} {R R':AV→List IV→Prop} (h:qg P G f args sz xs R) (hq:∀x c,R x c→R' x c):qg P G f args sz xs R':=
 ⟨h.1,h.2.mono fun x H ⟨c,h1,h2⟩=>⟨c,hq _ _ h1,h2⟩⟩

def jb.aak {P:Program} {G:Nat→Option (List IV)} {f:Nat} {args:List AV} {H:Hp} {Q:AV→Hp→Prop} (h:jb P G f args H Q) (kp:AV→Lb→Prop) :
  jb P G f args H fun x H'=>∃H1,Q x H1∧H'=gG (kp x) H1:=by
 intro w A β vs hr hv;refine(h w A β vs hr hv).mono ?_;rintro e w' ⟨v,x,H1,β',rfl,hq,sY,hx,hm⟩;exact⟨v,x,gG (kp x) H1,β',rfl,⟨H1,hq,rfl⟩,sY.gG _,hx.gG _,fun l hl=>by rw[Ne,kb];exact hm l hl⟩
def va (P:Program) (G:Nat→Option (List IV)) (sz f:Nat) (args:List AV) (xs ys:List IV):Prop:=
 (∀l∈ah args,l= .par 0)∧jb P G f args (gg sz xs) fun x H'=>∃L,x= .sl L sz 0 ys.length∧H' L= .live ⟨sz,ar ys⟩
def uM {S:St} {f:Nat} {args dG:List AV} {sz:Nat} {xs ys:List IV} {H:Hp} {k:AV→Hp→Prop} {u:Tw k} {l N:Lb} (h:va S.P S.G sz f dG xs ys)
  (ha:args=aY (iH l) dG) (hl:H l= .live ⟨sz,ar xs⟩) (hN:H N= .unused) (Wi:N.fresh=true→l.fresh=true)
  (Sg:k (.sl N sz 0 ys.length) (bF (bF H l .dead) N (.live ⟨sz,ar ys⟩))) (MP:k (.sl l sz 0 ys.length) (bF (bF H l .dead) l (.live ⟨sz,ar ys⟩))):He S f args H k u:=by
 obtain⟨h1,h3⟩:=h;have bo:∀q r,gg sz xs q= .live r→q= .par 0∧r=⟨sz,ar xs⟩:=by
  intro q r h;by_cases e:q= .par 0
  ·subst e;simp[gg] at h;exact⟨rfl,h.symm⟩
  rw[gg,ax _ _ e] at h;simp[Hp.none] at h
 have hHl:H l≠ .unused:=by rw[hl];simp
 have Wj:N≠l:=by rintro rfl;exact hHl hN
 refine .inr<| .inr ⟨⟨iH l,gg sz xs,dG,_,h3.aak (fun x q=>q∈x.aB),ha,?_,?_,?_,?_,?_,?_,?_⟩⟩
 ·intro q r h;obtain⟨rfl,rfl⟩:=bo q r h;rw[b5];simp only[iH,adH,hl]
 ·intro q hq;by_cases e:q= .par 0
  ·subst e;exact⟨_,by simp[gg];rfl⟩
  rw[gg,ax _ _ e] at hq;simp[Hp.none] at hq
 ·rintro q q' ⟨r,h⟩ ⟨r',h'⟩ _;rw[(bo q r h).1,(bo q' r' h').1]
 ·intro q hq;rw[h1 q hq];simp[gg]
 ·rintro q ⟨r,h⟩;rw[(bo q r h).1];rfl
 ·intro q r h c hc z hz;obtain⟨rfl,rfl⟩:=bo q r h;rw[bT hc] at hz;simp at hz
 rintro x H' ⟨H1,⟨L,rfl,e5⟩,rfl⟩;obtain⟨L1,Wl⟩:∃L1,L1=(if L= .par 0 then l else N):=⟨_,rfl⟩;have Ac:∀q,q∈(AV.sl L sz 0 ys.length).aB↔q=L:=fun q=>by simp[AV.aB]
 have hH:∀q r,gG (fun q=>q∈(AV.sl L sz 0 ys.length).aB) H1 q= .live r→q=L∧r=⟨sz,ar ys⟩:=by
  intro q r h;obtain⟨g1,g2⟩:=eT.1 h;rw[Ac] at g2;subst g2;rw[e5] at g1;cases g1;exact⟨rfl,rfl⟩
 have wH:gG (fun q=>q∈(AV.sl L sz 0 ys.length).aB) H1 L= .live ⟨sz,ar ys⟩:=eT.2 ⟨e5,(Ac L).2 rfl⟩;have hρ:(fun q=>if q=L then L1 else q) L=L1:=by simp
 have vq:∀q,H q≠ .unused→bF (bF H l .dead) L1 (.live ⟨sz,ar ys⟩) q≠ .unused:=by
  intro q hq;by_cases e:q=L1
  ·subst e;simp
  rw[ax _ _ e];by_cases e2:q=l
  ·subst e2;simp
  rw[ax _ _ e2];exact hq
 refine⟨fun q=>if q=L then L1 else q,bF (bF H l .dead) L1 (.live ⟨sz,ar ys⟩),?_,?_,?_,vq,?_,?_,?_,?_,?_⟩
 ·rintro q ⟨r,g1⟩ ⟨r',g2⟩;have e1:=(bo q r g1).1;have e2:=(hH q r' g2).1;subst e1;subst e2;simp only[adH,Wl,iH]
 ·intro q r h;by_cases e:q=L1
  ·subst e;simp at h;refine .inr ⟨L,_,wH,by simp,?_⟩;rw[←h,b5]
  rw[ax _ _ e] at h;by_cases e2:q=l
  ·subst e2;simp at h
  rw[ax _ _ e2] at h;refine .inl ⟨h,?_⟩;rintro z ⟨r',hz⟩;rw[(bo z r' hz).1];simp only[iH,adH];exact aef e2
 ·rintro q q' ⟨r,h⟩ ⟨r',h'⟩ _;rw[(hH q r h).1,(hH q' r' h').1]
 ·intro q hq;rw[Ac] at hq;subst hq;simp
 ·intro q r h c hc z hz;obtain⟨rfl,rfl⟩:=hH q r h;rw[bT hc] at hz;simp at hz
 ·rintro q ⟨r,h⟩;obtain⟨rfl,rfl⟩:=hH q r h;by_cases e:q= .par 0
  ·subst e;exact .inl ⟨_,by simp[gg];rfl⟩
  right;simp only[adH,Wl,ag8 e];refine⟨hN,fun hf=> .inr ?_⟩;rintro z ⟨r',hz⟩;rw[(bo z r' hz).1];simp only[iH,adH];exact Wi hf
 ·rintro q (hq|⟨l1,r1,c,g1,g2,g3⟩) _
  ·rw[Ac] at hq;subst hq;exact⟨_,wH⟩
  obtain⟨rfl,rfl⟩:=hH l1 r1 g1;rw[bT g2] at g3;simp at g3
 simp only[e7,adH];rw[Wl];split
 ·exact MP
 exact Sg
def w9 {S:St} {F:List Lb} {sz f:Nat} {args dG:List AV} {xs ys:List IV} {H:Hp} {k:AV→Hp→Prop} {u:Tw k} {l N:Lb} (h:va S.P S.G sz f dG xs ys)
  (ha:args=aY (iH l) dG) (hl:H l= .live ⟨sz,ar xs⟩) (hN:H N= .unused) (Wi:N.fresh=true→l.fresh=true) (h1:l.kQ∉F) (h2:N.kQ∉F)
  (Sg:k (.sl N sz 0 ys.length) (bF (bF H l .dead) N (.live ⟨sz,ar ys⟩))) (MP:k (.sl l sz 0 ys.length) (bF (bF H l .dead) l (.live ⟨sz,ar ys⟩))):NI S F f args H k u:=by
 refine⟨fun x H'=>(x= .sl N sz 0 ys.length∧H'=bF (bF H l .dead) N (.live ⟨sz,ar ys⟩))∨(x= .sl l sz 0 ys.length∧H'=bF (bF H l .dead) l (.live ⟨sz,ar ys⟩)),?_,⟨_,_,.inl ⟨rfl,rfl⟩⟩,?_⟩
 ·exact uM (k:=fun x H'=>(x= .sl N sz 0 ys.length∧H'=bF (bF H l .dead) N (.live ⟨sz,ar ys⟩))∨(x= .sl l sz 0 ys.length∧H'=bF (bF H l .dead) l (.live ⟨sz,ar ys⟩))) (u:= .mk) h ha hl hN Wi (.inl ⟨rfl,rfl⟩) (.inr ⟨rfl,rfl⟩)
 have key:∀q:Lb,q.kQ∈F→q≠l∧q≠N:=fun q hq=>⟨fun e=>h1 (e▸hq),fun e=>h2 (e▸hq)⟩;rintro x H' (⟨rfl,rfl⟩|⟨rfl,rfl⟩)
 ·refine⟨fun q hq=> ?_,Sg⟩;obtain⟨e1,e2⟩:=key q hq;rw[ax _ _ e2,ax _ _ e1]
 refine⟨fun q hq=> ?_,MP⟩;obtain⟨e1,e2⟩:=key q hq;rw[ax _ _ e1,ax _ _ e1]
open Classical in
def FC {P:Program} {G:Nat→Option (List IV)} {sz f:Nat} {args:List AV} {ys:List IV} (h:va P G sz f (.sl (.par 0) sz 0 0::args) [] ys) (h0:0<sz) (ha:ah args=[]) (hf:Flat ys) :
   aw P G f (.nil0::args) (.list ys):=by
 refine⟨by simpa[ah,AV.aB] using ha,by simp[AV.aB],?_⟩
 obtain⟨_,h3⟩:=h
 intro w A β vs hr hv
 have bo:∀q r,gg sz [] q= .live r→q= .par 0∧r=⟨sz,[]⟩:=by
   intro q r h
   by_cases e:q= .par 0
   · subst e;simp[gg,ar] at h;exact⟨rfl,h.symm⟩
   rw[gg,ax _ _ e] at h;simp[Hp.none] at h
 obtain⟨β1,acb⟩:∃β1:Lb→Option Nat,β1=bF β (.par 0) none:=⟨_,rfl⟩
 have Lr:β1 (.par 0)=none:=by rw[acb];simp
 have aal:∀k,¬MX β1 (gg sz []) k:=by
   rintro k ⟨l,⟨r,h⟩,hb⟩
   rw[(bo l r h).1,Lr] at hb;cases hb
 have hIm:∀k,Im (fm P G w A β Hp.none) β Hp.none k→Im (fm P G w A β1 (gg sz [])) β1 (gg sz []) k:=fun k hk=>⟨hk.1,fun l ⟨r,hl⟩ hb=>by
   rw[(bo l r hl).1,Lr] at hb;cases hb⟩
 have kp:∀ls:List Lb,(∀l∈ls,l≠ .par 0)→kR w w β β1 Hp.none (gg sz []) (Im (fm P G w A β Hp.none) β Hp.none) (Im (fm P G w A β1 (gg sz [])) β1 (gg sz [])) ls:=fun ls rH=>
   { im := fun k hk hs => ⟨hIm k hk,hs,rfl⟩
     lb:=fun l hl ⟨r,Ah⟩=>absurd (bo l r Ah).1 (rH l hl)}
 have qD:bu (fm P G w A β1 (gg sz [])) β1 Env.any (gg sz []) wv w:=
   { defers := rfl,size := rfl
     mS:=fun n=>by simp[Env.any,RV]
     rows:=fun l r h=>by
       obtain⟨rfl,rfl⟩:=bo l r h
       exact⟨h0,by simp,by rw[Lr]⟩
     own:=fun l g ⟨r,h⟩ hb=>by rw[(bo l r h).1,Lr] at hb;cases hb
     inj:=fun l l' g ⟨r,h⟩ _ hb=>by rw[(bo l r h).1,Lr] at hb;cases hb
     kL:=fun n=>by simp[Env.any,AV.aB]
     fk:=fun l r h=>by
       obtain⟨rfl,rfl⟩:=bo l r h
       simp
     frame:=⟨rfl,rfl,rfl,Nat.le_refl _,fun _ _ _=>rfl,fun _ _ h=>h⟩
     nF:=fun l hl=>⟨by obtain⟨r,h⟩:=hl;simp only[fm] at h;simp[h],fun _=>rfl⟩
     fr:=fun l g ⟨r,h⟩ _ hb=>by rw[(bo l r h).1,Lr] at hb;cases hb
     l_:=fun g cs hg=>by
       obtain⟨k1,k2,k3⟩:=hr.l_ g cs hg
       exact⟨hIm g k1,k2,gX.mono (kp [] (by simp)).tomV k1 k2 k3⟩}
 have MY:cM w β1 (gg sz []) (Im (fm P G w A β1 (gg sz [])) β1 (gg sz [])) (.sl (.par 0) sz 0 0::args) vs:=by
   simp only[cM] at hv ⊢
   obtain⟨v,us,h1,h2,h4⟩:=hv
   refine⟨v,us,h1,?_,cM.mono _ _ (kp _ (by rw[ha];simp)) h4⟩
   simp only[RV] at h2 ⊢
   obtain⟨ad,rfl⟩:=h2
   exact⟨ad,0,rfl,Nat.le_refl _,by simp[maxLen],by simp,fun _=> .inl rfl⟩
 refine(h3 w A β1 vs qD MY).mono ?_
 rintro e w' ⟨v,x,H1,β',rfl,⟨L,rfl,hL⟩,pf,hx,_⟩
 have gw:rJ w w':=⟨pf.frame.os,pf.frame.tape,pf.frame.output,pf.frame.size,fun k hk=>pf.frame.block k hk (aal k)⟩
 refine⟨v,_,Hp.none,β,rfl,rfl,?_,?_,by simp[AV.aB]⟩
 · exact { defers := rfl,size := rfl
           mS:=fun n=>by simp[Env.any,RV]
           rows:=fun l r h=>by simp[Hp.none] at h
           own:=fun l g ⟨r,h⟩=>by simp[Hp.none] at h
           inj:=fun l l' g ⟨r,h⟩=>by simp[Hp.none] at h
           kL:=fun n=>by simp[Env.any,AV.aB]
           fk:=fun l r h=>by simp[Hp.none] at h
           frame:=⟨gw.os,gw.tape,gw.output,gw.size,fun k hk _=>gw.block k hk,fun k S hS=>pf.frame.bs k S hS⟩
           nF:=fun l ⟨r,h⟩=>by simp[fm,Hp.none] at h
           fr:=fun l g ⟨r,h⟩=>by simp[Hp.none] at h
           l_:=fun g cs hg=>by
             obtain⟨k1,k2,k3⟩:=hr.l_ g cs hg
             exact⟨k1,Nat.lt_of_lt_of_le k2 gw.size,gX.mono (gw.zP β Hp.none _ []).tomV k1 k2 k3⟩}
 have pC:0<sz:=h0
 have hk:mV w' w' (Im (fm P G w A β1 (gg sz [])) β' H1) (Im (fm P G w A β Hp.none) β Hp.none):=⟨fun k hk hs=>⟨⟨hk.1,fun l ⟨r,hl⟩=>by simp[Hp.none] at hl⟩,hs,rfl⟩⟩
 simp only[RV] at hx
 obtain⟨ad,c,rfl,g2,g3,g4,g5⟩:=hx
 simp only[RV,kP]
 refine⟨ad,c,rfl,g2,g3,?_⟩
 by_cases hn:ys.length=0
 · exact .inl hn
 right
 rcases g5 ⟨_,hL⟩ with h6|⟨g,Sz,e1,e2,e3,e4⟩
 · omega
 obtain⟨cur,e0,cap,k1,k2,k3,k4,k5⟩:=(pf.rows L _ hL).block e1
 have hg:w.heap.size≤g:=(pf.own L g ⟨_,hL⟩ e1).resolve_left (aal g)
 refine⟨g,0*sz,sz,e2,⟨.inr hg,fun l ⟨r,hl⟩=>by simp[Hp.none] at hl⟩,(Array.getElem?_eq_some_iff.1 k1).1,pC,pg _ _ _ (fun k y hy=> ?_)⟩
 rw[ku]
 have BE:y.cells.length=sz:=by
   have:=(pf.rows L _ hL).2.1 (y.cells.map IV.gK) (by
     simp only[ar]
     exact List.mem_map_of_mem (f:=fun y:IV=>y.cells.map IV.gK) (List.mem_of_getElem? hy))
   simpa using this
 refine⟨BE.symm,nS _ _ _ (fun j z hz=> ?_)⟩
 obtain⟨u,q1,q2⟩:=k5 k j (y.cells.map IV.gK) z.gK (by simp[ar,hy]) (by simp[hz])
 refine⟨u,?_,z_ hk (hf y (List.mem_of_getElem? hy) z (List.mem_of_getElem? hz)) q2⟩
 rw[cell_of_row w' g _ cur e0 (0,0) k1,←q1]
 congr 1
 change 0*sz+k*sz+j=k*sz+j
 omega
def CR {P:Program} {G:Nat→Option (List IV)} {f:Nat} {n:Nat} {rs:List RO} {ac:AC} {args:List AV} {sz:Nat} {xs ys:List IV}
  (hF:an P G f=some (n,rs,ac.bare)) (hn:args.length≤n) (ha:∀l∈ah args,l= .par 0)
  (hg:go ⟨P,G,n⟩ (kX rs fun x H'=>∃L,x= .sl L sz 0 ys.length∧H' L= .live ⟨sz,ar ys⟩) [.code ac] (lE args) (gg sz xs)):va P G sz f args xs ys:=by
 refine⟨ha,jB hF hn ?_ ?_ hg⟩
 ·rintro l ⟨r,h⟩;by_cases e:l= .par 0
  ·subst e;rfl
  rw[gg,ax _ _ e] at h;simp[Hp.none] at h
 intro l hl;rw[ha l hl];simp[gg]
end Go.Am

namespace Go.Am
open Go Go.RowKit
structure WE (ls:List Lb) (u:Lb→Bool) (ps:List (Nat×AV)) (rs:List (Lb×Row)) (env:Env) (H:Hp) (m:List (Lb×Lb)):Prop where
 nf:∀l:Lb,l.entry=true→H l≠ .unused→l∈ls∨u l=true
 e:kv (bZ m) env ps
 r:qe (bZ m) H rs
 inj:(ls.map (bZ m)).Nodup
 fr:∀l∈ls,(l.fresh=true→(bZ m l).fresh=true)∧(l.entry=true→bZ m l=l)
def WE.wk {ls:List Lb} {u:Lb→Bool} {ps:List (Nat×AV)} {rs:List (Lb×Row)} {env:Env} {H:Hp} {m:List (Lb×Lb)} (h:WE ls u ps rs env H m) (rH:rs.map Prod.fst=ls) (hp:∀l∈ah (ps.map Prod.snd),l∈ls)
  (hr:∀q∈rs,∀cs∈q.2.els,∀l∈ah cs,l∈ls):Wk (bZ m) env H (qc ps) (fy u rs):=by
 have Ah:∀l,live (fy u rs) l→l∈ls:=fun l ⟨r,h⟩=>by rw[←rH];exact adY.2 ⟨_,kq (dm.1 h),rfl⟩
 refine⟨h.e.we,fun l r hl=>zw h.r (kq (dm.1 hl)),fun l l' h1 h2 e=>mb h.inj l (Ah l h1) l' (Ah l' h2) e,vO fun l hl=>oz (.inl (by rw[rH];exact hp l hl)),fun l r hl cs bS q hq=> ?_,
  fun l hf=>⟨fun hu=> ?_,fun hl=>(h.fr l (Ah l hl)).2 hf⟩,fun l hl hf=>(h.fr l (Ah l hl)).1 hf⟩
 ·exact oz (.inl (by rw[rH];exact hr _ (kq (dm.1 hl)) cs bS q hq))
 exact oz (by rw[rH];exact h.nf l hf hu)
def ki {σ:Type} {S:St} {Q:oW} {c:AC} {k:List It} {env:Env} {H:Hp} (ls:σ→List Lb) (u:σ→Lb→Bool) (ps:σ→List (Nat×AV)) (rs:σ→List (Lb×Row)) (μ:σ→Nat) (s0:σ)
  (rH:∀s,(rs s).map Prod.fst=ls s) (hp:∀s,∀l∈ah ((ps s).map Prod.snd),l∈ls s) (hr:∀s,∀q∈rs s,∀cs∈q.2.els,∀l∈ah cs,l∈ls s) (h0:∃m,WE (ls s0) (u s0) (ps s0) (rs s0) env H m)
  (round:∀s,go S (tf S Q k (fun env H s=>∃m,WE (ls s) (u s) (ps s) (rs s) env H m) μ (μ s)) [.code c] (qc (ps s)) (fy (u s) (rs s))):vk S Q c k env H:=
 re (fun s=>qc (ps s)) (fun s=>fy (u s) (rs s)) _ (fun _ _ s ⟨m,h⟩=>⟨_,h.wk (rH s) (hp s) (hr s)⟩) μ s0 h0 round

structure qx where
 row:(Nat→Lb)→Nat→Option Row
 nat:∀(lab:Nat→Lb) (ρ:Lb→Lb) (p:Nat),row (fun i=>ρ (lab i)) p=(row lab p).map (cV ρ)
 aB:∀(lab:Nat→Lb) (p:Nat) (r:Row),row lab p=some r→∀cs∈r.els,∀q∈ah cs,∃p',(row lab p').isSome=true∧q=lab p'
def qx.ok (R:qx) (p:Nat):Prop:=(R.row Lb.par p).isSome=true
def qx.mw (R:qx) (lab:Nat→Lb) (p:Nat):(R.row lab p).isSome=true↔R.ok p:=by
 have h:=R.nat Lb.par (fun q=>match q with| .par i=>lab i|q=>q) p;simp only at h;unfold qx.ok;rw[show R.row lab p=_ from h];simp
structure nZ (lab:Nat→Lb) (R:qx) (H:Hp):Prop where
 row:∀p r,R.row lab p=some r→H (lab p)= .live r
 inj:∀p q,R.ok p→R.ok q→lab p=lab q→p=q
def nZ.live {lab:Nat→Lb} {R:qx} {H:Hp} (h:nZ lab R H) {p:Nat} (hp:R.ok p):Am.live H (lab p):=by
 obtain⟨r,hr⟩:=afj.1 ((R.mw lab p).2 hp);exact⟨r,h.row p r hr⟩
open Classical in
noncomputable def BH (lab:Nat→Lb) (R:qx) (H:Hp):Hp:=fun q=>
 if h:∃p,R.ok p∧lab p=q then(match R.row lab (Classical.choose h) with|some r=> .live r|none=> .dead) else H q
def Ox {lab:Nat→Lb} {R:qx} (hi:∀p q,R.ok p→R.ok q→lab p=lab q→p=q) (H:Hp) {p:Nat} {r:Row} (hp:R.row lab p=some r):BH lab R H (lab p)= .live r:=by
 have u7:R.ok p:=(R.mw lab p).1 (by rw[hp];rfl);have h:∃p',R.ok p'∧lab p'=lab p:=⟨p,u7,rfl⟩;have hc:=agL h;have e:Classical.choose h=p:=hi _ _ hc.1 u7 hc.2;unfold BH;rw[agK h,e,hp]
def gx {lab:Nat→Lb} {R:qx} (H:Hp) {q:Lb} (h:∀p,R.ok p→lab p≠q):BH lab R H q=H q:=by
 unfold BH;rw[dif_neg (by rintro⟨p,h1,h2⟩;exact h p h1 h2)]
def tJ {lab:Nat→Lb} {R:qx} (hi:∀p q,R.ok p→R.ok q→lab p=lab q→p=q) {H:Hp} {q:Lb} {r:Row} (h:BH lab R H q= .live r) :
  (∃p,R.ok p∧lab p=q∧R.row lab p=some r)∨((∀p,R.ok p→lab p≠q)∧H q= .live r):=by
 by_cases e:∃p,R.ok p∧lab p=q
 ·obtain⟨p,h1,rfl⟩:=e;obtain⟨r',hr⟩:=afj.1 ((R.mw lab p).2 h1);rw[Ox hi H hr] at h;cases h;exact .inl ⟨p,h1,rfl,hr⟩
 have e':∀p,R.ok p→lab p≠q:=fun p h1 h2=>e ⟨p,h1,h2⟩;rw[gx H e'] at h;exact .inr ⟨e',h⟩
def nZ.sb {lab:Nat→Lb} {R:qx} (hi:∀p q,R.ok p→R.ok q→lab p=lab q→p=q) (H:Hp):nZ lab R (BH lab R H):=⟨fun _ _ hp=>Ox hi H hp,hi⟩
def JA:∀p q:Nat,Lb.par p=Lb.par q→p=q:=fun p q h=>by cases h;rfl
noncomputable def je (R:qx):Hp:=BH Lb.par R Hp.none
def jg (R:qx):nZ Lb.par R (je R):= .sb (fun p q _ _ h=>JA p q h) _
def pQ {R:qx} {q:Lb} {r:Row} (h:je R q= .live r):∃p,R.ok p∧Lb.par p=q∧R.row Lb.par p=some r:=by
 rcases tJ (fun p q _ _ h=>JA p q h) h with h|⟨_,h⟩
 ·exact h
 simp[Hp.none] at h
def Oy {R:qx} {q:Lb} (h:je R q≠ .unused):∃p,R.ok p∧q= .par p:=by
 by_cases e:∃p,R.ok p∧Lb.par p=q
 ·obtain⟨p,h1,h2⟩:=e;exact⟨p,h1,h2.symm⟩
 refine absurd ?_ h;unfold je;rw[gx Hp.none fun p h1 h2=>e ⟨p,h1,h2⟩];rfl
def jb.aam {T:Type} {P:Program} {G:Nat→Option (List IV)} {f:Nat} {args:List AV} {H:Hp} {Q:T→AV→Hp→Prop} (h:jb P G f args H fun x H'=>∃t,Q t x H') (kp:T→Lb→Prop) :
  jb P G f args H fun x H'=>∃t H1,Q t x H1∧H'=gG (kp t) H1:=by
 intro w A β vs hr hv;refine(h w A β vs hr hv).mono ?_;rintro e w' ⟨v,x,H1,β',rfl,⟨t,hq⟩,sY,hx,hm⟩;exact⟨v,x,gG (kp t) H1,β',rfl,⟨t,H1,hq,rfl⟩,sY.gG _,hx.gG _,fun l hl=>by rw[Ne,kb];exact hm l hl⟩
def uO (P:Program) (G:Nat→Option (List IV)) (f:Nat) (args:List AV) (R:qx) (fx:List Nat) (Q:((Nat→Lb)→AV)→qx→Prop):Prop:=
 (∀l∈ah args,∃p,R.ok p∧l= .par p)∧jb P G f args (je R) fun x H'=>∃t:((Nat→Lb)→AV)×qx×(Nat→Lb),
  Q t.1 t.2.1∧(∀ρ,e7 ρ (t.1 t.2.2)=t.1 fun i=>ρ (t.2.2 i))∧(∀l∈x.aB,∃p,t.2.1.ok p∧l=t.2.2 p)∧x=t.1 t.2.2∧nZ t.2.2 t.2.1 H'∧∀p∈fx,t.2.2 p= .par p
def A6 (lab:Nat→Lb):Lb→Lb:=fun q=>match q with
 | .par i=>lab i
 |q=>q
open Classical in
def lk {S:St} {f:Nat} {args dG:List AV} {R:qx} {fx:List Nat} {Q:((Nat→Lb)→AV)→qx→Prop} {H:Hp} {k:AV→Hp→Prop} {u:Tw k} {lab:Nat→Lb} (N:Lb→Lb) (h:uO S.P S.G f dG R fx Q)
  (ha:args=aY (A6 lab) dG) (hl:nZ lab R H) (hN:∀l,H (N l)= .unused) (hNi:∀l l',N l=N l'→l=l') (Wi:∀l,(N l).fresh=true→l.fresh=true∨∀p,R.ok p→(lab p).fresh=true) (hfx:∀p∈fx,R.ok p)
  (hk:∀X R2 et H2,Q X R2→nZ et R2 H2→(∀p∈fx,et p=lab p)→(∀p,R2.ok p→(∃p0,R.ok p0∧et p=lab p0)∨∃l,et p=N l) →
   (∀q,(∀p,R.ok p→q≠lab p)→(∀l,q≠N l)→H2 q=H q)→(∀q,H q≠ .unused→H2 q≠ .unused)→(∀l,(∀p,R2.ok p→et p≠N l)→H2 (N l)= .unused)→k (X et) H2):He S f args H k u:=by
 obtain⟨h1,h3⟩:=h;refine .inr<| .inr ⟨⟨A6 lab,je R,dG,_,h3.aam (fun t q=>∃p,t.2.1.ok p∧t.2.2 p=q),ha,?_,?_,?_,?_,?_,?_,?_⟩⟩
 ·intro q r hq;obtain⟨p,h4,rfl,h5⟩:=pQ hq;refine hl.row p _ ?_;have:=R.nat Lb.par (A6 lab) p;simp only[A6] at this;rw[show R.row lab p=_ from this,h5];rfl
 ·intro q hq;obtain⟨p,h4,rfl⟩:=Oy hq;exact(jg R).live h4
 ·rintro q q' ⟨r,hq⟩ ⟨r',xq⟩ e;obtain⟨p,h4,rfl,_⟩:=pQ hq;obtain⟨p',Va,rfl,_⟩:=pQ xq;rw[hl.inj p p' h4 Va e]
 ·intro q hq;obtain⟨p,h4,rfl⟩:=h1 q hq;obtain⟨r,hr⟩:=(jg R).live h4;rw[hr];simp
 ·rintro q ⟨r,hq⟩;obtain⟨p,_,rfl,_⟩:=pQ hq;rfl
 ·intro q r hq cs bS z hz;obtain⟨p,h4,rfl,h5⟩:=pQ hq;obtain⟨p',h6,rfl⟩:=R.aB Lb.par p r h5 cs bS z hz;obtain⟨r',hr⟩:=(jg R).live ((R.mw _ _).1 h6);rw[hr];simp
 rintro x H' ⟨⟨X,R2,cf⟩,H1,⟨e1,e2,e3,rfl,e5,e6⟩,rfl⟩;simp only at e1 e2 e3 e5 e6 ⊢;have hH:∀q,Am.live (gG (fun q=>∃p,R2.ok p∧cf p=q) H1) q→∃p,R2.ok p∧cf p=q:=by
  rintro q ⟨r,hq⟩;exact(eT.1 hq).2
 have wH:∀p r,R2.row cf p=some r→gG (fun q=>∃p,R2.ok p∧cf p=q) H1 (cf p)= .live r:=fun p r hp=>
  eT.2 ⟨e5.row p r hp,p,(R2.mw cf p).1 (by rw[hp];rfl),rfl⟩
 obtain⟨ρ',hρ⟩:∃ρ':Lb→Lb,ρ'=fun q=>if Am.live (je R) q then A6 lab q else N q:=⟨_,rfl⟩;have qW:∀q,Am.live (je R) q→∃p,R.ok p∧q= .par p:=by
  rintro q ⟨r,hq⟩;obtain⟨p,h4,rfl,_⟩:=pQ hq;exact⟨p,h4,rfl⟩
 have Oz:∀p,R.ok p→ρ' (.par p)=lab p:=fun p hp=>by rw[hρ];simp only[(jg R).live hp,if_true,A6]
 have uQ:∀q,(∃p,R.ok p∧q= .par p∧ρ' q=lab p)∨(¬Am.live (je R) q∧ρ' q=N q):=by
  intro q;by_cases e:Am.live (je R) q
  ·obtain⟨p,h4,rfl⟩:=qW q e;exact .inl ⟨p,h4,rfl,Oz p h4⟩
  exact .inr ⟨e,by rw[hρ];simp only[e,if_false]⟩
 have Wj:∀l p,R.ok p→N l≠lab p:=fun l p hp e=>by
  obtain⟨r,hr⟩:=hl.live hp;have:=hN l;rw[e,hr] at this;cases this
 have aan:∀q q',ρ' q=ρ' q'→q=q':=by
  intro q q' e;rcases uQ q with⟨p,g1,rfl,g2⟩|⟨g1,g2⟩
  ·rcases uQ q' with⟨p',g1',rfl,W1⟩|⟨g1',W1⟩
   ·rw[g2,W1] at e;rw[hl.inj p p' g1 g1' e]
   rw[g2,W1] at e;exact absurd e.symm (Wj _ p g1)
  rcases uQ q' with⟨p',g1',rfl,W1⟩|⟨g1',W1⟩
  ·rw[g2,W1] at e;exact absurd e (Wj _ p' g1')
  rw[g2,W1] at e;exact hNi _ _ e
 obtain⟨et,sU⟩:∃et:Nat→Lb,et=fun i=>ρ' (cf i):=⟨_,rfl⟩;have JB:∀p q,R2.ok p→R2.ok q→et p=et q→p=q:=fun p q hp hq e=>by
  rw[sU] at e;exact e5.inj p q hp hq (aan _ _ e)
 obtain⟨Hd,hHd⟩:∃Hd:Hp,Hd=fun q=>if ∃p,R.ok p∧lab p=q then Slot.dead else H q:=⟨_,rfl⟩;have acd:∀l,Hd (N l)= .unused:=fun l=>by
  rw[hHd];simp only;rw[if_neg (by rintro⟨p,g1,g2⟩;exact Wj l p g1 g2.symm)];exact hN l
 have aao:∀p r,R2.row cf p=some r→R2.row et p=some (cV ρ' r):=fun p r hp=>by
  rw[sU,R2.nat cf ρ' p,hp];rfl
 have vq:∀q,Hd q≠ .unused→BH et R2 Hd q≠ .unused:=by
  intro q hq;by_cases e:∃p,R2.ok p∧et p=q
  ·obtain⟨p,g1,rfl⟩:=e;obtain⟨r,hr⟩:=(nZ.sb JB Hd).live g1;rw[hr];simp
  rw[gx Hd fun p g1 g2=>e ⟨p,g1,g2⟩];exact hq
 have Uh:∀q,H q≠ .unused→Hd q≠ .unused:=by
  intro q hq;rw[hHd];simp only;split
  ·simp
  exact hq
 have Ui:∀p,R2.ok p→BH et R2 Hd (et p)≠ .unused:=fun p hp=>by
  obtain⟨r,hr⟩:=(nZ.sb JB Hd).live hp;rw[hr];simp
 refine⟨ρ',BH et R2 Hd,?_,?_,?_,fun q hq=>vq q (Uh q hq),?_,?_,?_,?_,?_⟩
 ·intro q g1 g2;obtain⟨p,h4,rfl⟩:=qW q g1;rw[Oz p h4];rfl
 ·intro q r hq;rcases tJ JB hq with⟨p,g1,rfl,g2⟩|⟨g1,g2⟩
  ·right;obtain⟨r0,CI⟩:=Option.isSome_iff_exists.1 ((R2.mw cf p).2 g1);have:=aao p r0 CI;rw[g2] at this;simp only[Option.some.injEq] at this;exact⟨cf p,r0,wH p r0 CI,by rw[sU],this⟩
  left;rw[hHd] at g2;simp only at g2;split at g2
  ·cases g2
  rename_i vI;refine⟨g2,fun l Ah e=> ?_⟩;obtain⟨p,h4,rfl⟩:=qW l Ah;exact vI ⟨p,h4,e⟩
 ·intro q q' _ _ e;exact aan _ _ e
 ·intro q hq;obtain⟨p,g1,rfl⟩:=e3 q hq;have:=Ui p g1;rw[sU] at this;rw[sU];exact this
 ·intro q r hq cs bS z hz;obtain⟨g0,p,g1,rfl⟩:=eT.1 hq;obtain⟨r0,CI⟩:=Option.isSome_iff_exists.1 ((R2.mw cf p).2 g1);have:=e5.row p r0 CI;rw[g0] at this;cases this;obtain⟨p',h6,rfl⟩:=R2.aB cf p _ CI cs bS z hz;have:=Ui p' ((R2.mw cf p').1 h6);rw[sU] at this;rw[sU];exact this
 ·intro q hq;obtain⟨p,g1,rfl⟩:=hH q hq;rcases uQ (cf p) with⟨p',g2,g3,g4⟩|⟨g2,g3⟩
  ·left;rw[g3];exact(jg R).live g2
  right;rw[g3];refine⟨hN _,fun hf=> ?_⟩;rcases Wi _ hf with hf|hf
  ·exact .inl hf
  right;intro z hz;obtain⟨p',h4,rfl⟩:=qW z hz;exact hf p' h4
 ·rintro q hq _;have key:∃p,R2.ok p∧cf p=q:=by
   rcases hq with hq|⟨l1,r1,cs,g1,g2,g3⟩
   ·obtain⟨p,g1,rfl⟩:=e3 q hq;exact⟨p,g1,rfl⟩
   obtain⟨g0,p,g4,rfl⟩:=eT.1 g1;obtain⟨r0,CI⟩:=Option.isSome_iff_exists.1 ((R2.mw cf p).2 g4);have:=e5.row p r0 CI;rw[g0] at this;cases this;obtain⟨p',h6,rfl⟩:=R2.aB cf p _ CI cs g2 q g3;exact⟨p',(R2.mw cf p').1 h6,rfl⟩
  obtain⟨p,g1,rfl⟩:=key;obtain⟨r0,CI⟩:=Option.isSome_iff_exists.1 ((R2.mw cf p).2 g1);exact⟨r0,wH p r0 CI⟩
 rw[e2 ρ'];have:=hk X R2 et (BH et R2 Hd) e1 (.sb JB Hd) ?_ ?_ ?_ (fun q hq=>vq q (Uh q hq)) ?_
 ·rw[sU] at this;rw[sU];exact this
 ·intro p hp;rw[sU];simp only;rw[e6 p hp];exact Oz p (hfx p hp)
 ·intro p hp;rw[sU];simp only;rcases uQ (cf p) with⟨p',g2,g3,g4⟩|⟨g2,g3⟩
  ·exact .inl ⟨p',g2,g4⟩
  exact .inr ⟨_,g3⟩
 ·intro q g1 g2;rw[gx Hd,hHd]
  ·simp only;rw[if_neg (by rintro⟨p,g3,g4⟩;exact g1 p g3 g4.symm)]
  intro p hp e;rw[sU] at e;simp only at e;rcases uQ (cf p) with⟨p',g3,g4,g5⟩|⟨g3,g4⟩
  ·exact g1 p' g3 (e.symm.trans g5)
  exact g2 _ (e.symm.trans g4)
 intro l vI;rw[gx Hd vI];exact acd l
def gY {P:Program} {G:Nat→Option (List IV)} {f:Nat} {n:Nat} {rs:List RO} {ac:AC} {args:List AV} {R:qx} {fx:List Nat} {Q:((Nat→Lb)→AV)→qx→Prop}
  (hF:an P G f=some (n,rs,ac.bare)) (hn:args.length≤n) (ha:∀l∈ah args,∃p,R.ok p∧l= .par p)
  (hg:go ⟨P,G,n⟩ (kX rs fun x H'=>∃t:((Nat→Lb)→AV)×qx×(Nat→Lb),
   Q t.1 t.2.1∧(∀ρ,e7 ρ (t.1 t.2.2)=t.1 fun i=>ρ (t.2.2 i))∧(∀l∈x.aB,∃p,t.2.1.ok p∧l=t.2.2 p)∧x=t.1 t.2.2∧nZ t.2.2 t.2.1 H'∧∀p∈fx,t.2.2 p= .par p) [.code ac] (lE args) (je R)):uO P G f args R fx Q:=by
 refine⟨ha,jB hF hn ?_ ?_ hg⟩
 ·rintro l ⟨r,h⟩;obtain⟨p,_,rfl,_⟩:=pQ h;rfl
 intro l hl;obtain⟨p,h4,rfl⟩:=ha l hl;obtain⟨r,hr⟩:=(jg R).live h4;rw[hr];simp
def uO.mono {P:Program} {G:Nat→Option (List IV)} {f:Nat} {args:List AV} {R:qx} {fx:List Nat} {Q Q':((Nat→Lb)→AV)→qx→Prop} (h:uO P G f args R fx Q) (hq:∀X R,Q X R→Q' X R):uO P G f args R fx Q':=
 ⟨h.1,h.2.mono fun x H ⟨t,h1,h2⟩=>⟨t,hq _ _ h1,h2⟩⟩
end Go.Am

namespace Go.Am
open Go Go.RowKit
open Classical in
noncomputable def nI (labC lab:Nat→Lb) (R:qx) (m:List (Lb×Lb)):Lb→Lb:=fun q=>
 if h:∃p,R.ok p∧labC p=q then lab (Classical.choose h) else bZ m q
def kj {labC lab:Nat→Lb} {R:qx} {m:List (Lb×Lb)} (hi:∀p q,R.ok p→R.ok q→labC p=labC q→p=q) {p:Nat} (hp:R.ok p):nI labC lab R m (labC p)=lab p:=by
 have h:∃p',R.ok p'∧labC p'=labC p:=⟨p,hp,rfl⟩;have hc:=agL h;unfold nI;rw[agK h,hi _ _ hc.1 hp hc.2]
def ju {labC lab:Nat→Lb} {R:qx} {m:List (Lb×Lb)} {q:Lb} (h:∀p,R.ok p→labC p≠q):nI labC lab R m q=bZ m q:=by
 unfold nI;rw[dif_neg (by rintro⟨p,h1,h2⟩;exact h p h1 h2)]
structure WH (labC:Nat→Lb) (R:qx) (ls:List Lb) (u:Lb→Bool) (ps:List (Nat×AV)) (rs:List (Lb×Row)) (env:Env) (H:Hp) (lab:Nat→Lb) (m:List (Lb×Lb)):Prop where
 at':nZ lab R H
 nf:∀l:Lb,l.entry=true→H l≠ .unused→(∃p,R.ok p∧labC p=l)∨l∈ls∨u l=true
 e:kv (nI labC lab R m) env ps
 r:∀q∈rs,H (bZ m q.1)= .live (cV (nI labC lab R m) q.2)
 inj:(ls.map (bZ m)).Nodup
 ap:∀l∈ls,∀p,R.ok p→lab p≠bZ m l
 fr:∀l∈ls,(l.fresh=true→(bZ m l).fresh=true)∧(l.entry=true→bZ m l=l)
 fp:∀p,R.ok p→((labC p).fresh=true→(lab p).fresh=true)∧((labC p).entry=true→lab p=labC p)
def WH.wk {labC:Nat→Lb} {R:qx} {ls:List Lb} {u:Lb→Bool} {ps:List (Nat×AV)} {rs:List (Lb×Row)} {env:Env} {H:Hp} {lab:Nat→Lb} {m:List (Lb×Lb)} (h:WH labC R ls u ps rs env H lab m)
  (hi:∀p q,R.ok p→R.ok q→labC p=labC q→p=q) (rH:rs.map Prod.fst=ls) (hC:∀l∈ls,∀p,R.ok p→labC p≠l) (hp:∀l∈ah (ps.map Prod.snd),l∈ls∨∃p,R.ok p∧labC p=l)
  (hr:∀q∈rs,∀cs∈q.2.els,∀l∈ah cs,l∈ls∨∃p,R.ok p∧labC p=l):Wk (nI labC lab R m) env H (qc ps) (BH labC R (fy u rs)):=by
 have Ah:∀l,live (BH labC R (fy u rs)) l→(∃p,R.ok p∧labC p=l)∨((∀p,R.ok p→labC p≠l)∧l∈ls):=by
  rintro l ⟨r,hl⟩;rcases tJ hi hl with⟨p,h1,h2,_⟩|⟨h1,h2⟩
  ·exact .inl ⟨p,h1,h2⟩
  exact .inr ⟨h1,by rw[←rH];exact adY.2 ⟨_,kq (dm.1 h2),rfl⟩⟩
 have Yt:∀l,(l∈ls∨∃p,R.ok p∧labC p=l)→BH labC R (fy u rs) l≠ .unused:=by
  intro l hl;by_cases e:∃p,R.ok p∧labC p=l
  ·obtain⟨p,h1,rfl⟩:=e;obtain⟨r,hr⟩:=(nZ.sb hi (fy u rs)).live h1;rw[hr];simp
  rw[gx _ fun p h1 h2=>e ⟨p,h1,h2⟩];rcases hl with hl|hl
  ·exact oz (.inl (by rw[rH];exact hl))
  exact absurd hl e
 refine⟨h.e.we,?_,?_,vO fun l hl=>Yt l (hp l hl),?_,?_,?_⟩
 ·intro l r hl;rcases tJ hi hl with⟨p,h1,rfl,h2⟩|⟨h1,h2⟩
  ·rw[kj hi h1];have:=R.nat labC (nI labC lab R m) p;have e:R.row (fun i=>nI labC lab R m (labC i)) p=R.row lab p:=by
    have h0:=R.nat Lb.par (A6 (fun i=>nI labC lab R m (labC i))) p;have h0':=R.nat Lb.par (A6 lab) p;simp only[A6] at h0 h0';rw[h0,h0'];cases qC:R.row Lb.par p with
    |none=>rfl
    |some r0=>
    simp only[adB,jl,cV,Row.mk.injEq,adF];refine aej fun cs bS=>la cs fun z hz=> ?_;obtain⟨p',h6,rfl⟩:=R.aB Lb.par p r0 qC cs bS z hz;simp only[A6];exact kj hi ((R.mw _ _).1 h6)
   rw[e,h2] at this;exact h.at'.row p _ this
  rw[ju h1];exact h.r _ (kq (dm.1 h2))
 ·intro l l' g1 g2 e;rcases Ah l g1 with⟨p,h1,rfl⟩|⟨h1,UU⟩<;>rcases Ah l' g2 with⟨p',h2,rfl⟩|⟨h2,h2'⟩
  ·rw[kj hi h1,kj hi h2] at e;rw[h.at'.inj p p' h1 h2 e]
  ·rw[kj hi h1,ju h2] at e;exact absurd e (h.ap _ h2' p h1)
  ·rw[ju h1,kj hi h2] at e;exact absurd e.symm (h.ap _ UU p' h2)
  rw[ju h1,ju h2] at e;exact mb h.inj l UU l' h2' e
 ·intro l r hl cs bS q hq;rcases tJ hi hl with⟨p,h1,rfl,h2⟩|⟨h1,h2⟩
  ·obtain⟨p',h6,rfl⟩:=R.aB labC p r h2 cs bS q hq;exact Yt _ (.inr ⟨p',(R.mw _ _).1 h6,rfl⟩)
  exact Yt q (hr _ (kq (dm.1 h2)) cs bS q hq)
 ·intro l hf;refine⟨fun hu=> ?_,fun hl=> ?_⟩
  ·rcases h.nf l hf hu with⟨p,h1,h2⟩|h1|h1
   ·exact Yt l (.inr ⟨p,h1,h2⟩)
   ·exact Yt l (.inl h1)
   by_cases e:∃p,R.ok p∧labC p=l
   ·exact Yt l (.inr e)
   rw[gx _ fun p h1 h2=>e ⟨p,h1,h2⟩];exact oz (.inr h1)
  rcases Ah l hl with⟨p,h1,rfl⟩|⟨h1,h2⟩
  ·rw[kj hi h1];exact(h.fp p h1).2 hf
  rw[ju h1];exact(h.fr l h2).2 hf
 intro l hl hf;rcases Ah l hl with⟨p,h1,rfl⟩|⟨h1,h2⟩
 ·rw[kj hi h1];exact(h.fp p h1).1 hf
 rw[ju h1];exact(h.fr l h2).1 hf
def w_ {σ:Type} {S:St} {Q:oW} {c:AC} {k:List It} {env:Env} {H:Hp} (labC:Nat→Lb) (R:σ→qx) (ls:List Lb) (u:Lb→Bool) (ps:σ→List (Nat×AV)) (rs:σ→List (Lb×Row)) (μ:σ→Nat) (s0:σ)
  (hi:∀s p q,(R s).ok p→(R s).ok q→labC p=labC q→p=q) (rH:∀s,(rs s).map Prod.fst=ls) (hC:∀s,∀l∈ls,∀p,(R s).ok p→labC p≠l) (hp:∀s,∀l∈ah ((ps s).map Prod.snd),l∈ls∨∃p,(R s).ok p∧labC p=l)
  (hr:∀s,∀q∈rs s,∀cs∈q.2.els,∀l∈ah cs,l∈ls∨∃p,(R s).ok p∧labC p=l) (h0:∃lab m,WH labC (R s0) ls u (ps s0) (rs s0) env H lab m)
  (round:∀s,go S (tf S Q k (fun env H s=>∃lab m,WH labC (R s) ls u (ps s) (rs s) env H lab m) μ (μ s)) [.code c] (qc (ps s)) (BH labC (R s) (fy u (rs s)))):vk S Q c k env H:=
 re (fun s=>qc (ps s)) (fun s=>BH labC (R s) (fy u (rs s))) _ (fun _ _ s ⟨lab,m,h⟩=>⟨_,h.wk (hi s) (rH s) (hC s) (hp s) (hr s)⟩) μ s0 h0 round
end Go.Am

namespace Go.Am
open Go Go.RowKit
def p2 (a b:Nat):Nat:=2^a*(2*b+1)
theorem kl:∀{a b c d:Nat},p2 a b=p2 c d→a=c∧b=d
 |0,b,0,d,h=>by simp[p2] at h;omega
 |0,b,c+1,d,h=>by
  simp only[p2,ag1,Nat.pow_zero,afL] at h;have:2^c*2*(2*d+1)=2*(2^c*(2*d+1)):=by rw[afk (2^c) 2,ago]
  omega
 |a+1,b,0,d,h=>by
  simp only[p2,ag1,Nat.pow_zero,afL] at h;have:2^a*2*(2*b+1)=2*(2^a*(2*b+1)):=by rw[afk (2^a) 2,ago]
  omega
 |a+1,b,c+1,d,h=>by
  have h2:p2 a b=p2 c d:=by
   simp only[p2,ag1] at h ⊢;have e1:2^a*2*(2*b+1)=2*(2^a*(2*b+1)):=(by rw[afk (2^a) 2,ago]);have e2:2^c*2*(2*d+1)=2*(2^c*(2*d+1)):=(by rw[afk (2^c) 2,ago]);omega
  have:=kl h2;omega
def Lb.enc:Lb→Nat
 | .loc n=>p2 0 n
 | .par n=>p2 1 n
 | .gen n=>p2 2 n
 | .nest l i j=>p2 3 (p2 l.enc (p2 i j))
theorem Lb.JC:∀l l':Lb,l.enc=l'.enc→l=l'
 | .loc n,.loc m,h=>by rw[(kl h).2]
 | .par n,.par m,h=>by rw[(kl h).2]
 | .gen n,.gen m,h=>by rw[(kl h).2]
 | .nest l i j,.nest l' i' j',h=>by
  have h1:=kl (kl h).2;have h2:=kl h1.2;rw[Lb.JC l l' h1.1,h2.1,h2.2]
 | .loc n,.par m,h=>by have:=(kl h).1;omega
 | .loc n,.gen m,h=>by have:=(kl h).1;omega
 | .loc n,.nest _ _ _,h=>by have:=(kl h).1;omega
 | .par n,.loc m,h=>by have:=(kl h).1;omega
 | .par n,.gen m,h=>by have:=(kl h).1;omega
 | .par n,.nest _ _ _,h=>by have:=(kl h).1;omega
 | .gen n,.loc m,h=>by have:=(kl h).1;omega
 | .gen n,.par m,h=>by have:=(kl h).1;omega
 | .gen n,.nest _ _ _,h=>by have:=(kl h).1;omega
 | .nest _ _ _,.loc m,h=>by have:=(kl h).1;omega
 | .nest _ _ _,.par m,h=>by have:=(kl h).1;omega
 | .nest _ _ _,.gen m,h=>by have:=(kl h).1;omega
def NW (c:Nat) (l:Lb):Lb:= .nest (.loc c) l.enc 1
def HR (c:Nat):∀l l',NW c l=NW c l'→l=l':=fun l l' h=>Lb.JC _ _ (by simpa[NW] using h)
def A7 (c:Nat) (l:Lb):(NW c l).fresh=true:=rfl
def NC (c:Nat) (l:Lb):Lb:= .nest l c 2
def tM (c:Nat):∀l l',NC c l=NC c l'→l=l':=fun l l' h=>by simpa[NC] using h
def xa (sz:Nat) (xs:List IV):qx where
 row _ p:=if p=0 then some ⟨sz,ar xs⟩ else none
 nat lab ρ p:=by by_cases h:p=0<;>simp[h,b5]
 aB lab p r h cs bS q hq:=by
  by_cases h0:p=0
  ·simp[h0] at h;subst h;rw[bT bS] at hq;simp at hq
  simp[h0] at h
def lH {sz:Nat} {xs:List IV} {p:Nat}:(xa sz xs).ok p↔p=0:=by
 unfold qx.ok xa;by_cases h:p=0<;>simp[h]
def DT:qx where
 row _ _:=none
 nat _ _ _:=rfl
 aB _ _ _ h:=by cases h
def pa {p:Nat}:¬DT.ok p:=by simp[qx.ok,DT]
def HS:je DT=Hp.none:=by
 funext q;exact gx _ fun p hp=>absurd hp pa
abbrev DU (P:Program) (G:Nat→Option (List IV)) (f:Nat) (args:List AV) (sz:Nat) (xs:List IV):Prop:=
 uO P G f args DT [] fun X R2=>X=(fun lab=> .sl (lab 0) sz 0 xs.length)∧R2=xa sz xs
def CS {P:Program} {G:Nat→Option (List IV)} {f:Nat} {n:Nat} {rs:List RO} {ac:AC} {args:List AV} {sz:Nat} {xs:List IV}
  (hF:an P G f=some (n,rs,ac.bare)) (hn:args.length≤n) (ha:ah args=[])
  (hg:go ⟨P,G,n⟩ (kX rs fun x H'=>∃L,x= .sl L sz 0 xs.length∧H' L= .live ⟨sz,ar xs⟩) [.code ac] (lE args) Hp.none):DU P G f args sz xs:=by
 refine⟨by rw[ha];simp,?_⟩;rw[HS];refine(jB hF hn (by intro l ⟨r,h⟩;simp[Hp.none] at h) (by rw[ha];simp) hg).mono ?_;rintro x H ⟨L,hx,hL⟩;refine⟨⟨fun lab=> .sl (lab 0) sz 0 xs.length,xa sz xs,fun _=>L⟩,⟨rfl,rfl⟩,fun ρ=>rfl,fun l hl=>⟨0,lH.2 rfl,?_⟩,hx,⟨fun p r hr=> ?_,fun p q hp hq _=>(lH.1 hp).trans (lH.1 hq).symm⟩,by simp⟩
 ·rw[hx] at hl;simpa[AV.aB] using hl
 simp only[xa] at hr;by_cases h:p=0
 ·simp[h] at hr;subst hr;exact hL
 simp[h] at hr

section
variable {K:Kx} {β:Lb→Option Nat} {env:Env} {H:Hp} {a:Act} {w:World}
def bu.trim (hr:bu K β env H a w) {l:Lb} {sz:Nat} {els:List (List AV)} (k:Nat) (hl:H l= .live ⟨sz,els⟩):bu K β env (bF H l (.live ⟨sz,els.take k⟩)) a w:=by
 cases hb:β l with
 |none=>
  have:=(hr.rows l _ hl).2.2;simp only[hb] at this;subst this;simp only[List.take_nil];rw[CP hl];exact hr
 |some g=>
 refine hr.Fu hl g hb ?_ ?_ ?_ ?_
 ·intro cur e cap k1 k2 k4;rw[adP];omega
 ·exact fun cs bS=>(hr.rows l _ hl).2.1 cs (ad4 bS)
 ·exact fun cs bS=>hr.fk l _ hl cs (ad4 bS)
 intro i j cs x hi hj;rw[adT] at hi;split at hi
 ·exact .inr ⟨cs,hi,hj⟩
 simp at hi
end
def sc {P:Program} {G:Nat→Option (List IV)} {f:Nat} {n:Nat} {rs:List RO} {ac:AC} {args:List AV} {sz:Nat} {xs ys:List IV}
  (hF:an P G f=some (n,rs,ac.bare)) (hn:args.length≤n) (ha:∀l∈ah args,l= .par 0)
  (hg:go ⟨P,G,n⟩ (kX rs fun x H'=>∃L c els,(x= .sl L sz 0 ys.length∨x= .slk L sz 0 ys.length c)∧H' L= .live ⟨sz,ar ys++els⟩) [.code ac] (lE args) (gg sz xs)):va P G sz f args xs ys:=by
 refine⟨ha,?_⟩;have h0:=jB hF hn ?_ ?_ hg
 ·intro w A β vs hr hv;refine(h0 w A β vs hr hv).mono ?_;rintro e w' ⟨v,x,H1,β',rfl,⟨L,c,els,hx,hL⟩,sY,Mt,hm⟩;have ht:=sY.trim ys.length hL;rw[show(ar ys++els).take ys.length=ar ys by rw[←dw ys,List.take_left]] at ht;have bo:∀q,live (bF H1 L (.live ⟨sz,ar ys⟩)) q→live H1 q:=by
   rintro q ⟨r,hq⟩;by_cases e:q=L
   ·subst e;exact⟨_,hL⟩
   rw[ax _ _ e] at hq;exact⟨r,hq⟩
  refine⟨v,.sl L sz 0 ys.length,_,β',rfl,⟨L,rfl,by simp⟩,ht,?_,by simp[AV.aB]⟩;simp only[RV];rcases hx with rfl|rfl
  ·simp only[RV] at Mt;obtain⟨ad,c,g1,g2,g3,g4,g5⟩:=Mt;exact⟨ad,c,g1,g2,g3,g4,fun hl=>g5 (bo _ hl)⟩
  simp only[RV] at Mt;obtain⟨ad,g1,g2,g3,g4,g5⟩:=Mt;exact⟨ad,c,g1,g2,g3,fun h=>g4 (by omega),fun hl=>g5 (bo _ hl)⟩
 ·rintro l ⟨r,h⟩;by_cases e:l= .par 0
  ·subst e;rfl
  rw[gg,ax _ _ e] at h;simp[Hp.none] at h
 intro l hl;rw[ha l hl];simp[gg]
def xb {S:St} {f:Nat} {fn:Func} (hf:S.P.funcs[f]?=some fn) (w7:(fn.name== "runtime.NumGoroutine")=false) (hb:fn.body.isNone=true)
  (hn:Extern.findNext fn=none) {tS tR e:TypeId} (he:Extern.find fn=some (Extern.SlicesOverlaps.overlaps #[tS,tS] #[tR])) (ht:S.P.underlying tS=some (.slice e)) {size:Nat} (hz:∀w,(Go.sizeOf e).run S.P w= .ok size w)
  {vs:List IV} (hv:vs≠[]) {l:Lb} {sz i n c:Nat} {r:Row} {H:Hp} (hl:H l= .live r) (h0:0<n):o7 S f [.list vs,.slk l sz i n c] H (.bool false):=by
 intro K β env a w ws hS qD Ys;subst hS
 match ws,Ys with
 |[u,v],h=>
  simp only[cM] at h;obtain⟨_,_,e0,h1,_,_,e2,h3,e4⟩:=h;cases e0;cases e2;cases e4;simp only[RV,kP] at h1 h3;obtain⟨ad,c1,rfl,g1,g2,g3⟩:=h1;obtain⟨ad2,rfl,k1,k2,k3,k4⟩:=h3;have Em:vs.length≠0:=fun e=>hv (aea.1 e);rcases g3 with g3|⟨b,o,s2,rfl,g4,g5,g6,g7⟩
  ·exact absurd g3 Em
  rcases k4 ⟨_,hl⟩ with k4|⟨g,Sz,q1,rfl,q3,q4⟩
  ·omega
  have qC:=qD.rows l r hl;obtain⟨cur,ee,cap,p1,p2,p3,p4,p5⟩:=qC.block q1;obtain⟨y,MM,rfl⟩:∃y MM,vs=y::MM:=by cases vs with|nil=>exact absurd rfl hv|cons y q=>exact⟨y,q,rfl⟩
  simp only[dS] at g7;have sL:∃z,w.cell? ⟨b,o,none⟩=some z:=by
   have:=g7.1;rw[ku] at this;obtain⟨hs,hc⟩:=this;cases bS:y.cells with
   |nil=>rw[bS] at hs;simp at hs;omega
   |cons c0 cr=>
   rw[bS] at hc;simp only[dF] at hc;obtain⟨⟨z,hz,_⟩,_⟩:=hc;exact⟨z,hz⟩
  obtain⟨z,rP⟩:=sL;obtain⟨cb,eb,fb,aap⟩:∃cb eb fb,w.heap[b]?=some (.cells cb eb fb):=by
   unfold World.cell? at rP;simp only at rP;split at rP
   ·rename_i cb eb fb hb;exact⟨cb,eb,fb,hb⟩
   cases rP
  have hcb:cb.size≠0:=by
   intro e;unfold World.cell? at rP;simp only[aap] at rP;simp at rP;have:cb=#[]:=Array.eq_empty_of_size_eq_zero e
   subst this;simp at rP
  have ff:b≠g:=by
   rintro rfl;exact g4.2 l ⟨_,hl⟩ q1
  have Yi:(b !=g)=true:=by simpa using ff
  have ace:(b==g)=false:=by simpa using ff
  refine⟨.bool false,w,?_,Below.refl _ _,by simp[RV],by simp[AV.aB]⟩;rw[run_callFunc_extern hf w7 hb hn he];have aaq:(Extern.SlicesOverlaps.overlaps #[tS,tS] #[tR] #[.slice (some ⟨b,o,none⟩) (y::MM).length c1,.slice (some ⟨g,i*sz,none⟩) n c]).run K.P w= .ok (.bool false) w:=by
   unfold Extern.SlicesOverlaps.overlaps
   rw[show ∀(p:Option Addr) (k d:Nat) (q:Option Addr) (k' d':Nat) (h1:Option Addr→Nat→Nat→Option Addr→Nat→Nat→Sem Value) (h2:Array Value→Sem Value),Extern.SlicesOverlaps.overlaps.match_4 (fun _=>Sem Value) #[.slice p k d,.slice q k' d'] h1 h2=h1 p k d q k' d' from fun _ _ _ _ _ _ _ _=>rfl]
   have hsa:w.shape? b=some (eb,cb.size):=(by simp[World.shape?,aap]);have hsb:w.shape? g=some (ee,cur.size):=(by simp[World.shape?,p1]);have hfz:∀off,w.frozen? ⟨g,off,none⟩=false:=fun off=>(by simp[World.frozen?,p1]);obtain⟨kB,hkB⟩:∃kB,cb.size=kB+1:=⟨cb.size - 1,by omega⟩;by_cases h0:(y::MM).length=0∨n=0∨size=0
   ·simp[run_underlying ht,hz,h0];rcases h0 with h0|h0|h0
    ·simp at h0
    ·omega
    simp[h0]
   have Ko:size≠0:=fun e=>h0 (.inr (.inr e));have qX:n≠0:=by omega
   cases hfa:w.frozen? ⟨b,o,none⟩<;>cases hfe:w.frozen? ⟨b,cb.size,none⟩ <;>
    simp[run_underlying ht,hz,h0,Yi,ace,frozen,noView,viewAt,mayBeOne,stringish,shape,Sem.run,hsa,hsb,hfz,hkB,hfa,Ko,qX]<;>rw[hkB] at hfe<;>simp[hfe]
  rw[aaq];rfl

structure Bn where
 n0:Nat
 nodes:List Node
 fs:List Int
 as:List Int
def Bn.at (b:Bn) (i:Nat):List Attr:=match b.nodes[i]? with|some x=>x.attrs|none=>[]
def Bn.kd (b:Bn) (i:Nat):List Int:=match b.nodes[i]? with|some x=>x.kids|none=>[]
def Bn.sd {b:Bn} {i:Nat} {x:Node} (h:b.nodes[i]?=some x):b.at i=x.attrs:=by simp[Bn.at,h]
def Bn.oe {b:Bn} {i:Nat} {x:Node} (h:b.nodes[i]?=some x):b.kd i=x.kids:=by simp[Bn.kd,h]
def dN (n0:Nat) (lab:Nat→Lb) (i:Nat) (x:Node):List AV:=
 [.bool x.text,.str x.s,if i<n0 then .sl (lab (4+2*i)) 2 0 x.attrs.length else .list (dA x.attrs),.int .i64 x.parent,if i<n0 then .sl (lab (5+2*i)) 1 0 x.kids.length else .list (x.kids.map aW)]
def zl (b:Bn) (lab:Nat→Lb) (p:Nat):Option Row:=
 if p=0 then some ⟨3,[[.sl (lab 1) 5 0 b.nodes.length,.sl (lab 2) 1 0 b.fs.length,.sl (lab 3) 1 0 b.as.length]]⟩
 else if p=1 then some ⟨5,b.nodes.mapIdx (dN b.n0 lab)⟩
 else if p=2 then some ⟨1,ar (b.fs.map aW)⟩
 else if p=3 then some ⟨1,ar (b.as.map aW)⟩
 else if p<4+2*b.n0 then(if p%2=0 then some ⟨2,ar (dA (b.at ((p - 4)/2)))⟩ else some ⟨1,ar ((b.kd ((p - 5)/2)).map aW)⟩)
 else none
def Ls (n0:Nat) (lab:Nat→Lb) (ρ:Lb→Lb) (i:Nat) (x:Node):aY ρ (dN n0 lab i x)=dN n0 (fun i=>ρ (lab i)) i x:=by
 unfold dN;by_cases h:i<n0<;>simp[aY,e7,h]
def Lt {n0:Nat} {lab:Nat→Lb} {i:Nat} {x:Node} {q:Lb} (h:q∈ah (dN n0 lab i x)):i<n0∧(q=lab (4+2*i)∨q=lab (5+2*i)):=by
 unfold dN at h;by_cases hi:i<n0
 ·simpa[ah,AV.aB,hi] using h
 simp[ah,AV.aB,hi] at h
def n4 {b:Bn} {lab:Nat→Lb} {p:Nat}:(zl b lab p).isSome=true↔p<4+2*b.n0:=by
 unfold zl;by_cases h0:p=0
 ·simp[h0];omega
 by_cases h1:p=1
 ·simp[h1];omega
 by_cases h2:p=2
 ·simp[h2];omega
 by_cases h3:p=3
 ·simp[h3];omega
 by_cases h4:p<4+2*b.n0
 ·by_cases h5:p%2=0<;>simp[h0,h1,h2,h3,h4,h5]
 simp[h0,h1,h2,h3,h4]
def dP (b:Bn):qx where
 row:=zl b
 nat lab ρ p:=by
  unfold zl;by_cases h0:p=0
  ·simp[h0,cV,aY,e7]
  by_cases h1:p=1
  ·simp only[h1,ag8 (show ¬(1:Nat)=0 by decide),adH,adB,jl,cV,Row.mk.injEq,adF];refine aeU fun i=> ?_;simp only[adX,aeX,Option.map_map];congr 1;funext x;exact(Ls _ _ _ _ _).symm
  by_cases h2:p=2
  ·simp[h2,b5]
  by_cases h3:p=3
  ·simp[h3,b5]
  by_cases h4:p<4+2*b.n0
  ·by_cases h5:p%2=0<;>simp[h0,h1,h2,h3,h4,h5,b5]
  simp[h0,h1,h2,h3,h4]
 aB lab p r hr cs bS q hq:=by
  unfold zl at hr;by_cases h0:p=0
  ·simp[h0] at hr;subst hr;simp only[adr] at bS;subst bS;simp[ah,AV.aB] at hq;rcases hq with rfl|rfl|rfl
   ·exact⟨1,n4.2 (by omega),rfl⟩
   ·exact⟨2,n4.2 (by omega),rfl⟩
   exact⟨3,n4.2 (by omega),rfl⟩
  by_cases h1:p=1
  ·simp[h1] at hr;subst hr;simp only at bS;obtain⟨i,hi⟩:=aeh bS;rw[aeX] at hi;obtain⟨x,_,rfl⟩:=ag4.1 hi;obtain⟨h5,h6⟩:=Lt hq;rcases h6 with rfl|rfl
   ·exact⟨4+2*i,n4.2 (by omega),rfl⟩
   exact⟨5+2*i,n4.2 (by omega),rfl⟩
  have key:∀(sz:Nat) (xs:List IV),r=⟨sz,ar xs⟩→False:=by
   rintro sz xs rfl;rw[bT bS] at hq;simp at hq
  exfalso;by_cases h2:p=2
  ·simp[h2] at hr;exact key _ _ hr.symm
  by_cases h3:p=3
  ·simp[h3] at hr;exact key _ _ hr.symm
  by_cases h4:p<4+2*b.n0
  ·by_cases h5:p%2=0
   ·simp[h0,h1,h2,h3,h4,h5] at hr;exact key _ _ hr.symm
   simp[h0,h1,h2,h3,h4,h5] at hr;exact key _ _ hr.symm
  simp[h0,h1,h2,h3,h4] at hr
def bd {b:Bn} {p:Nat}:(dP b).ok p↔p<4+2*b.n0:=n4
def pb {b:Bn} {lab:Nat→Lb} {i:Nat} (h:i<b.n0):zl b lab (4+2*i)=some ⟨2,ar (dA (b.at i))⟩:=by
 unfold zl;rw[ag8 (by omega),ag8 (by omega),ag8 (by omega),ag8 (by omega),adv (by omega),adv (by omega),show(4+2*i - 4)/2=i by omega]
def pc {b:Bn} {lab:Nat→Lb} {i:Nat} (h:i<b.n0):zl b lab (5+2*i)=some ⟨1,ar ((b.kd i).map aW)⟩:=by
 unfold zl;rw[ag8 (by omega),ag8 (by omega),ag8 (by omega),ag8 (by omega),adv (by omega),ag8 (by omega),show(5+2*i - 5)/2=i by omega]
abbrev cR (lab:Nat→Lb) (b:Bn) (H:Hp):Prop:=nZ lab (dP b) H
section
variable {lab:Nat→Lb} {b:Bn} {H H2:Hp}
def cR.s (h:cR lab b H):H (lab 0)= .live ⟨3,[[.sl (lab 1) 5 0 b.nodes.length,.sl (lab 2) 1 0 b.fs.length,.sl (lab 3) 1 0 b.as.length]]⟩:=h.row 0 _ rfl
def cR.n (h:cR lab b H):H (lab 1)= .live ⟨5,b.nodes.mapIdx (dN b.n0 lab)⟩:=h.row 1 _ rfl
def cR.f (h:cR lab b H):H (lab 2)= .live ⟨1,ar (b.fs.map aW)⟩:=h.row 2 _ rfl
def cR.a (h:cR lab b H):H (lab 3)= .live ⟨1,ar (b.as.map aW)⟩:=h.row 3 _ rfl
def cR.at' (h:cR lab b H) {i:Nat} {x:Node} (hi:i<b.n0) (hx:b.nodes[i]?=some x):H (lab (4+2*i))= .live ⟨2,ar (dA x.attrs)⟩:=by
 have:=h.row _ _ (pb hi)
 rwa[Bn.sd hx] at this
def cR.kd (h:cR lab b H) {i:Nat} {x:Node} (hi:i<b.n0) (hx:b.nodes[i]?=some x):H (lab (5+2*i))= .live ⟨1,ar (x.kids.map aW)⟩:=by
 have:=h.row _ _ (pc hi)
 rwa[Bn.oe hx] at this
def cR.ne (h:cR lab b H) {p q:Nat} (hp:p<4+2*b.n0) (hq:q<4+2*b.n0) (e:p≠q):lab p≠lab q:=fun e2=>e (h.inj p q (bd.2 hp) (bd.2 hq) e2)
def Bn.set (b:Bn) (i:Nat) (y:Node):Bn:={b with nodes:=b.nodes.set i y}
def Bn.put (b:Bn) (y:Node):Bn:={b with nodes:=b.nodes++[y]}
def Bn.JD (b:Bn) (i:Nat) (y:Node) (lab:Nat→Lb):(b.set i y).nodes.mapIdx (dN (b.set i y).n0 lab)=(b.nodes.mapIdx (dN b.n0 lab)).set i (dN b.n0 lab i y):=by
 refine aeU fun j=> ?_;simp only[Bn.set,aeX,afD,adZ];by_cases e:i=j
 ·subst e;by_cases hl:i<b.nodes.length<;>simp[hl]
 simp[e]
def Bn.aar (b:Bn) (y:Node) (lab:Nat→Lb):(b.put y).nodes.mapIdx (dN (b.put y).n0 lab)=b.nodes.mapIdx (dN b.n0 lab)++[dN b.n0 lab b.nodes.length y]:=by
 simp[Bn.put,ag2]
def cR.lists (h:cR lab b H) {p:Nat} (h4:4≤p) (hp:p<4+2*b.n0):∃i,i<b.n0∧(p=4+2*i∨p=5+2*i):=by
 by_cases e:p%2=0
 ·exact⟨(p - 4)/2,by omega,by omega⟩
 exact⟨(p - 5)/2,by omega,by omega⟩
def cR.mk' {lab:Nat→Lb} {b:Bn} {H:Hp} (hi:∀p q,p<4+2*b.n0→q<4+2*b.n0→lab p=lab q→p=q)
  (h0:H (lab 0)= .live ⟨3,[[.sl (lab 1) 5 0 b.nodes.length,.sl (lab 2) 1 0 b.fs.length,.sl (lab 3) 1 0 b.as.length]]⟩) (h1:H (lab 1)= .live ⟨5,b.nodes.mapIdx (dN b.n0 lab)⟩)
  (h2:H (lab 2)= .live ⟨1,ar (b.fs.map aW)⟩) (h3:H (lab 3)= .live ⟨1,ar (b.as.map aW)⟩)
  (h4:∀i,i<b.n0→H (lab (4+2*i))= .live ⟨2,ar (dA (b.at i))⟩) (h5:∀i,i<b.n0→H (lab (5+2*i))= .live ⟨1,ar ((b.kd i).map aW)⟩):cR lab b H:=by
 refine⟨fun p r hp=> ?_,fun p q hp hq=>hi p q (bd.1 hp) (bd.1 hq)⟩;have bO:p<4+2*b.n0:=n4.1 (show(zl b lab p).isSome=true by change zl b lab p=some r at hp;rw[hp];rfl);change zl b lab p=some r at hp;by_cases e0:p=0
 ·subst e0;cases hp;exact h0
 by_cases e1:p=1
 ·subst e1;cases hp;exact h1
 by_cases e2:p=2
 ·subst e2;cases hp;exact h2
 by_cases e3:p=3
 ·subst e3;cases hp;exact h3
 by_cases e:p%2=0
 ·obtain⟨i,rfl⟩:∃i,p=4+2*i:=⟨(p - 4)/2,by omega⟩;rw[pb (by omega)] at hp;cases hp;exact h4 i (by omega)
 obtain⟨i,rfl⟩:∃i,p=5+2*i:=⟨(p - 5)/2,by omega⟩;rw[pc (by omega)] at hp;cases hp;exact h5 i (by omega)
def Bn.se (b:Bn) {i:Nat} {x y:Node} (hx:b.nodes[i]?=some x) (j:Nat):(b.set i y).at j=if j=i then y.attrs else b.at j:=by
 have hl:=(ag6.1 hx).1;simp only[Bn.at,Bn.set,afD];by_cases e:i=j
 ·subst e;simp[hl]
 simp[e,aef e]
def Bn.DV (b:Bn) {i:Nat} {x y:Node} (hx:b.nodes[i]?=some x) (j:Nat):(b.set i y).kd j=if j=i then y.kids else b.kd j:=by
 have hl:=(ag6.1 hx).1;simp only[Bn.kd,Bn.set,afD];by_cases e:i=j
 ·subst e;simp[hl]
 simp[e,aef e]
def cR.aas (h:cR lab b H) {i:Nat} {x:Node} {s:Bs} (hx:b.nodes[i]?=some x)
  (h1:H2 (lab 1)= .live ⟨5,(b.nodes.mapIdx (dN b.n0 lab)).set i (dN b.n0 lab i {x with s:=s})⟩) (h2:∀q,q≠lab 1→H2 q=H q):cR lab (b.set i {x with s:=s}) H2:=by
 have ff:∀p,p<4+2*b.n0→p≠1→lab p≠lab 1:=fun p hp e=>h.ne hp (by omega) e;refine cR.mk' (fun p q hp hq=>h.inj p q (bd.2 hp) (bd.2 hq)) ?_ ?_ ?_ ?_ ?_ ?_
 ·rw[h2 _ (ff 0 (by omega) (by omega)),h.s];simp[Bn.set]
 ·rw[h1,Bn.JD]
 ·rw[h2 _ (ff 2 (by omega) (by omega)),h.f];rfl
 ·rw[h2 _ (ff 3 (by omega) (by omega)),h.a];rfl
 ·intro j hj;change j<b.n0 at hj;rw[h2 _ (ff _ (by omega) (by omega)),h.row _ _ (pb hj),b.se hx];split
  ·rename_i e;subst e;rw[Bn.sd hx]
  rfl
 intro j hj;change j<b.n0 at hj;rw[h2 _ (ff _ (by omega) (by omega)),h.row _ _ (pc hj),b.DV hx];split
 ·rename_i e;subst e;rw[Bn.oe hx]
 rfl
def cR.Sl (h:cR lab b H) {i:Nat} {x:Node} {ys:List Int} {N:Lb} (hi:i<b.n0) (hx:b.nodes[i]?=some x) (hN:N=lab (5+2*i)∨∀p,p<4+2*b.n0→lab p≠N)
  (h1:H2 (lab 1)= .live ⟨5,(b.nodes.mapIdx (dN b.n0 lab)).set i [.bool x.text,.str x.s,.sl (lab (4+2*i)) 2 0 x.attrs.length,.int .i64 x.parent,.sl N 1 0 ys.length]⟩)
  (h2:H2 N= .live ⟨1,ar (ys.map aW)⟩) (h3:∀q,q≠lab 1→q≠N→q≠lab (5+2*i)→H2 q=H q) :
  cR (fun p=>if p=5+2*i then N else lab p) (b.set i {x with kids:=ys}) H2:=by
 have ff:∀p,p<4+2*b.n0→p≠1→lab p≠lab 1:=fun p hp e=>h.ne hp (by omega) e;have Hz:∀p,p<4+2*b.n0→p≠5+2*i→lab p≠lab (5+2*i):=fun p hp e=>h.ne hp (by omega) e;have A8:∀p,p<4+2*b.n0→p≠5+2*i→lab p≠N:=fun p hp e=>by
  rcases hN with rfl|hN
  ·exact Hz p hp e
  exact hN p hp
 have fH:∀p,p<4+2*b.n0→p≠1→p≠5+2*i→H2 (lab p)=H (lab p):=fun p hp e1 e2=>h3 _ (ff p hp e1) (A8 p hp e2) (Hz p hp e2);have hj:∀p,p≠5+2*i→(if p=5+2*i then N else lab p)=lab p:=fun p e=>ag8 e;refine cR.mk' ?_ ?_ ?_ ?_ ?_ ?_ ?_
 ·intro p q hp hq e;change p<4+2*b.n0 at hp;change q<4+2*b.n0 at hq;by_cases e1:p=5+2*i<;>by_cases e2:q=5+2*i
  ·rw[e1,e2]
  ·rw[adv e1,ag8 e2] at e;exact absurd e.symm (A8 q hq e2)
  ·rw[ag8 e1,adv e2] at e;exact absurd e (A8 p hp e1)
  rw[ag8 e1,ag8 e2] at e;exact h.inj p q (bd.2 hp) (bd.2 hq) e
 ·simp only[hj 0 (by omega),hj 1 (by omega),hj 2 (by omega),hj 3 (by omega)];rw[fH 0 (by omega) (by omega) (by omega),h.s];simp[Bn.set]
 ·simp only[hj 1 (by omega)];rw[h1,Bn.JD];congr 2;refine aeU fun j=> ?_;simp only[afD,adZ,aeX];by_cases e:i=j
  ·subst e;simp only[adH];congr 1;simp[dN,hi,hj (4+2*i) (by omega)]
  simp only[e,adS];congr 1;funext z;simp only[dN];rw[ag8 (show ¬4+2*j=5+2*i by omega),ag8 (show ¬5+2*j=5+2*i by omega)]
 ·simp only[hj 2 (by omega)];rw[fH 2 (by omega) (by omega) (by omega),h.f];rfl
 ·simp only[hj 3 (by omega)];rw[fH 3 (by omega) (by omega) (by omega),h.a];rfl
 ·intro j zg;change j<b.n0 at zg;simp only[hj (4+2*j) (by omega)];rw[fH _ (by omega) (by omega) (by omega),h.row _ _ (pb zg),b.se hx];split
  ·rename_i e;subst e;rw[Bn.sd hx]
  rfl
 intro j zg;change j<b.n0 at zg;rw[b.DV hx];by_cases e:j=i
 ·subst e;simp only[adH];exact h2
 simp only[hj (5+2*j) (by omega),e,adS];rw[fH _ (by omega) (by omega) (by omega),h.row _ _ (pc zg)]
def cR.mU (h:cR lab b H) {i:Nat} {x:Node} {ys:List Attr} {N:Lb} (hi:i<b.n0) (hx:b.nodes[i]?=some x) (hN:N=lab (4+2*i)∨∀p,p<4+2*b.n0→lab p≠N)
  (h1:H2 (lab 1)= .live ⟨5,(b.nodes.mapIdx (dN b.n0 lab)).set i [.bool x.text,.str x.s,.sl N 2 0 ys.length,.int .i64 x.parent,.sl (lab (5+2*i)) 1 0 x.kids.length]⟩)
  (h2:H2 N= .live ⟨2,ar (dA ys)⟩) (h3:∀q,q≠lab 1→q≠N→q≠lab (4+2*i)→H2 q=H q) :
  cR (fun p=>if p=4+2*i then N else lab p) (b.set i {x with attrs:=ys}) H2:=by
 have ff:∀p,p<4+2*b.n0→p≠1→lab p≠lab 1:=fun p hp e=>h.ne hp (by omega) e;have Hz:∀p,p<4+2*b.n0→p≠4+2*i→lab p≠lab (4+2*i):=fun p hp e=>h.ne hp (by omega) e;have A8:∀p,p<4+2*b.n0→p≠4+2*i→lab p≠N:=fun p hp e=>by
  rcases hN with rfl|hN
  ·exact Hz p hp e
  exact hN p hp
 have fH:∀p,p<4+2*b.n0→p≠1→p≠4+2*i→H2 (lab p)=H (lab p):=fun p hp e1 e2=>h3 _ (ff p hp e1) (A8 p hp e2) (Hz p hp e2);have hj:∀p,p≠4+2*i→(if p=4+2*i then N else lab p)=lab p:=fun p e=>ag8 e;refine cR.mk' ?_ ?_ ?_ ?_ ?_ ?_ ?_
 ·intro p q hp hq e;change p<4+2*b.n0 at hp;change q<4+2*b.n0 at hq;by_cases e1:p=4+2*i<;>by_cases e2:q=4+2*i
  ·rw[e1,e2]
  ·rw[adv e1,ag8 e2] at e;exact absurd e.symm (A8 q hq e2)
  ·rw[ag8 e1,adv e2] at e;exact absurd e (A8 p hp e1)
  rw[ag8 e1,ag8 e2] at e;exact h.inj p q (bd.2 hp) (bd.2 hq) e
 ·simp only[hj 0 (by omega),hj 1 (by omega),hj 2 (by omega),hj 3 (by omega)];rw[fH 0 (by omega) (by omega) (by omega),h.s];simp[Bn.set]
 ·simp only[hj 1 (by omega)];rw[h1,Bn.JD];congr 2;refine aeU fun j=> ?_;simp only[afD,adZ,aeX];by_cases e:i=j
  ·subst e;simp only[adH];congr 1;simp[dN,hi,hj (5+2*i) (by omega)]
  simp only[e,adS];congr 1;funext z;simp only[dN];rw[ag8 (show ¬4+2*j=4+2*i by omega),ag8 (show ¬5+2*j=4+2*i by omega)]
 ·simp only[hj 2 (by omega)];rw[fH 2 (by omega) (by omega) (by omega),h.f];rfl
 ·simp only[hj 3 (by omega)];rw[fH 3 (by omega) (by omega) (by omega),h.a];rfl
 ·intro j zg;change j<b.n0 at zg;rw[b.se hx];by_cases e:j=i
  ·subst e;simp only[adH];exact h2
  simp only[hj (4+2*j) (by omega),e,adS];rw[fH _ (by omega) (by omega) (by omega),h.row _ _ (pb zg)]
 intro j zg;change j<b.n0 at zg;simp only[hj (5+2*j) (by omega)];rw[fH _ (by omega) (by omega) (by omega),h.row _ _ (pc zg),b.DV hx];split
 ·rename_i e;subst e;rw[Bn.oe hx]
 rfl
def cR.push (h:cR lab b H) {y:Node} {N:Lb} (hn:b.n0≤b.nodes.length) (hN:N=lab 1∨∀p,p<4+2*b.n0→lab p≠N)
  (h0:H2 (lab 0)= .live ⟨3,[[.sl N 5 0 (b.nodes.length+1),.sl (lab 2) 1 0 b.fs.length,.sl (lab 3) 1 0 b.as.length]]⟩)
  (h1:H2 N= .live ⟨5,b.nodes.mapIdx (dN b.n0 lab)++[[.bool y.text,.str y.s,.list (dA y.attrs),.int .i64 y.parent,.list (y.kids.map aW)]]⟩) (h3:∀q,q≠lab 0→q≠lab 1→q≠N→H2 q=H q) :
  cR (fun p=>if p=1 then N else lab p) (b.put y) H2:=by
 have A8:∀p,p<4+2*b.n0→p≠1→lab p≠N:=fun p hp e=>by
  rcases hN with rfl|hN
  ·exact h.ne hp (by omega) e
  exact hN p hp
 have fH:∀p,p<4+2*b.n0→p≠0→p≠1→H2 (lab p)=H (lab p):=fun p hp e0 e1=>h3 _ (h.ne hp (by omega) e0) (h.ne hp (by omega) e1) (A8 p hp e1);have hj:∀p,p≠1→(if p=1 then N else lab p)=lab p:=fun p e=>ag8 e;have hlen:(b.put y).nodes.length=b.nodes.length+1:=by simp[Bn.put]
 have aat:∀j,j<b.n0→(b.put y).nodes[j]?=b.nodes[j]?:=fun j hj=>by simp only[Bn.put];rw[ad6 (by omega)]
 refine cR.mk' ?_ ?_ ?_ ?_ ?_ ?_ ?_
 ·intro p q hp hq e;change p<4+2*b.n0 at hp;change q<4+2*b.n0 at hq;by_cases e1:p=1<;>by_cases e2:q=1
  ·rw[e1,e2]
  ·rw[adv e1,ag8 e2] at e;exact absurd e.symm (A8 q hq e2)
  ·rw[ag8 e1,adv e2] at e;exact absurd e (A8 p hp e1)
  rw[ag8 e1,ag8 e2] at e;exact h.inj p q (bd.2 hp) (bd.2 hq) e
 ·simp only[hj 0 (by omega),adH,hj 2 (by omega),hj 3 (by omega),hlen];exact h0
 ·show H2 N=_;rw[h1,Bn.aar];have vi:dN b.n0 (fun p=>if p=1 then N else lab p)=dN b.n0 lab:=by
   funext j z;simp only[dN];rw[ag8 (show ¬4+2*j=1 by omega),ag8 (show ¬5+2*j=1 by omega)]
  rw[vi];simp[dN,show ¬b.nodes.length<b.n0 by omega]
 ·simp only[hj 2 (by omega)];rw[fH 2 (by omega) (by omega) (by omega),h.f];rfl
 ·simp only[hj 3 (by omega)];rw[fH 3 (by omega) (by omega) (by omega),h.a];rfl
 ·intro j zg;change j<b.n0 at zg;simp only[hj (4+2*j) (by omega)];rw[fH _ (by omega) (by omega) (by omega),h.row _ _ (pb zg)];simp only[Bn.at,aat j zg]
 intro j zg;change j<b.n0 at zg;simp only[hj (5+2*j) (by omega)];rw[fH _ (by omega) (by omega) (by omega),h.row _ _ (pc zg)];simp only[Bn.kd,aat j zg]
def cR.acf (h:cR lab b H) {i:Nat} {x:Node} {ys:List Int} (hi:b.n0≤i) (hx:b.nodes[i]?=some x)
  (h1:H2 (lab 1)= .live ⟨5,(b.nodes.mapIdx (dN b.n0 lab)).set i [.bool x.text,.str x.s,.list (dA x.attrs),.int .i64 x.parent,.list (ys.map aW)]⟩) (h2:∀q,q≠lab 1→H2 q=H q):cR lab (b.set i {x with kids:=ys}) H2:=by
 have ff:∀p,p<4+2*b.n0→p≠1→lab p≠lab 1:=fun p hp e=>h.ne hp (by omega) e;refine cR.mk' (fun p q hp hq=>h.inj p q (bd.2 hp) (bd.2 hq)) ?_ ?_ ?_ ?_ ?_ ?_
 ·rw[h2 _ (ff 0 (by omega) (by omega)),h.s];simp[Bn.set]
 ·rw[h1,Bn.JD];simp[dN,show ¬i<b.n0 by omega]
 ·rw[h2 _ (ff 2 (by omega) (by omega)),h.f];rfl
 ·rw[h2 _ (ff 3 (by omega) (by omega)),h.a];rfl
 ·intro j hj;change j<b.n0 at hj;rw[h2 _ (ff _ (by omega) (by omega)),h.row _ _ (pb hj),b.se hx,ag8 (by omega)]
 intro j hj;change j<b.n0 at hj;rw[h2 _ (ff _ (by omega) (by omega)),h.row _ _ (pc hj),b.DV hx,ag8 (by omega)]
def cR.acg (h:cR lab b H) {fs:List Int} (hl:fs.length=b.fs.length) (h1:H2 (lab 2)= .live ⟨1,ar (fs.map aW)⟩) (h2:∀q,q≠lab 2→H2 q=H q):cR lab {b with fs:=fs} H2:=by
 have ff:∀p,p<4+2*b.n0→p≠2→lab p≠lab 2:=fun p hp e=>h.ne hp (by omega) e;refine cR.mk' (fun p q hp hq=>h.inj p q (bd.2 hp) (bd.2 hq)) ?_ ?_ ?_ ?_ ?_ ?_
 ·rw[h2 _ (ff 0 (by omega) (by omega)),h.s];simp[hl]
 ·rw[h2 _ (ff 1 (by omega) (by omega)),h.n]
 ·exact h1
 ·rw[h2 _ (ff 3 (by omega) (by omega)),h.a]
 ·intro j hj;change j<b.n0 at hj;rw[h2 _ (ff _ (by omega) (by omega)),h.row _ _ (pb hj)];rfl
 intro j hj;change j<b.n0 at hj;rw[h2 _ (ff _ (by omega) (by omega)),h.row _ _ (pc hj)];rfl
def cR.aau (h:cR lab b H) {as:List Int} (hl:as.length=b.as.length) (h1:H2 (lab 3)= .live ⟨1,ar (as.map aW)⟩) (h2:∀q,q≠lab 3→H2 q=H q):cR lab {b with as:=as} H2:=by
 have ff:∀p,p<4+2*b.n0→p≠3→lab p≠lab 3:=fun p hp e=>h.ne hp (by omega) e;refine cR.mk' (fun p q hp hq=>h.inj p q (bd.2 hp) (bd.2 hq)) ?_ ?_ ?_ ?_ ?_ ?_
 ·rw[h2 _ (ff 0 (by omega) (by omega)),h.s];simp[hl]
 ·rw[h2 _ (ff 1 (by omega) (by omega)),h.n]
 ·rw[h2 _ (ff 2 (by omega) (by omega)),h.f]
 ·exact h1
 ·intro j hj;change j<b.n0 at hj;rw[h2 _ (ff _ (by omega) (by omega)),h.row _ _ (pb hj)];rfl
 intro j hj;change j<b.n0 at hj;rw[h2 _ (ff _ (by omega) (by omega)),h.row _ _ (pc hj)];rfl
def cR.get (h:cR lab b H) {i:Nat} {x:Node} (hx:b.nodes[i]?=some x):(b.nodes.mapIdx (dN b.n0 lab))[i]?=some (dN b.n0 lab i x):=by
 rw[aeX,hx];rfl
end
end Go.Am
