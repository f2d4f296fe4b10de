import Derived.Test.YtfeijflhfhkbnaaGreatDoorKAc0S
import Derived.Test.YtfeijflhfhkbnaaGreatDoorKT21S
import Derived.Test.YtfeijflhfhkbnaaGreatDoorKP2S
import Derived.Laws.Externs
set_option linter.all false
/- THE ABSTRACT MACHINE, part 40: functions that are handed a row of data by a slice. -/
namespace Go.Am
open Go Go.RowKit
def eP (sz:Nat) (xs:List IV):Hp:=aS Hp.none (.par 0) (.live ⟨sz,ak xs⟩)
def nN (P:Program) (G:Nat->Option (List IV)) (f:Nat) (args:List AV) (sz:Nat) (xs:List IV) (R:AV->List IV->Prop):Prop:=
 (∀l∈ai args,l= .par 0)/\er P G f args (eP sz xs) λx H'=>∃zh,R x zh/\x.aq=[]/\zh.length=xs.length/\H' (.par 0)= .live ⟨sz,ak zh⟩
def ef {S:St} {f:Nat} {args bW:List AV} {sz:Nat} {xs:List IV} {R:AV->List IV->Prop} {H:Hp} {k:AV->Hp->Prop} {u:Tw k} {l:Lb} (h:nN S.P S.G f bW sz xs R)
  (ha:args=aA (iP l) bW) (hl:H l= .live ⟨sz,ak xs⟩) (hk:∀x zh,R x zh->x.aq=[]->zh.length=xs.length->k x (aS H l (.live ⟨sz,ak zh⟩))):Hm S f args H k u:=by
 obtain⟨h1,h3⟩:=h;have aT:∀q r,eP sz xs q= .live r->q= .par 0/\r=⟨sz,ak xs⟩:=by
  intro q r h;by_cases e:q= .par 0
  ·subst e;simp[eP] at h;exact⟨rfl,h.symm⟩
  exact So
 refine .inr<| .inr ⟨⟨iP l,eP sz xs,bW,_,h3.d_ (λq=>q= .par 0),ha,?_,?_,?_,?_,?_,?_,?_⟩⟩
 ·intro q r h;obtain⟨rfl,rfl⟩:=aT q r h;rw[aK];simp only[iP,agn,hl]
 ·exact aah
 ·exact We
 ·intro q hq;rw[h1 q hq];simp[eP]
 ·rintro q ⟨r,h⟩;rw[(aT q r h).1];rfl
 ·intro q r h c hc z hz;obtain⟨rfl,rfl⟩:=aT q r h;rw[bc hc] at hz;simp at hz
 rintro x H' ⟨H1,⟨zh,e1,e2,e4,e5⟩,rfl⟩;have hH:∀q r,dA (λq=>q= .par 0) H1 q= .live r->q= .par 0/\r=⟨sz,ak zh⟩:=by
  intro q r h;obtain⟨g1,rfl⟩:=cL.1 h;rw[e5] at g1;cases g1;exact⟨rfl,rfl⟩
 have rH:dA (λq=>q= .par 0) H1 (.par 0)= .live ⟨sz,ak zh⟩:=cL.2 ⟨e5,rfl⟩;refine⟨iP l,aS H l (.live ⟨sz,ak zh⟩),λ_ _ _=>rfl,?_,?_,?_,?_,?_,?_,?_,?_⟩
 ·intro q r h;by_cases e:q=l
  ·subst e;simp at h;refine .inr ⟨.par 0,_,rH,by simp[iP],?_⟩;rw[<-h,aK]
  exact aaj
 ·exact Wf
 ·intro q hq;by_cases e:q=l
  ·subst e;simp
  rw[an _ _ e];exact hq
 ·intro q hq;rw[e2] at hq;simp at hq
 ·intro q r h c hc z hz;obtain⟨rfl,rfl⟩:=hH q r h;rw[bc hc] at hz;simp at hz
 ·rintro q ⟨r,h⟩;obtain⟨rfl,rfl⟩:=hH q r h;exact .inl ⟨_,an7⟩
 ·rintro q (hq|⟨l1,r1,c,g1,g2,g3⟩) _
  ·rw[e2] at hq;simp at hq
  obtain⟨rfl,rfl⟩:=hH l1 r1 g1;rw[bc g2] at g3;simp at g3
 rw[oO _ _ e2];exact hk x zh e1 e2 e4
def mM {P:Program} {G:Nat->Option (List IV)} {f:Nat} {n:Nat} {rs:List RO} {ac:AC} {args:List AV} {sz:Nat} {xs:List IV} {R:AV->List IV->Prop}
  (hF:dK P G f=some (n,rs,ac.bare)) (hn:args.length<=n) (ha:∀l∈ai args,l= .par 0)
  (hg:go ⟨P,G,n⟩ (eZ rs λx H'=>∃zh,R x zh/\x.aq=[]/\zh.length=xs.length/\H' (.par 0)= .live ⟨sz,ak zh⟩) [.code ac] (fH args) (eP sz xs)):nN P G f args sz xs R:=by
 refine⟨ha,e_ hF hn ?_ ?_ hg⟩
 ·exact Wg
 intro l hl;rw[ha l hl];simp[eP]
def nN.mono {P:Program} {G:Nat->Option (List IV)} {f:Nat} {args:List AV} {sz:Nat} {xs:List IV} {R R':AV->List IV->Prop} (h:nN P G f args sz xs R) (hq:∀x c,R x c->R' x c):nN P G f args sz xs R':=
 ⟨h.1,h.2.mono λx H ⟨c,h1,h2⟩=>⟨c,hq _ _ h1,h2⟩⟩

def er.ab5 {P:Program} {G:Nat->Option (List IV)} {f:Nat} {args:List AV} {H:Hp} {Q:AV->Hp->Prop} (h:er P G f args H Q) (kp:AV->Lb->Prop) :
  er P G f args H λx H'=>∃H1,Q x H1/\H'=dA (kp x) H1:=by
 intro w A β vs hr hv;refine(h w A β vs hr hv).mono ?_;rintro e w' ⟨v,x,H1,β',rfl,hq,qf,hx,hm⟩;exact⟨v,x,dA (kp x) H1,β',rfl,⟨H1,hq,rfl⟩,qf.dA _,hx.dA _,λl hl=>by rw[Ne,gJ];exact hm l hl⟩
def qj (P:Program) (G:Nat->Option (List IV)) (sz f:Nat) (args:List AV) (xs ys:List IV):Prop:=
 (∀l∈ai args,l= .par 0)/\er P G f args (eP sz xs) λx H'=>∃L,x= .sl L sz 0 ys.length/\H' L= .live ⟨sz,ak ys⟩
def rZ {S:St} {f:Nat} {args bW:List AV} {sz:Nat} {xs ys:List IV} {H:Hp} {k:AV->Hp->Prop} {u:Tw k} {l N:Lb} (h:qj S.P S.G sz f bW xs ys)
  (ha:args=aA (iP l) bW) (hl:H l= .live ⟨sz,ak xs⟩) (hN:H N= .unused) (XZ:N.fresh=true->l.fresh=true)
  (P9:k (.sl N sz 0 ys.length) (aS (aS H l .dead) N (.live ⟨sz,ak ys⟩))) (EG:k (.sl l sz 0 ys.length) (aS (aS H l .dead) l (.live ⟨sz,ak ys⟩))):Hm S f args H k u:=by
 obtain⟨h1,h3⟩:=h;have aT:∀q r,eP sz xs q= .live r->q= .par 0/\r=⟨sz,ak xs⟩:=by
  intro q r h;by_cases e:q= .par 0
  ·subst e;simp[eP] at h;exact⟨rfl,h.symm⟩
  exact So
 have hHl:H l≠ .unused:=by rw[hl];simp
 have X3:N≠l:=by rintro rfl;exact hHl hN
 refine .inr<| .inr ⟨⟨iP l,eP sz xs,bW,_,h3.ab5 (λx q=>q∈x.aq),ha,?_,?_,?_,?_,?_,?_,?_⟩⟩
 ·intro q r h;obtain⟨rfl,rfl⟩:=aT q r h;rw[aK];simp only[iP,agn,hl]
 ·exact aah
 ·exact We
 ·intro q hq;rw[h1 q hq];simp[eP]
 ·rintro q ⟨r,h⟩;rw[(aT q r h).1];rfl
 ·intro q r h c hc z hz;obtain⟨rfl,rfl⟩:=aT q r h;rw[bc hc] at hz;simp at hz
 rintro x H' ⟨H1,⟨L,rfl,e5⟩,rfl⟩;obtain⟨L1,X4⟩:∃L1,L1=(if L= .par 0 then l else N):=⟨_,rfl⟩;have qD:∀q,q∈(AV.sl L sz 0 ys.length).aq↔q=L:=λq=>by simp[AV.aq]
 have hH:∀q r,dA (λq=>q∈(AV.sl L sz 0 ys.length).aq) H1 q= .live r->q=L/\r=⟨sz,ak ys⟩:=by
  intro q r h;obtain⟨g1,g2⟩:=cL.1 h;rw[qD] at g2;subst g2;rw[e5] at g1;cases g1;exact⟨rfl,rfl⟩
 have rH:dA (λq=>q∈(AV.sl L sz 0 ys.length).aq) H1 L= .live ⟨sz,ak ys⟩:=cL.2 ⟨e5,(qD L).2 rfl⟩;have hρ:(λq=>if q=L then L1 else q) L=L1:=ajL
 have u5:∀q,H q≠ .unused->aS (aS H l .dead) L1 (.live ⟨sz,ak ys⟩) q≠ .unused:=by
  intro q hq;by_cases e:q=L1
  ·subst e;simp
  rw[an _ _ e];by_cases e2:q=l
  ·subst e2;simp
  rw[an _ _ e2];exact hq
 refine⟨λq=>if q=L then L1 else q,aS (aS H l .dead) L1 (.live ⟨sz,ak ys⟩),?_,?_,?_,u5,?_,?_,?_,?_,?_⟩
 ·rintro q ⟨r,g1⟩ ⟨r',g2⟩;have e1:=(aT q r g1).1;have e2:=(hH q r' g2).1;subst e1;subst e2;simp only[agn,X4,iP]
 ·intro q r h;by_cases e:q=L1
  ·subst e;simp at h;refine .inr ⟨L,_,rH,ajL,?_⟩;rw[<-h,aK]
  rw[an _ _ e] at h;by_cases e2:q=l
  ·subst e2;simp at h
  rw[an _ _ e2] at h;refine .inl ⟨h,?_⟩;rintro z ⟨r',hz⟩;rw[(aT z r' hz).1];simp only[iP,agn];exact agQ e2
 ·exact Wf
 ·intro q hq;rw[qD] at hq;subst hq;simp
 ·intro q r h c hc z hz;obtain⟨rfl,rfl⟩:=hH q r h;rw[bc hc] at hz;simp at hz
 ·rintro q ⟨r,h⟩;obtain⟨rfl,rfl⟩:=hH q r h;by_cases e:q= .par 0
  ·subst e;exact .inl ⟨_,an7⟩
  right;simp only[agn,X4,af8 e];refine⟨hN,λhf=> .inr ?_⟩;rintro z ⟨r',hz⟩;rw[(aT z r' hz).1];simp only[iP,agn];exact XZ hf
 ·rintro q (hq|⟨l1,r1,c,g1,g2,g3⟩) _
  ·rw[qD] at hq;subst hq;exact⟨_,rH⟩
  obtain⟨rfl,rfl⟩:=hH l1 r1 g1;rw[bc g2] at g3;simp at g3
 simp only[aH,agn];rw[X4];split
 ·exact EG
 exact P9
def vB {S:St} {F:List Lb} {sz f:Nat} {args bW:List AV} {xs ys:List IV} {H:Hp} {k:AV->Hp->Prop} {u:Tw k} {l N:Lb} (h:qj S.P S.G sz f bW xs ys)
  (ha:args=aA (iP l) bW) (hl:H l= .live ⟨sz,ak xs⟩) (hN:H N= .unused) (XZ:N.fresh=true->l.fresh=true) (h1:l.ix∉F) (h2:N.ix∉F)
  (P9:k (.sl N sz 0 ys.length) (aS (aS H l .dead) N (.live ⟨sz,ak ys⟩))) (EG:k (.sl l sz 0 ys.length) (aS (aS H l .dead) l (.live ⟨sz,ak ys⟩))):OX S F f args H k u:=by
 refine⟨λx H'=>(x= .sl N sz 0 ys.length/\H'=aS (aS H l .dead) N (.live ⟨sz,ak ys⟩))\/(x= .sl l sz 0 ys.length/\H'=aS (aS H l .dead) l (.live ⟨sz,ak ys⟩)),?_,⟨_,_,.inl ⟨rfl,rfl⟩⟩,?_⟩
 ·exact rZ (k:=λx H'=>(x= .sl N sz 0 ys.length/\H'=aS (aS H l .dead) N (.live ⟨sz,ak ys⟩))\/(x= .sl l sz 0 ys.length/\H'=aS (aS H l .dead) l (.live ⟨sz,ak ys⟩))) (u:= .mk) h ha hl hN XZ (.inl ⟨rfl,rfl⟩) (.inr ⟨rfl,rfl⟩)
 have key:∀q:Lb,q.ix∈F->q≠l/\q≠N:=λq hq=>⟨λe=>h1 (e▸hq),λe=>h2 (e▸hq)⟩;rintro x H' (⟨rfl,rfl⟩|⟨rfl,rfl⟩)
 ·refine⟨λq hq=> ?_,P9⟩;obtain⟨e1,e2⟩:=key q hq;rw[an _ _ e2,an _ _ e1]
 refine⟨λq hq=> ?_,EG⟩;obtain⟨e1,e2⟩:=key q hq;rw[an _ _ e1,an _ _ e1]
open Classical in
def F2 {P:Program} {G:Nat→Option (List IV)} {sz f:Nat} {args:List AV} {ys:List IV} (h:qj P G sz f (.sl (.par 0) sz 0 0::args) [] ys) (h0:0<sz) (ha:ai args=[]) (hf:Flat ys) :
   aj P G f (.nil0::args) (.list ys):=by
 refine⟨by simpa[ai,AV.aq] using ha,by simp[AV.aq],?_⟩
 obtain⟨_,h3⟩:=h
 intro w A β vs hr hv
 have aT:∀q r,eP sz [] q= .live r→q= .par 0∧r=⟨sz,[]⟩:=by
   intro q r h
   by_cases e:q= .par 0
   · subst e;simp[eP,ak] at h;exact⟨rfl,h.symm⟩
   exact So
 obtain⟨β1,aei⟩:∃β1:Lb→Option Nat,β1=aS β (.par 0) none:=⟨_,rfl⟩
 have MA:β1 (.par 0)=none:=by rw[aei];simp
 have ab6:∀k,¬JV β1 (eP sz []) k:=by
   rintro k ⟨l,⟨r,h⟩,hb⟩
   rw[(aT l r h).1,MA] at hb;cases hb
 have hIm:∀k,Im (cH P G w A β Hp.none) β Hp.none k→Im (cH P G w A β1 (eP sz [])) β1 (eP sz []) k:=fun k hk=>⟨hk.1,fun l ⟨r,hl⟩ hb=>by
   rw[(aT l r hl).1,MA] at hb;cases hb⟩
 have kp:∀ls:List Lb,(∀l∈ls,l≠ .par 0)→ic w w β β1 Hp.none (eP sz []) (Im (cH P G w A β Hp.none) β Hp.none) (Im (cH P G w A β1 (eP sz [])) β1 (eP sz [])) ls:=fun ls pf=>
   { im := fun k hk hs => ⟨hIm k hk,hs,rfl⟩
     lb:=fun l hl ⟨r,zn⟩=>absurd (aT l r zn).1 (pf l hl)}
 have od:aO (cH P G w A β1 (eP sz [])) β1 Env.any (eP sz []) sO w:=
   { defers := rfl,size := rfl
     jc:=fun n=>by simp[Env.any,RV]
     rows:=fun l r h=>by
       obtain⟨rfl,rfl⟩:=aT l r h
       exact⟨h0,by simp,by rw[MA]⟩
     own:=fun l g ⟨r,h⟩ hb=>by rw[(aT l r h).1,MA] at hb;cases hb
     inj:=fun l l' g ⟨r,h⟩ _ hb=>by rw[(aT l r h).1,MA] at hb;cases hb
     iq:=fun n=>by simp[Env.any,AV.aq]
     cB:=fun l r h=>by
       obtain⟨rfl,rfl⟩:=aT l r h
       simp
     frame:=⟨rfl,rfl,rfl,Nat.le_refl _,fun _ _ _=>rfl,fun _ _ h=>h⟩
     jv:=fun l hl=>⟨by obtain⟨r,h⟩:=hl;simp only[cH] at h;simp[h],fun _=>rfl⟩
     fr:=fun l g ⟨r,h⟩ _ hb=>by rw[(aT l r h).1,MA] at hb;cases hb
     iO:=fun g cs hg=>by
       obtain⟨k1,k2,k3⟩:=hr.iO g cs hg
       exact⟨hIm g k1,k2,dD.mono (kp [] (by simp)).tojt k1 k2 k3⟩}
 have HQ:bA w β1 (eP sz []) (Im (cH P G w A β1 (eP sz [])) β1 (eP sz [])) (.sl (.par 0) sz 0 0::args) vs:=by
   simp only[bA] at hv ⊢
   obtain⟨v,us,h1,h2,h4⟩:=hv
   refine⟨v,us,h1,?_,bA.mono _ _ (kp _ (by rw[ha];simp)) h4⟩
   simp only[RV] at h2 ⊢
   obtain⟨ad,rfl⟩:=h2
   exact⟨ad,0,rfl,Nat.le_refl _,by simp[maxLen],by simp,fun _=> .inl rfl⟩
 refine(h3 w A β1 vs od HQ).mono ?_
 rintro e w' ⟨v,x,H1,β',rfl,⟨L,rfl,hL⟩,pt,hx,_⟩
 have gw:oB w w':=⟨pt.frame.os,pt.frame.tape,pt.frame.output,pt.frame.size,fun k hk=>pt.frame.block k hk (ab6 k)⟩
 refine⟨v,_,Hp.none,β,rfl,rfl,?_,?_,by simp[AV.aq]⟩
 · exact { defers := rfl,size := rfl
           jc:=fun n=>by simp[Env.any,RV]
           rows:=fun l r h=>by simp[Hp.none] at h
           own:=fun l g ⟨r,h⟩=>by simp[Hp.none] at h
           inj:=fun l l' g ⟨r,h⟩=>by simp[Hp.none] at h
           iq:=fun n=>by simp[Env.any,AV.aq]
           cB:=fun l r h=>by simp[Hp.none] at h
           frame:=⟨gw.os,gw.tape,gw.output,gw.size,fun k hk _=>gw.block k hk,fun k S hS=>pt.frame.bs k S hS⟩
           jv:=fun l ⟨r,h⟩=>by simp[cH,Hp.none] at h
           fr:=fun l g ⟨r,h⟩=>by simp[Hp.none] at h
           iO:=fun g cs hg=>by
             obtain⟨k1,k2,k3⟩:=hr.iO g cs hg
             exact⟨k1,Nat.lt_of_lt_of_le k2 gw.size,dD.mono (gw.BV β Hp.none _ []).tojt k1 k2 k3⟩}
 have j9:0<sz:=h0
 have hk:jt w' w' (Im (cH P G w A β1 (eP sz [])) β' H1) (Im (cH P G w A β Hp.none) β Hp.none):=⟨fun k hk hs=>⟨⟨hk.1,fun l ⟨r,hl⟩=>by simp[Hp.none] at hl⟩,hs,rfl⟩⟩
 simp only[RV] at hx
 obtain⟨ad,c,rfl,g2,g3,g4,g5⟩:=hx
 simp only[RV,iM]
 refine⟨ad,c,rfl,g2,g3,?_⟩
 by_cases hn:ys.length=0
 · exact .inl hn
 right
 rcases g5 ⟨_,hL⟩ with h6|⟨g,Sz,e1,e2,e3,e4⟩
 · omega
 obtain⟨cur,e0,cap,k1,k2,k3,k4,k5⟩:=(pt.rows L _ hL).block e1
 have hg:w.heap.size≤g:=(pt.own L g ⟨_,hL⟩ e1).resolve_left (ab6 g)
 refine⟨g,0*sz,sz,e2,⟨.inr hg,fun l ⟨r,hl⟩=>by simp[Hp.none] at hl⟩,(Array.getElem?_eq_some_iff.1 k1).1,j9,mB _ _ _ (fun k y hy=> ?_)⟩
 rw[hQ]
 have yA:y.cells.length=sz:=by
   have:=(pt.rows L _ hL).2.1 (y.cells.map IV.dw) (by
     simp only[ak]
     exact List.mem_map_of_mem (f:=fun y:IV=>y.cells.map IV.dw) (List.mem_of_getElem? hy))
   simpa using this
 refine⟨yA.symm,kI _ _ _ (fun j z hz=> ?_)⟩
 obtain⟨u,q1,q2⟩:=k5 k j (y.cells.map IV.dw) z.dw (by simp[ak,hy]) (by simp[hz])
 refine⟨u,?_,zg hk (hf y (List.mem_of_getElem? hy) z (List.mem_of_getElem? hz)) q2⟩
 rw[cell_of_row w' g _ cur e0 (0,0) k1,←q1]
 congr 1
 change 0*sz+k*sz+j=k*sz+j
 omega
def CA {P:Program} {G:Nat->Option (List IV)} {f:Nat} {n:Nat} {rs:List RO} {ac:AC} {args:List AV} {sz:Nat} {xs ys:List IV}
  (hF:dK P G f=some (n,rs,ac.bare)) (hn:args.length<=n) (ha:∀l∈ai args,l= .par 0)
  (hg:go ⟨P,G,n⟩ (eZ rs λx H'=>∃L,x= .sl L sz 0 ys.length/\H' L= .live ⟨sz,ak ys⟩) [.code ac] (fH args) (eP sz xs)):qj P G sz f args xs ys:=by
 refine⟨ha,e_ hF hn ?_ ?_ hg⟩
 ·exact Wg
 intro l hl;rw[ha l hl];simp[eP]
end Go.Am

namespace Go.Am
open Go Go.RowKit
structure WE (ls:List Lb) (u:Lb->Bool) (ps:List (Nat×AV)) (rs:List (Lb×Row)) (env:Env) (H:Hp) (m:List (Lb×Lb)):Prop where
 nf:∀l:Lb,l.entry=true->H l≠ .unused->l∈ls\/u l=true
 e:dp (aD m) env ps
 r:eL (aD m) H rs
 inj:(ls.map (aD m)).Nodup
 fr:∀l∈ls,(l.fresh=true->(aD m l).fresh=true)/\(l.entry=true->aD m l=l)
def WE.wk {ls:List Lb} {u:Lb->Bool} {ps:List (Nat×AV)} {rs:List (Lb×Row)} {env:Env} {H:Hp} {m:List (Lb×Lb)} (h:WE ls u ps rs env H m) (pf:rs.map Prod.fst=ls) (hp:∀l∈ai (ps.map Prod.snd),l∈ls)
  (hr:∀q∈rs,∀cs∈q.2.els,∀l∈ai cs,l∈ls):Wk (aD m) env H (iX ps) (cU u rs):=by
 have zn:∀l,live (cU u rs) l->l∈ls:=λl ⟨r,h⟩=>by rw[<-pf];exact agp.2 ⟨_,fQ (bg.1 h),rfl⟩
 refine⟨h.e.we,λl r hl=>yH h.r (fQ (bg.1 hl)),λl l' h1 h2 e=>jy h.inj l (zn l h1) l' (zn l' h2) e,tn λl hl=>lJ (.inl (by rw[pf];exact hp l hl)),λl r hl cs aZ q hq=> ?_,
  λl hf=>⟨λhu=> ?_,λhl=>(h.fr l (zn l hl)).2 hf⟩,λl hl hf=>(h.fr l (zn l hl)).1 hf⟩
 ·exact lJ (.inl al3)
 exact lJ (by rw[pf];exact h.nf l hf hu)
def fi {σ:Type} {S:St} {Q:ir} {c:AC} {k:List It} {env:Env} {H:Hp} (ls:σ->List Lb) (u:σ->Lb->Bool) (ps:σ->List (Nat×AV)) (rs:σ->List (Lb×Row)) (μ:σ->Nat) (s0:σ)
  (pf:∀s,(rs s).map Prod.fst=ls s) (hp:∀s,∀l∈ai ((ps s).map Prod.snd),l∈ls s) (hr:∀s,∀q∈rs s,∀cs∈q.2.els,∀l∈ai cs,l∈ls s) (h0:∃m,WE (ls s0) (u s0) (ps s0) (rs s0) env H m)
  (round:∀s,go S (qG S Q k (λenv H s=>∃m,WE (ls s) (u s) (ps s) (rs s) env H m) μ (μ s)) [.code c] (iX (ps s)) (cU (u s) (rs s))):oL S Q c k env H:=
 oN (λs=>iX (ps s)) (λs=>cU (u s) (rs s)) _ (λ_ _ s ⟨m,h⟩=>⟨_,h.wk (pf s) (hp s) (hr s)⟩) μ s0 h0 round

structure n6 where
 row:(Nat->Lb)->Nat->Option Row
 nat:∀(lab:Nat->Lb) (ρ:Lb->Lb) (p:Nat),row (λi=>ρ (lab i)) p=(row lab p).map (aP ρ)
 aq:∀(lab:Nat->Lb) (p:Nat) (r:Row),row lab p=some r->∀cs∈r.els,∀q∈ai cs,∃p',(row lab p').isSome=true/\q=lab p'
def n6.ok (R:n6) (p:Nat):Prop:=(R.row Lb.par p).isSome=true
def n6.jM (R:n6) (lab:Nat->Lb) (p:Nat):(R.row lab p).isSome=true↔R.ok p:=by
 have h:=R.nat Lb.par (λq=>match q with| .par i=>lab i|q=>q) p;simp only at h;unfold n6.ok;rw[show R.row lab p=_ from h];simp
structure ko (lab:Nat->Lb) (R:n6) (H:Hp):Prop where
 row:∀p r,R.row lab p=some r->H (lab p)= .live r
 inj:∀p q,R.ok p->R.ok q->lab p=lab q->p=q
def ko.live {lab:Nat->Lb} {R:n6} {H:Hp} (h:ko lab R H) {p:Nat} (hp:R.ok p):Am.live H (lab p):=by
 obtain⟨r,hr⟩:=ahS.1 ((R.jM lab p).2 hp);exact⟨r,h.row p r hr⟩
open Classical in
noncomputable def Ar (lab:Nat→Lb) (R:n6) (H:Hp):Hp:=fun q=>
 if h:∃p,R.ok p∧lab p=q then(match R.row lab (Classical.choose h) with|some r=> .live r|none=> .dead) else H q
def Qb {lab:Nat->Lb} {R:n6} (hi:∀p q,R.ok p->R.ok q->lab p=lab q->p=q) (H:Hp) {p:Nat} {r:Row} (hp:R.row lab p=some r):Ar lab R H (lab p)= .live r:=by
 have kn:R.ok p:=(R.jM lab p).1 (by rw[hp];rfl);have h:∃p',R.ok p'/\lab p'=lab p:=⟨p,kn,rfl⟩;have hc:=ajs h;have e:Classical.choose h=p:=hi _ _ hc.1 kn hc.2;unfold Ar;rw[ajI h,e,hp]
def gx {lab:Nat->Lb} {R:n6} (H:Hp) {q:Lb} (h:∀p,R.ok p->lab p≠q):Ar lab R H q=H q:=by
 unfold Ar;rw[dif_neg am5]
def qZ {lab:Nat->Lb} {R:n6} (hi:∀p q,R.ok p->R.ok q->lab p=lab q->p=q) {H:Hp} {q:Lb} {r:Row} (h:Ar lab R H q= .live r) :
  (∃p,R.ok p/\lab p=q/\R.row lab p=some r)\/((∀p,R.ok p->lab p≠q)/\H q= .live r):=by
 by_cases e:∃p,R.ok p/\lab p=q
 ·obtain⟨p,h1,rfl⟩:=e;obtain⟨r',hr⟩:=ahS.1 ((R.jM lab p).2 h1);rw[Qb hi H hr] at h;cases h;exact .inl ⟨p,h1,rfl,hr⟩
 have e':∀p,R.ok p->lab p≠q:=λp h1 h2=>e ⟨p,h1,h2⟩;rw[gx H e'] at h;exact .inr ⟨e',h⟩
def ko.oi {lab:Nat->Lb} {R:n6} (hi:∀p q,R.ok p->R.ok q->lab p=lab q->p=q) (H:Hp):ko lab R (Ar lab R H):=⟨λ_ _ hp=>Qb hi H hp,hi⟩
def KE:∀p q:Nat,Lb.par p=Lb.par q->p=q:=λp q h=>by cases h;rfl
noncomputable def n7 (R:n6):Hp:=Ar Lb.par R Hp.none
def mb (R:n6):ko Lb.par R (n7 R):= .oi (λp q _ _ h=>KE p q h) _
def nk {R:n6} {q:Lb} {r:Row} (h:n7 R q= .live r):∃p,R.ok p/\Lb.par p=q/\R.row Lb.par p=some r:=by
 rcases qZ (λp q _ _ h=>KE p q h) h with h|⟨_,h⟩
 ·exact h
 simp[Hp.none] at h
def Qc {R:n6} {q:Lb} (h:n7 R q≠ .unused):∃p,R.ok p/\q= .par p:=by
 by_cases e:∃p,R.ok p/\Lb.par p=q
 ·obtain⟨p,h1,h2⟩:=e;exact⟨p,h1,h2.symm⟩
 refine absurd ?_ h;unfold n7;rw[gx Hp.none λp h1 h2=>e ⟨p,h1,h2⟩];rfl
def er.ab7 {T:Type} {P:Program} {G:Nat->Option (List IV)} {f:Nat} {args:List AV} {H:Hp} {Q:T->AV->Hp->Prop} (h:er P G f args H λx H'=>∃t,Q t x H') (kp:T->Lb->Prop) :
  er P G f args H λx H'=>∃t H1,Q t x H1/\H'=dA (kp t) H1:=by
 intro w A β vs hr hv;refine(h w A β vs hr hv).mono ?_;rintro e w' ⟨v,x,H1,β',rfl,⟨t,hq⟩,qf,hx,hm⟩;exact⟨v,x,dA (kp t) H1,β',rfl,⟨t,H1,hq,rfl⟩,qf.dA _,hx.dA _,λl hl=>by rw[Ne,gJ];exact hm l hl⟩
def r_ (P:Program) (G:Nat->Option (List IV)) (f:Nat) (args:List AV) (R:n6) (fx:List Nat) (Q:((Nat->Lb)->AV)->n6->Prop):Prop:=
 (∀l∈ai args,∃p,R.ok p/\l= .par p)/\er P G f args (n7 R) λx H'=>∃t:((Nat->Lb)->AV)×n6×(Nat->Lb),
  Q t.1 t.2.1/\(∀ρ,aH ρ (t.1 t.2.2)=t.1 λi=>ρ (t.2.2 i))/\(∀l∈x.aq,∃p,t.2.1.ok p/\l=t.2.2 p)/\x=t.1 t.2.2/\ko t.2.2 t.2.1 H'/\∀p∈fx,t.2.2 p= .par p
def As (lab:Nat->Lb):Lb->Lb:=λq=>match q with
 | .par i=>lab i
 |q=>q
open Classical in
def gZ {S:St} {f:Nat} {args bW:List AV} {R:n6} {fx:List Nat} {Q:((Nat→Lb)→AV)→n6→Prop} {H:Hp} {k:AV→Hp→Prop} {u:Tw k} {lab:Nat→Lb} (N:Lb→Lb) (h:r_ S.P S.G f bW R fx Q)
  (ha:args=aA (As lab) bW) (hl:ko lab R H) (hN:∀l,H (N l)= .unused) (hNi:∀l l',N l=N l'→l=l') (XZ:∀l,(N l).fresh=true→l.fresh=true∨∀p,R.ok p→(lab p).fresh=true) (hfx:∀p∈fx,R.ok p)
  (hk:∀X R2 cm H2,Q X R2→ko cm R2 H2→(∀p∈fx,cm p=lab p)→(∀p,R2.ok p→(∃p0,R.ok p0∧cm p=lab p0)∨∃l,cm p=N l) →
   (∀q,(∀p,R.ok p→q≠lab p)→(∀l,q≠N l)→H2 q=H q)→(∀q,H q≠ .unused→H2 q≠ .unused)→(∀l,(∀p,R2.ok p→cm p≠N l)→H2 (N l)= .unused)→k (X cm) H2):Hm S f args H k u:=by
 obtain⟨h1,h3⟩:=h;refine .inr<| .inr ⟨⟨As lab,n7 R,bW,_,h3.ab7 (fun t q=>∃p,t.2.1.ok p∧t.2.2 p=q),ha,?_,?_,?_,?_,?_,?_,?_⟩⟩
 ·intro q r hq;obtain⟨p,h4,rfl,h5⟩:=nk hq;refine hl.row p _ ?_;have:=R.nat Lb.par (As lab) p;simp only[As] at this;rw[show R.row lab p=_ from this,h5];rfl
 ·intro q hq;obtain⟨p,h4,rfl⟩:=Qc hq;exact(mb R).live h4
 ·rintro q q' ⟨r,hq⟩ ⟨r',xu⟩ e;obtain⟨p,h4,rfl,_⟩:=nk hq;obtain⟨p',WJ,rfl,_⟩:=nk xu;rw[hl.inj p p' h4 WJ e]
 ·intro q hq;obtain⟨p,h4,rfl⟩:=h1 q hq;obtain⟨r,hr⟩:=(mb R).live h4;rw[hr];simp
 ·rintro q ⟨r,hq⟩;obtain⟨p,_,rfl,_⟩:=nk hq;rfl
 ·intro q r hq cs aZ z hz;obtain⟨p,h4,rfl,h5⟩:=nk hq;obtain⟨p',h6,rfl⟩:=R.aq Lb.par p r h5 cs aZ z hz;obtain⟨r',hr⟩:=(mb R).live ((R.jM _ _).1 h6);rw[hr];simp
 rintro x H' ⟨⟨X,R2,bf⟩,H1,⟨e1,e2,e3,rfl,e5,e6⟩,rfl⟩;simp only at e1 e2 e3 e5 e6 ⊢;have hH:∀q,Am.live (dA (fun q=>∃p,R2.ok p∧bf p=q) H1) q→∃p,R2.ok p∧bf p=q:=by
  rintro q ⟨r,hq⟩;exact(cL.1 hq).2
 have rH:∀p r,R2.row bf p=some r→dA (fun q=>∃p,R2.ok p∧bf p=q) H1 (bf p)= .live r:=fun p r hp=>
  cL.2 ⟨e5.row p r hp,p,(R2.jM bf p).1 (by rw[hp];rfl),rfl⟩
 obtain⟨ρ',hρ⟩:∃ρ':Lb→Lb,ρ'=fun q=>if Am.live (n7 R) q then As lab q else N q:=⟨_,rfl⟩;have qe:∀q,Am.live (n7 R) q→∃p,R.ok p∧q= .par p:=by
  rintro q ⟨r,hq⟩;obtain⟨p,h4,rfl,_⟩:=nk hq;exact⟨p,h4,rfl⟩
 have Qd:∀p,R.ok p→ρ' (.par p)=lab p:=fun p hp=>by rw[hρ];simp only[(mb R).live hp,if_true,As]
 have sa:∀q,(∃p,R.ok p∧q= .par p∧ρ' q=lab p)∨(¬Am.live (n7 R) q∧ρ' q=N q):=by
  intro q;by_cases e:Am.live (n7 R) q
  ·obtain⟨p,h4,rfl⟩:=qe q e;exact .inl ⟨p,h4,rfl,Qd p h4⟩
  exact .inr ⟨e,by rw[hρ];simp only[e,if_false]⟩
 have X3:∀l p,R.ok p→N l≠lab p:=fun l p hp e=>by
  obtain⟨r,hr⟩:=hl.live hp;have:=hN l;rw[e,hr] at this;cases this
 have ab8:∀q q',ρ' q=ρ' q'→q=q':=by
  intro q q' e;rcases sa q with⟨p,g1,rfl,g2⟩|⟨g1,g2⟩
  ·rcases sa q' with⟨p',g1',rfl,Yx⟩|⟨g1',Yx⟩
   ·rw[g2,Yx] at e;rw[hl.inj p p' g1 g1' e]
   rw[g2,Yx] at e;exact absurd e.symm (X3 _ p g1)
  rcases sa q' with⟨p',g1',rfl,Yx⟩|⟨g1',Yx⟩
  ·rw[g2,Yx] at e;exact absurd e (X3 _ p' g1')
  rw[g2,Yx] at e;exact hNi _ _ e
 obtain⟨cm,qb⟩:∃cm:Nat→Lb,cm=fun i=>ρ' (bf i):=⟨_,rfl⟩;have KF:∀p q,R2.ok p→R2.ok q→cm p=cm q→p=q:=fun p q hp hq e=>by
  rw[qb] at e;exact e5.inj p q hp hq (ab8 _ _ e)
 obtain⟨Hd,hHd⟩:∃Hd:Hp,Hd=fun q=>if ∃p,R.ok p∧lab p=q then Slot.dead else H q:=⟨_,rfl⟩;have aej:∀l,Hd (N l)= .unused:=fun l=>by
  rw[hHd];simp only;rw[if_neg (by rintro⟨p,g1,g2⟩;exact X3 l p g1 g2.symm)];exact hN l
 have ab9:∀p r,R2.row bf p=some r→R2.row cm p=some (aP ρ' r):=fun p r hp=>by
  rw[qb,R2.nat bf ρ' p,hp];rfl
 have u5:∀q,Hd q≠ .unused→Ar cm R2 Hd q≠ .unused:=by
  intro q hq;by_cases e:∃p,R2.ok p∧cm p=q
  ·obtain⟨p,g1,rfl⟩:=e;obtain⟨r,hr⟩:=(ko.oi KF Hd).live g1;rw[hr];simp
  rw[gx Hd fun p g1 g2=>e ⟨p,g1,g2⟩];exact hq
 have VN:∀q,H q≠ .unused→Hd q≠ .unused:=by
  intro q hq;rw[hHd];simp only;split
  ·simp
  exact hq
 have VO:∀p,R2.ok p→Ar cm R2 Hd (cm p)≠ .unused:=fun p hp=>by
  obtain⟨r,hr⟩:=(ko.oi KF Hd).live hp;rw[hr];simp
 refine⟨ρ',Ar cm R2 Hd,?_,?_,?_,fun q hq=>u5 q (VN q hq),?_,?_,?_,?_,?_⟩
 ·intro q g1 g2;obtain⟨p,h4,rfl⟩:=qe q g1;rw[Qd p h4];rfl
 ·intro q r hq;rcases qZ KF hq with⟨p,g1,rfl,g2⟩|⟨g1,g2⟩
  ·right;obtain⟨r0,qp⟩:=Option.isSome_iff_exists.1 ((R2.jM bf p).2 g1);have:=ab9 p r0 qp;rw[g2] at this;simp only[Option.some.injEq] at this;exact⟨bf p,r0,rH p r0 qp,by rw[qb],this⟩
  left;rw[hHd] at g2;simp only at g2;split at g2
  ·cases g2
  rename_i oe;refine⟨g2,fun l zn e=> ?_⟩;obtain⟨p,h4,rfl⟩:=qe l zn;exact oe ⟨p,h4,e⟩
 ·intro q q' _ _ e;exact ab8 _ _ e
 ·intro q hq;obtain⟨p,g1,rfl⟩:=e3 q hq;have:=VO p g1;rw[qb] at this;rw[qb];exact this
 ·intro q r hq cs aZ z hz;obtain⟨g0,p,g1,rfl⟩:=cL.1 hq;obtain⟨r0,qp⟩:=Option.isSome_iff_exists.1 ((R2.jM bf p).2 g1);have:=e5.row p r0 qp;rw[g0] at this;cases this;obtain⟨p',h6,rfl⟩:=R2.aq bf p _ qp cs aZ z hz;have:=VO p' ((R2.jM bf p').1 h6);rw[qb] at this;rw[qb];exact this
 ·intro q hq;obtain⟨p,g1,rfl⟩:=hH q hq;rcases sa (bf p) with⟨p',g2,g3,g4⟩|⟨g2,g3⟩
  ·left;rw[g3];exact(mb R).live g2
  right;rw[g3];refine⟨hN _,fun hf=> ?_⟩;rcases XZ _ hf with hf|hf
  ·exact .inl hf
  right;intro z hz;obtain⟨p',h4,rfl⟩:=qe z hz;exact hf p' h4
 ·rintro q hq _;have key:∃p,R2.ok p∧bf p=q:=by
   rcases hq with hq|⟨l1,r1,cs,g1,g2,g3⟩
   ·obtain⟨p,g1,rfl⟩:=e3 q hq;exact⟨p,g1,rfl⟩
   obtain⟨g0,p,g4,rfl⟩:=cL.1 g1;obtain⟨r0,qp⟩:=Option.isSome_iff_exists.1 ((R2.jM bf p).2 g4);have:=e5.row p r0 qp;rw[g0] at this;cases this;obtain⟨p',h6,rfl⟩:=R2.aq bf p _ qp cs g2 q g3;exact⟨p',(R2.jM bf p').1 h6,rfl⟩
  obtain⟨p,g1,rfl⟩:=key;obtain⟨r0,qp⟩:=Option.isSome_iff_exists.1 ((R2.jM bf p).2 g1);exact⟨r0,rH p r0 qp⟩
 rw[e2 ρ'];have:=hk X R2 cm (Ar cm R2 Hd) e1 (.oi KF Hd) ?_ ?_ ?_ (fun q hq=>u5 q (VN q hq)) ?_
 ·rw[qb] at this;rw[qb];exact this
 ·intro p hp;rw[qb];simp only;rw[e6 p hp];exact Qd p (hfx p hp)
 ·intro p hp;rw[qb];simp only;rcases sa (bf p) with⟨p',g2,g3,g4⟩|⟨g2,g3⟩
  ·exact .inl ⟨p',g2,g4⟩
  exact .inr ⟨_,g3⟩
 ·intro q g1 g2;rw[gx Hd,hHd]
  ·simp only;rw[if_neg (by rintro⟨p,g3,g4⟩;exact g1 p g3 g4.symm)]
  intro p hp e;rw[qb] at e;simp only at e;rcases sa (bf p) with⟨p',g3,g4,g5⟩|⟨g3,g4⟩
  ·exact g1 p' g3 (e.symm.trans g5)
  exact g2 _ (e.symm.trans g4)
 intro l oe;rw[gx Hd oe];exact aej l
def ez {P:Program} {G:Nat->Option (List IV)} {f:Nat} {n:Nat} {rs:List RO} {ac:AC} {args:List AV} {R:n6} {fx:List Nat} {Q:((Nat->Lb)->AV)->n6->Prop}
  (hF:dK P G f=some (n,rs,ac.bare)) (hn:args.length<=n) (ha:∀l∈ai args,∃p,R.ok p/\l= .par p)
  (hg:go ⟨P,G,n⟩ (eZ rs λx H'=>∃t:((Nat->Lb)->AV)×n6×(Nat->Lb),
   Q t.1 t.2.1/\(∀ρ,aH ρ (t.1 t.2.2)=t.1 λi=>ρ (t.2.2 i))/\(∀l∈x.aq,∃p,t.2.1.ok p/\l=t.2.2 p)/\x=t.1 t.2.2/\ko t.2.2 t.2.1 H'/\∀p∈fx,t.2.2 p= .par p) [.code ac] (fH args) (n7 R)):r_ P G f args R fx Q:=by
 refine⟨ha,e_ hF hn ?_ ?_ hg⟩
 ·rintro l ⟨r,h⟩;obtain⟨p,_,rfl,_⟩:=nk h;rfl
 intro l hl;obtain⟨p,h4,rfl⟩:=ha l hl;obtain⟨r,hr⟩:=(mb R).live h4;rw[hr];simp
def r_.mono {P:Program} {G:Nat->Option (List IV)} {f:Nat} {args:List AV} {R:n6} {fx:List Nat} {Q Q':((Nat->Lb)->AV)->n6->Prop} (h:r_ P G f args R fx Q) (hq:∀X R,Q X R->Q' X R):r_ P G f args R fx Q':=
 ⟨h.1,h.2.mono λx H ⟨t,h1,h2⟩=>⟨t,hq _ _ h1,h2⟩⟩
end Go.Am

namespace Go.Am
open Go Go.RowKit
open Classical in
noncomputable def kg (labC lab:Nat→Lb) (R:n6) (m:List (Lb×Lb)):Lb→Lb:=fun q=>
 if h:∃p,R.ok p∧labC p=q then lab (Classical.choose h) else aD m q
def gg {labC lab:Nat->Lb} {R:n6} {m:List (Lb×Lb)} (hi:∀p q,R.ok p->R.ok q->labC p=labC q->p=q) {p:Nat} (hp:R.ok p):kg labC lab R m (labC p)=lab p:=by
 have h:∃p',R.ok p'/\labC p'=labC p:=⟨p,hp,rfl⟩;have hc:=ajs h;unfold kg;rw[ajI h,hi _ _ hc.1 hp hc.2]
def fV {labC lab:Nat->Lb} {R:n6} {m:List (Lb×Lb)} {q:Lb} (h:∀p,R.ok p->labC p≠q):kg labC lab R m q=aD m q:=by
 unfold kg;rw[dif_neg am5]
structure WH (labC:Nat->Lb) (R:n6) (ls:List Lb) (u:Lb->Bool) (ps:List (Nat×AV)) (rs:List (Lb×Row)) (env:Env) (H:Hp) (lab:Nat->Lb) (m:List (Lb×Lb)):Prop where
 at':ko lab R H
 nf:∀l:Lb,l.entry=true->H l≠ .unused->(∃p,R.ok p/\labC p=l)\/l∈ls\/u l=true
 e:dp (kg labC lab R m) env ps
 r:∀q∈rs,H (aD m q.1)= .live (aP (kg labC lab R m) q.2)
 inj:(ls.map (aD m)).Nodup
 ap:∀l∈ls,∀p,R.ok p->lab p≠aD m l
 fr:∀l∈ls,(l.fresh=true->(aD m l).fresh=true)/\(l.entry=true->aD m l=l)
 fp:∀p,R.ok p->((labC p).fresh=true->(lab p).fresh=true)/\((labC p).entry=true->lab p=labC p)
def WH.wk {labC:Nat->Lb} {R:n6} {ls:List Lb} {u:Lb->Bool} {ps:List (Nat×AV)} {rs:List (Lb×Row)} {env:Env} {H:Hp} {lab:Nat->Lb} {m:List (Lb×Lb)} (h:WH labC R ls u ps rs env H lab m)
  (hi:∀p q,R.ok p->R.ok q->labC p=labC q->p=q) (pf:rs.map Prod.fst=ls) (hC:∀l∈ls,∀p,R.ok p->labC p≠l) (hp:∀l∈ai (ps.map Prod.snd),l∈ls\/∃p,R.ok p/\labC p=l)
  (hr:∀q∈rs,∀cs∈q.2.els,∀l∈ai cs,l∈ls\/∃p,R.ok p/\labC p=l):Wk (kg labC lab R m) env H (iX ps) (Ar labC R (cU u rs)):=by
 have zn:∀l,live (Ar labC R (cU u rs)) l->(∃p,R.ok p/\labC p=l)\/((∀p,R.ok p->labC p≠l)/\l∈ls):=by
  rintro l ⟨r,hl⟩;rcases qZ hi hl with⟨p,h1,h2,_⟩|⟨h1,h2⟩
  ·exact .inl ⟨p,h1,h2⟩
  exact .inr ⟨h1,by rw[<-pf];exact agp.2 ⟨_,fQ (bg.1 h2),rfl⟩⟩
 have hus:∀l,(l∈ls\/∃p,R.ok p/\labC p=l)->Ar labC R (cU u rs) l≠ .unused:=by
  intro l hl;by_cases e:∃p,R.ok p/\labC p=l
  ·obtain⟨p,h1,rfl⟩:=e;obtain⟨r,hr⟩:=(ko.oi hi (cU u rs)).live h1;rw[hr];simp
  rw[gx _ λp h1 h2=>e ⟨p,h1,h2⟩];rcases hl with hl|hl
  ·exact lJ (.inl (by rw[pf];exact hl))
  exact absurd hl e
 refine⟨h.e.we,?_,?_,tn λl hl=>hus l (hp l hl),?_,?_,?_⟩
 ·intro l r hl;rcases qZ hi hl with⟨p,h1,rfl,h2⟩|⟨h1,h2⟩
  ·rw[gg hi h1];have:=R.nat labC (kg labC lab R m) p;have e:R.row (λi=>kg labC lab R m (labC i)) p=R.row lab p:=by
    have h0:=R.nat Lb.par (As (λi=>kg labC lab R m (labC i))) p;have h0':=R.nat Lb.par (As lab) p;simp only[As] at h0 h0';rw[h0,h0'];cases oE:R.row Lb.par p with
    |none=>rfl
    |some r0=>
    simp only[af9,afZ,aP,Row.mk.injEq,agt];refine agX λcs aZ=>iD cs λz hz=> ?_;obtain⟨p',h6,rfl⟩:=R.aq Lb.par p r0 oE cs aZ z hz;simp only[As];exact gg hi ((R.jM _ _).1 h6)
   rw[e,h2] at this;exact h.at'.row p _ this
  rw[fV h1];exact h.r _ (fQ (bg.1 h2))
 ·intro l l' g1 g2 e;rcases zn l g1 with⟨p,h1,rfl⟩|⟨h1,Ep⟩<;>rcases zn l' g2 with⟨p',h2,rfl⟩|⟨h2,h2'⟩
  ·rw[gg hi h1,gg hi h2] at e;rw[h.at'.inj p p' h1 h2 e]
  ·rw[gg hi h1,fV h2] at e;exact absurd e (h.ap _ h2' p h1)
  ·rw[fV h1,gg hi h2] at e;exact absurd e.symm (h.ap _ Ep p' h2)
  rw[fV h1,fV h2] at e;exact jy h.inj l Ep l' h2' e
 ·intro l r hl cs aZ q hq;rcases qZ hi hl with⟨p,h1,rfl,h2⟩|⟨h1,h2⟩
  ·obtain⟨p',h6,rfl⟩:=R.aq labC p r h2 cs aZ q hq;exact hus _ (.inr ⟨p',(R.jM _ _).1 h6,rfl⟩)
  exact hus q (hr _ (fQ (bg.1 h2)) cs aZ q hq)
 ·intro l hf;refine⟨λhu=> ?_,λhl=> ?_⟩
  ·rcases h.nf l hf hu with⟨p,h1,h2⟩|h1|h1
   ·exact hus l (.inr ⟨p,h1,h2⟩)
   ·exact hus l (.inl h1)
   by_cases e:∃p,R.ok p/\labC p=l
   ·exact hus l (.inr e)
   rw[gx _ λp h1 h2=>e ⟨p,h1,h2⟩];exact lJ (.inr h1)
  rcases zn l hl with⟨p,h1,rfl⟩|⟨h1,h2⟩
  ·rw[gg hi h1];exact(h.fp p h1).2 hf
  rw[fV h1];exact(h.fr l h2).2 hf
 intro l hl hf;rcases zn l hl with⟨p,h1,rfl⟩|⟨h1,h2⟩
 ·rw[gg hi h1];exact(h.fp p h1).1 hf
 rw[fV h1];exact(h.fr l h2).1 hf
def sb {σ:Type} {S:St} {Q:ir} {c:AC} {k:List It} {env:Env} {H:Hp} (labC:Nat->Lb) (R:σ->n6) (ls:List Lb) (u:Lb->Bool) (ps:σ->List (Nat×AV)) (rs:σ->List (Lb×Row)) (μ:σ->Nat) (s0:σ)
  (hi:∀s p q,(R s).ok p->(R s).ok q->labC p=labC q->p=q) (pf:∀s,(rs s).map Prod.fst=ls) (hC:∀s,∀l∈ls,∀p,(R s).ok p->labC p≠l) (hp:∀s,∀l∈ai ((ps s).map Prod.snd),l∈ls\/∃p,(R s).ok p/\labC p=l)
  (hr:∀s,∀q∈rs s,∀cs∈q.2.els,∀l∈ai cs,l∈ls\/∃p,(R s).ok p/\labC p=l) (h0:∃lab m,WH labC (R s0) ls u (ps s0) (rs s0) env H lab m)
  (round:∀s,go S (qG S Q k (λenv H s=>∃lab m,WH labC (R s) ls u (ps s) (rs s) env H lab m) μ (μ s)) [.code c] (iX (ps s)) (Ar labC (R s) (cU u (rs s)))):oL S Q c k env H:=
 oN (λs=>iX (ps s)) (λs=>Ar labC (R s) (cU u (rs s))) _ (λ_ _ s ⟨lab,m,h⟩=>⟨_,h.wk (hi s) (pf s) (hC s) (hp s) (hr s)⟩) μ s0 h0 round
end Go.Am

namespace Go.Am
open Go Go.RowKit
def p2 (a b:Nat):Nat:=2^a*(2*b+1)
theorem gN:∀{a b c d:Nat},p2 a b=p2 c d->a=c/\b=d
 |0,b,0,d,h=>by simp[p2] at h;omega
 |0,b,c+1,d,h=>by
  simp only[p2,ajE,Nat.pow_zero,ai1] at h;have:2^c*2*(2*d+1)=2*(2^c*(2*d+1)):=by rw[ais (2^c) 2,ai']
  omega
 |a+1,b,0,d,h=>by
  simp only[p2,ajE,Nat.pow_zero,ai1] at h;have:2^a*2*(2*b+1)=2*(2^a*(2*b+1)):=by rw[ais (2^a) 2,ai']
  omega
 |a+1,b,c+1,d,h=>by
  have h2:p2 a b=p2 c d:=by
   simp only[p2,ajE] at h ⊢;have e1:2^a*2*(2*b+1)=2*(2^a*(2*b+1)):=(by rw[ais (2^a) 2,ai']);have e2:2^c*2*(2*d+1)=2*(2^c*(2*d+1)):=(by rw[ais (2^c) 2,ai']);omega
  have:=gN h2;omega
def Lb.enc:Lb->Nat
 | .loc n=>p2 0 n
 | .par n=>p2 1 n
 | .gen n=>p2 2 n
 | .nest l i j=>p2 3 (p2 l.enc (p2 i j))
theorem Lb.KG:∀l l':Lb,l.enc=l'.enc->l=l'
 | .loc n,.loc m,h=>by rw[(gN h).2]
 | .par n,.par m,h=>by rw[(gN h).2]
 | .gen n,.gen m,h=>by rw[(gN h).2]
 | .nest l i j,.nest l' i' j',h=>by
  have h1:=gN (gN h).2;have h2:=gN h1.2;rw[Lb.KG l l' h1.1,h2.1,h2.2]
 | .loc n,.par m,h=>by have:=(gN h).1;omega
 | .loc n,.gen m,h=>by have:=(gN h).1;omega
 | .loc n,.nest _ _ _,h=>by have:=(gN h).1;omega
 | .par n,.loc m,h=>by have:=(gN h).1;omega
 | .par n,.gen m,h=>by have:=(gN h).1;omega
 | .par n,.nest _ _ _,h=>by have:=(gN h).1;omega
 | .gen n,.loc m,h=>by have:=(gN h).1;omega
 | .gen n,.par m,h=>by have:=(gN h).1;omega
 | .gen n,.nest _ _ _,h=>by have:=(gN h).1;omega
 | .nest _ _ _,.loc m,h=>by have:=(gN h).1;omega
 | .nest _ _ _,.par m,h=>by have:=(gN h).1;omega
 | .nest _ _ _,.gen m,h=>by have:=(gN h).1;omega
def NW (c:Nat) (l:Lb):Lb:= .nest (.loc c) l.enc 1
def DH (c:Nat):∀l l',NW c l=NW c l'->l=l':=λl l' h=>Lb.KG _ _ (by simpa[NW] using h)
def NC (c:Nat) (l:Lb):Lb:= .nest l c 2
def q5 (c:Nat):∀l l',NC c l=NC c l'->l=l':=λl l' h=>by simpa[NC] using h
def wa (sz:Nat) (xs:List IV):n6 where
 row _ p:=if p=0 then some ⟨sz,ak xs⟩ else none
 nat lab ρ p:=by by_cases h:p=0<;>simp[h,aK]
 aq lab p r h cs aZ q hq:=by
  by_cases h0:p=0
  ·simp[h0] at h;subst h;rw[bc aZ] at hq;simp at hq
  simp[h0] at h
def iN {sz:Nat} {xs:List IV} {p:Nat}:(wa sz xs).ok p↔p=0:=by
 unfold n6.ok wa;by_cases h:p=0<;>simp[h]
def BL:n6 where
 row _ _:=none
 nat _ _ _:=rfl
 aq _ _ _ h:=by cases h
def j_ {p:Nat}:¬BL.ok p:=by simp[n6.ok,BL]
def IH:n7 BL=Hp.none:=by
 funext q;exact gx _ λp hp=>absurd hp j_
abbrev DI (P:Program) (G:Nat->Option (List IV)) (f:Nat) (args:List AV) (sz:Nat) (xs:List IV):Prop:=
 r_ P G f args BL [] λX R2=>X=(λlab=> .sl (lab 0) sz 0 xs.length)/\R2=wa sz xs
def CB {P:Program} {G:Nat->Option (List IV)} {f:Nat} {n:Nat} {rs:List RO} {ac:AC} {args:List AV} {sz:Nat} {xs:List IV}
  (hF:dK P G f=some (n,rs,ac.bare)) (hn:args.length<=n) (ha:ai args=[])
  (hg:go ⟨P,G,n⟩ (eZ rs λx H'=>∃L,x= .sl L sz 0 xs.length/\H' L= .live ⟨sz,ak xs⟩) [.code ac] (fH args) Hp.none):DI P G f args sz xs:=by
 refine⟨al4,?_⟩;rw[IH];refine(e_ hF hn alD al4 hg).mono ?_;rintro x H ⟨L,hx,hL⟩;refine⟨⟨λlab=> .sl (lab 0) sz 0 xs.length,wa sz xs,λ_=>L⟩,⟨rfl,rfl⟩,λρ=>rfl,λl hl=>⟨0,iN.2 rfl,?_⟩,hx,⟨λp r hr=> ?_,λp q hp hq _=>(iN.1 hp).trans (iN.1 hq).symm⟩,ajL⟩
 ·rw[hx] at hl;simpa[AV.aq] using hl
 exact Wd

section
variable {K:Kx} {β:Lb->Option Nat} {env:Env} {H:Hp} {a:Act} {w:World}
def aO.trim (hr:aO K β env H a w) {l:Lb} {sz:Nat} {els:List (List AV)} (k:Nat) (hl:H l= .live ⟨sz,els⟩):aO K β env (aS H l (.live ⟨sz,els.take k⟩)) a w:=by
 cases hb:β l with
 |none=>
  have:=(hr.rows l _ hl).2.2;simp only[hb] at this;subst this;simp only[List.take_nil];rw[wQ hl];exact hr
 |some g=>
 refine hr.Ah hl g hb ?_ ?_ ?_ ?_
 ·intro cur e cap k1 k2 k4;rw[agA];omega
 ·exactλcs aZ=>(hr.rows l _ hl).2.1 cs (agH aZ)
 ·exactλcs aZ=>hr.cB l _ hl cs (agH aZ)
 intro i j cs x hi hj;rw[agG] at hi;split at hi
 ·exact .inr ⟨cs,hi,hj⟩
 simp at hi
end
def At {P:Program} {G:Nat->Option (List IV)} {f:Nat} {n:Nat} {rs:List RO} {ac:AC} {args:List AV} {sz:Nat} {xs ys:List IV}
  (hF:dK P G f=some (n,rs,ac.bare)) (hn:args.length<=n) (ha:∀l∈ai args,l= .par 0)
  (hg:go ⟨P,G,n⟩ (eZ rs λx H'=>∃L c els,(x= .sl L sz 0 ys.length\/x= .slk L sz 0 ys.length c)/\H' L= .live ⟨sz,ak ys++els⟩) [.code ac] (fH args) (eP sz xs)):qj P G sz f args xs ys:=by
 refine⟨ha,?_⟩;have h0:=e_ hF hn ?_ ?_ hg
 ·intro w A β vs hr hv;refine(h0 w A β vs hr hv).mono ?_;rintro e w' ⟨v,x,H1,β',rfl,⟨L,c,els,hx,hL⟩,qf,Bh,hm⟩;have ht:=qf.trim ys.length hL;rw[show(ak ys++els).take ys.length=ak ys by rw[<-bw ys,List.take_left]] at ht;have aT:∀q,live (aS H1 L (.live ⟨sz,ak ys⟩)) q->live H1 q:=by
   rintro q ⟨r,hq⟩;by_cases e:q=L
   ·subst e;exact⟨_,hL⟩
   rw[an _ _ e] at hq;exact⟨r,hq⟩
  refine⟨v,.sl L sz 0 ys.length,_,β',rfl,⟨L,rfl,ajL⟩,ht,?_,ajP⟩;simp only[RV];rcases hx with rfl|rfl
  ·simp only[RV] at Bh;obtain⟨ad,c,g1,g2,g3,g4,g5⟩:=Bh;exact⟨ad,c,g1,g2,g3,g4,λhl=>g5 (aT _ hl)⟩
  simp only[RV] at Bh;obtain⟨ad,g1,g2,g3,g4,g5⟩:=Bh;exact⟨ad,c,g1,g2,g3,λh=>g4 ajK,λhl=>g5 (aT _ hl)⟩
 ·exact Wg
 intro l hl;rw[ha l hl];simp[eP]
def vC {S:St} {f:Nat} {fn:Func} (hf:S.P.funcs[f]?=some fn) (vy:(fn.name== "runtime.NumGoroutine")=false) (hb:fn.body.isNone=true)
  (hn:Extern.findNext fn=none) {tS tR e:TypeId} (he:Extern.find fn=some (Extern.SlicesOverlaps.overlaps #[tS,tS] #[tR])) (ht:S.P.underlying tS=some (.slice e)) {size:Nat} (hz:∀w,(Go.sizeOf e).run S.P w= .ok size w)
  {vs:List IV} (hv:vs≠[]) {l:Lb} {sz i n c:Nat} {r:Row} {H:Hp} (hl:H l= .live r) (h0:0<n):lT S f [.list vs,.slk l sz i n c] H (.bool false):=by
 intro K β env a w ws hS od hws;subst hS
 match ws,hws with
 |[u,v],h=>
  simp only[bA] at h;obtain⟨_,_,e0,h1,_,_,e2,h3,e4⟩:=h;cases e0;cases e2;cases e4;simp only[RV,iM] at h1 h3;obtain⟨ad,c1,rfl,g1,g2,g3⟩:=h1;obtain⟨ad2,rfl,k1,k2,k3,k4⟩:=h3;have LA:vs.length≠0:=λe=>hv (agL.1 e);rcases g3 with g3|⟨b,o,s2,rfl,g4,g5,g6,g7⟩
  ·exact absurd g3 LA
  rcases k4 ⟨_,hl⟩ with k4|⟨g,Sz,q1,rfl,q3,q4⟩
  ·omega
  have oE:=od.rows l r hl;obtain⟨cur,ee,cap,p1,p2,p3,p4,p5⟩:=oE.block q1;obtain⟨y,Su,rfl⟩:∃y Su,vs=y::Su:=by cases vs with|nil=>exact absurd rfl hv|cons y q=>exact⟨y,q,rfl⟩
  simp only[cd] at g7;have qw:∃z,w.cell? ⟨b,o,none⟩=some z:=by
   have:=g7.1;rw[hQ] at this;obtain⟨hs,hc⟩:=this;cases aZ:y.cells with
   |nil=>rw[aZ] at hs;simp at hs;omega
   |cons c0 cr=>
   rw[aZ] at hc;simp only[b7] at hc;obtain⟨⟨z,hz,_⟩,_⟩:=hc;exact⟨z,hz⟩
  obtain⟨z,qo⟩:=qw;obtain⟨cb,eb,fb,ab'⟩:∃cb eb fb,w.heap[b]?=some (.cells cb eb fb):=by
   unfold World.cell? at qo;simp only at qo;split at qo
   ·rename_i cb eb fb hb;exact⟨cb,eb,fb,hb⟩
   cases qo
  have hcb:cb.size≠0:=by
   intro e;unfold World.cell? at qo;simp only[ab'] at qo;simp at qo;have:cb=#[]:=Array.eq_empty_of_size_eq_zero e
   subst this;simp at qo
  have cf:b≠g:=by
   rintro rfl;exact g4.2 l ⟨_,hl⟩ q1
  have Z':(b !=g)=true:=by simpa using cf
  have aek:(b==g)=false:=by simpa using cf
  refine⟨.bool false,w,?_,Below.refl _ _,ake,ajP⟩;rw[run_callFunc_extern hf vy hb hn he];have ab_:(Extern.SlicesOverlaps.overlaps #[tS,tS] #[tR] #[.slice (some ⟨b,o,none⟩) (y::Su).length c1,.slice (some ⟨g,i*sz,none⟩) n c]).run K.P w= .ok (.bool false) w:=by
   unfold Extern.SlicesOverlaps.overlaps;rw[show ∀(p:Option Addr) (k d:Nat) (q:Option Addr) (k' d':Nat) (h1:Option Addr->Nat->Nat->Option Addr->Nat->Nat->Sem Value) (h2:Array Value->Sem Value),Extern.SlicesOverlaps.overlaps.match_4 (λ_=>Sem Value) #[.slice p k d,.slice q k' d'] h1 h2=h1 p k d q k' d' fromλ_ _ _ _ _ _ _ _=>rfl]
   have hsa:w.shape? b=some (eb,cb.size):=(by simp[World.shape?,ab']);have hsb:w.shape? g=some (ee,cur.size):=(by simp[World.shape?,p1]);have hfz:∀off,w.frozen? ⟨g,off,none⟩=false:=λoff=>(by simp[World.frozen?,p1]);obtain⟨kB,hkB⟩:∃kB,cb.size=kB+1:=⟨cb.size - 1,ajK⟩;by_cases h0:(y::Su).length=0\/n=0\/size=0
   ·simp[run_underlying ht,hz,h0];rcases h0 with h0|h0|h0
    ·simp at h0
    ·omega
    simp[h0]
   have HA:size≠0:=λe=>h0 (.inr (.inr e));have ov:n≠0:=ajK
   cases hfa:w.frozen? ⟨b,o,none⟩<;>cases hfe:w.frozen? ⟨b,cb.size,none⟩ <;>
    simp[run_underlying ht,hz,h0,Z',aek,frozen,noView,viewAt,mayBeOne,stringish,shape,Sem.run,hsa,hsb,hfz,hkB,hfa,HA,ov]<;>rw[hkB] at hfe<;>simp[hfe]
  rw[ab_];rfl

structure Bn where
 n0:Nat
 nodes:List Node
 fs:List Int
 az:List Int
def Bn.at (b:Bn) (i:Nat):List Attr:=match b.nodes[i]? with|some x=>x.attrs|none=>[]
def Bn.kd (b:Bn) (i:Nat):List Int:=match b.nodes[i]? with|some x=>x.kids|none=>[]
theorem Bn.pH {b:Bn} {i:Nat} {x:Node} (h:b.nodes[i]?=some x):b.at i=x.attrs:=by simp[Bn.at,h]
theorem Bn.lu {b:Bn} {i:Nat} {x:Node} (h:b.nodes[i]?=some x):b.kd i=x.kids:=by simp[Bn.kd,h]
def b5 (n0:Nat) (lab:Nat->Lb) (i:Nat) (x:Node):List AV:=
 [.bool x.text,.str x.s,if i<n0 then .sl (lab (4+2*i)) 2 0 x.attrs.length else .list (aQ x.attrs),.int .i64 x.parent,if i<n0 then .sl (lab (5+2*i)) 1 0 x.kids.length else .list (x.kids.map aC)]
def yu (b:Bn) (lab:Nat->Lb) (p:Nat):Option Row:=
 if p=0 then some ⟨3,[[.sl (lab 1) 5 0 b.nodes.length,.sl (lab 2) 1 0 b.fs.length,.sl (lab 3) 1 0 b.az.length]]⟩
 else if p=1 then some ⟨5,b.nodes.mapIdx (b5 b.n0 lab)⟩
 else if p=2 then some ⟨1,ak (b.fs.map aC)⟩
 else if p=3 then some ⟨1,ak (b.az.map aC)⟩
 else if p<4+2*b.n0 then(if p%2=0 then some ⟨2,ak (aQ (b.at ((p - 4)/2)))⟩ else some ⟨1,ak ((b.kd ((p - 5)/2)).map aC)⟩)
 else none
def MB (n0:Nat) (lab:Nat->Lb) (ρ:Lb->Lb) (i:Nat) (x:Node):aA ρ (b5 n0 lab i x)=b5 n0 (λi=>ρ (lab i)) i x:=by
 grind [b5,aA,aH]
def MC {n0:Nat} {lab:Nat->Lb} {i:Nat} {x:Node} {q:Lb} (h:q∈ai (b5 n0 lab i x)):i<n0/\(q=lab (4+2*i)\/q=lab (5+2*i)):=by
 grind [b5,ai,AV.aq]
def kY {b:Bn} {lab:Nat->Lb} {p:Nat}:(yu b lab p).isSome=true↔p<4+2*b.n0:=by
 grind [yu]
def dh (b:Bn):n6 where
 row:=yu b
 nat lab ρ p:=by
  unfold yu;by_cases h0:p=0
  ·simp[h0,aP,aA,aH]
  by_cases h1:p=1
  ·simp only[h1,af8 (show ¬(1:Nat)=0 by decide),agn,af9,afZ,aP,Row.mk.injEq,agt];refine agV λi=> ?_;simp only[ago,ahb,Option.map_map];congr 1;funext x;exact(MB _ _ _ _ _).symm
  by_cases h2:p=2
  ·simp[h2,aK]
  by_cases h3:p=3
  ·simp[h3,aK]
  by_cases h4:p<4+2*b.n0
  ·by_cases h5:p%2=0<;>simp[h0,h1,h2,h3,h4,h5,aK]
  simp[h0,h1,h2,h3,h4]
 aq lab p r hr cs aZ q hq:=by
  unfold yu at hr;by_cases h0:p=0
  ·simp[h0] at hr;subst hr;simp only[af'] at aZ;subst aZ;simp[ai,AV.aq] at hq;rcases hq with rfl|rfl|rfl
   ·exact⟨1,kY.2 ajK,rfl⟩
   ·exact⟨2,kY.2 ajK,rfl⟩
   exact⟨3,kY.2 ajK,rfl⟩
  by_cases h1:p=1
  ·simp[h1] at hr;subst hr;simp only at aZ;obtain⟨i,hi⟩:=agE aZ;rw[ahb] at hi;obtain⟨x,_,rfl⟩:=acF.1 hi;obtain⟨h5,h6⟩:=MC hq;rcases h6 with rfl|rfl
   ·exact⟨4+2*i,kY.2 ajK,rfl⟩
   exact⟨5+2*i,kY.2 ajK,rfl⟩
  have key:∀(sz:Nat) (xs:List IV),r=⟨sz,ak xs⟩->False:=by
   rintro sz xs rfl;rw[bc aZ] at hq;simp at hq
  exfalso;by_cases h2:p=2
  ·simp[h2] at hr;exact key _ _ hr.symm
  by_cases h3:p=3
  ·simp[h3] at hr;exact key _ _ hr.symm
  by_cases h4:p<4+2*b.n0
  ·by_cases h5:p%2=0
   ·simp[h0,h1,h2,h3,h4,h5] at hr;exact key _ _ hr.symm
   simp[h0,h1,h2,h3,h4,h5] at hr;exact key _ _ hr.symm
  simp[h0,h1,h2,h3,h4] at hr
theorem aW {b:Bn} {p:Nat}:(dh b).ok p↔p<4+2*b.n0:=kY
theorem nV {b:Bn} {lab:Nat->Lb} {i:Nat} (h:i<b.n0):yu b lab (4+2*i)=some ⟨2,ak (aQ (b.at i))⟩:=by
 grind [yu]
theorem nW {b:Bn} {lab:Nat->Lb} {i:Nat} (h:i<b.n0):yu b lab (5+2*i)=some ⟨1,ak ((b.kd i).map aC)⟩:=by
 grind [yu]
abbrev b8 (lab:Nat->Lb) (b:Bn) (H:Hp):Prop:=ko lab (dh b) H
section
variable {lab:Nat->Lb} {b:Bn} {H H2:Hp}
def b8.s (h:b8 lab b H):H (lab 0)= .live ⟨3,[[.sl (lab 1) 5 0 b.nodes.length,.sl (lab 2) 1 0 b.fs.length,.sl (lab 3) 1 0 b.az.length]]⟩:=h.row 0 _ rfl
def b8.n (h:b8 lab b H):H (lab 1)= .live ⟨5,b.nodes.mapIdx (b5 b.n0 lab)⟩:=h.row 1 _ rfl
def b8.f (h:b8 lab b H):H (lab 2)= .live ⟨1,ak (b.fs.map aC)⟩:=h.row 2 _ rfl
def b8.a (h:b8 lab b H):H (lab 3)= .live ⟨1,ak (b.az.map aC)⟩:=h.row 3 _ rfl
def b8.at' (h:b8 lab b H) {i:Nat} {x:Node} (hi:i<b.n0) (hx:b.nodes[i]?=some x):H (lab (4+2*i))= .live ⟨2,ak (aQ x.attrs)⟩:=by
 have:=h.row _ _ (nV hi)
 grind [Bn.pH]
def b8.kd (h:b8 lab b H) {i:Nat} {x:Node} (hi:i<b.n0) (hx:b.nodes[i]?=some x):H (lab (5+2*i))= .live ⟨1,ak (x.kids.map aC)⟩:=by
 have:=h.row _ _ (nW hi)
 grind [Bn.lu]
def b8.ne (h:b8 lab b H) {p q:Nat} (hp:p<4+2*b.n0) (hq:q<4+2*b.n0) (e:p≠q):lab p≠lab q:=λe2=>e (h.inj p q (aW.2 hp) (aW.2 hq) e2)
def Bn.set (b:Bn) (i:Nat) (y:Node):Bn:={b with nodes:=b.nodes.set i y}
def Bn.put (b:Bn) (y:Node):Bn:={b with nodes:=b.nodes++[y]}
theorem Bn.KH (b:Bn) (i:Nat) (y:Node) (lab:Nat->Lb):(b.set i y).nodes.mapIdx (b5 (b.set i y).n0 lab)=(b.nodes.mapIdx (b5 b.n0 lab)).set i (b5 b.n0 lab i y):=by
 grind [Bn.set]
def Bn.aca (b:Bn) (y:Node) (lab:Nat->Lb):(b.put y).nodes.mapIdx (b5 (b.put y).n0 lab)=b.nodes.mapIdx (b5 b.n0 lab)++[b5 b.n0 lab b.nodes.length y]:=by
 simp[Bn.put]
def b8.lists (h:b8 lab b H) {p:Nat} (h4:4<=p) (hp:p<4+2*b.n0):∃i,i<b.n0/\(p=4+2*i\/p=5+2*i):=by
 by_cases e:p%2=0
 ·exact⟨(p - 4)/2,ajK,ajK⟩
 exact⟨(p - 5)/2,ajK,ajK⟩
def b8.mk' {lab:Nat->Lb} {b:Bn} {H:Hp} (hi:∀p q,p<4+2*b.n0->q<4+2*b.n0->lab p=lab q->p=q)
  (h0:H (lab 0)= .live ⟨3,[[.sl (lab 1) 5 0 b.nodes.length,.sl (lab 2) 1 0 b.fs.length,.sl (lab 3) 1 0 b.az.length]]⟩) (h1:H (lab 1)= .live ⟨5,b.nodes.mapIdx (b5 b.n0 lab)⟩)
  (h2:H (lab 2)= .live ⟨1,ak (b.fs.map aC)⟩) (h3:H (lab 3)= .live ⟨1,ak (b.az.map aC)⟩)
  (h4:∀i,i<b.n0->H (lab (4+2*i))= .live ⟨2,ak (aQ (b.at i))⟩) (h5:∀i,i<b.n0->H (lab (5+2*i))= .live ⟨1,ak ((b.kd i).map aC)⟩):b8 lab b H:=by
 refine⟨λp r hp=> ?_,λp q hp hq=>hi p q (aW.1 hp) (aW.1 hq)⟩;have aF:p<4+2*b.n0:=kY.1 (show(yu b lab p).isSome=true by change yu b lab p=some r at hp;rw[hp];rfl);change yu b lab p=some r at hp;by_cases e0:p=0
 ·subst e0;cases hp;exact h0
 by_cases e1:p=1
 ·subst e1;cases hp;exact h1
 by_cases e2:p=2
 ·subst e2;cases hp;exact h2
 by_cases e3:p=3
 ·subst e3;cases hp;exact h3
 by_cases e:p%2=0
 ·obtain⟨i,rfl⟩:∃i,p=4+2*i:=⟨(p - 4)/2,ajK⟩
  grind [nV]
 obtain⟨i,rfl⟩:∃i,p=5+2*i:=⟨(p - 5)/2,ajK⟩
 grind [nW]
def Bn.pI (b:Bn) {i:Nat} {x y:Node} (hx:b.nodes[i]?=some x) (j:Nat):(b.set i y).at j=if j=i then y.attrs else b.at j:=by
 grind [Bn.at,Bn.set]
def Bn.DJ (b:Bn) {i:Nat} {x y:Node} (hx:b.nodes[i]?=some x) (j:Nat):(b.set i y).kd j=if j=i then y.kids else b.kd j:=by
 grind [Bn.kd,Bn.set]
def b8.acb (h:b8 lab b H) {i:Nat} {x:Node} {s:Bs} (hx:b.nodes[i]?=some x)
  (h1:H2 (lab 1)= .live ⟨5,(b.nodes.mapIdx (b5 b.n0 lab)).set i (b5 b.n0 lab i {x with s:=s})⟩) (h2:∀q,q≠lab 1->H2 q=H q):b8 lab (b.set i {x with s:=s}) H2:=by
 have cf:∀p,p<4+2*b.n0->p≠1->lab p≠lab 1:=λp hp e=>h.ne hp ajK e;refine b8.mk' (λp q hp hq=>h.inj p q (aW.2 hp) (aW.2 hq)) ?_ ?_ ?_ ?_ ?_ ?_
 ·rw[h2 _ (cf 0 ajK ajK),h.s];simp[Bn.set]
 ·rw[h1,Bn.KH]
 ·rw[h2 _ (cf 2 ajK ajK),h.f];rfl
 ·rw[h2 _ (cf 3 ajK ajK),h.a];rfl
 ·intro j hj;change j<b.n0 at hj;rw[h2 _ (cf _ ajK ajK),h.row _ _ (nV hj),b.pI hx]
  grind [Bn.pH]
 intro j hj;change j<b.n0 at hj;rw[h2 _ (cf _ ajK ajK),h.row _ _ (nW hj),b.DJ hx]
 grind [Bn.lu]
def b8.TM (h:b8 lab b H) {i:Nat} {x:Node} {ys:List Int} {N:Lb} (hi:i<b.n0) (hx:b.nodes[i]?=some x) (hN:N=lab (5+2*i)\/∀p,p<4+2*b.n0->lab p≠N)
  (h1:H2 (lab 1)= .live ⟨5,(b.nodes.mapIdx (b5 b.n0 lab)).set i [.bool x.text,.str x.s,.sl (lab (4+2*i)) 2 0 x.attrs.length,.int .i64 x.parent,.sl N 1 0 ys.length]⟩)
  (h2:H2 N= .live ⟨1,ak (ys.map aC)⟩) (h3:∀q,q≠lab 1->q≠N->q≠lab (5+2*i)->H2 q=H q) :
  b8 (λp=>if p=5+2*i then N else lab p) (b.set i {x with kids:=ys}) H2:=by
 have cf:∀p,p<4+2*b.n0->p≠1->lab p≠lab 1:=λp hp e=>h.ne hp ajK e;have H9:∀p,p<4+2*b.n0->p≠5+2*i->lab p≠lab (5+2*i):=λp hp e=>h.ne hp ajK e;have DK:∀p,p<4+2*b.n0->p≠5+2*i->lab p≠N:=λp hp e=>by
  rcases hN with rfl|hN
  ·exact H9 p hp e
  exact hN p hp
 have et:∀p,p<4+2*b.n0->p≠1->p≠5+2*i->H2 (lab p)=H (lab p):=λp hp e1 e2=>h3 _ (cf p hp e1) (DK p hp e2) (H9 p hp e2);have hj:∀p,p≠5+2*i->(if p=5+2*i then N else lab p)=lab p:=λp e=>af8 e;refine b8.mk' ?_ ?_ ?_ ?_ ?_ ?_ ?_
 ·intro p q hp hq e;change p<4+2*b.n0 at hp;change q<4+2*b.n0 at hq;by_cases e1:p=5+2*i<;>by_cases e2:q=5+2*i
  ·rw[e1,e2]
  ·rw[agc e1,af8 e2] at e;exact absurd e.symm (DK q hq e2)
  ·rw[af8 e1,agc e2] at e;exact absurd e (DK p hp e1)
  exact XM
 ·exact abi
 ·simp only[hj 1 ajK];rw[h1,Bn.KH];congr 2;refine agV λj=> ?_;simp only[ah8,agw,ahb];by_cases e:i=j
  ·subst e;simp only[agn];congr 1;simp[b5,hi,hj (4+2*i) ajK]
  simp only[e,agk];congr 1;funext z;simp only[b5];rw[af8 (show ¬4+2*j=5+2*i by omega),af8 (show ¬5+2*j=5+2*i by omega)]
 ·exact XG
 ·exact XH
 ·intro j qy;change j<b.n0 at qy;simp only[hj (4+2*j) ajK];rw[et _ ajK ajK ajK,h.row _ _ (nV qy),b.pI hx];split
  ·rename_i e;subst e;rw[Bn.pH hx]
  rfl
 intro j qy;change j<b.n0 at qy;rw[b.DJ hx];by_cases e:j=i
 ·subst e;simp only[agn];exact h2
 simp only[hj (5+2*j) ajK,e,agk];rw[et _ ajK ajK ajK,h.row _ _ (nW qy)]
def b8.fZ (h:b8 lab b H) {i:Nat} {x:Node} {ys:List Attr} {N:Lb} (hi:i<b.n0) (hx:b.nodes[i]?=some x) (hN:N=lab (4+2*i)\/∀p,p<4+2*b.n0->lab p≠N)
  (h1:H2 (lab 1)= .live ⟨5,(b.nodes.mapIdx (b5 b.n0 lab)).set i [.bool x.text,.str x.s,.sl N 2 0 ys.length,.int .i64 x.parent,.sl (lab (5+2*i)) 1 0 x.kids.length]⟩)
  (h2:H2 N= .live ⟨2,ak (aQ ys)⟩) (h3:∀q,q≠lab 1->q≠N->q≠lab (4+2*i)->H2 q=H q) :
  b8 (λp=>if p=4+2*i then N else lab p) (b.set i {x with attrs:=ys}) H2:=by
 have cf:∀p,p<4+2*b.n0->p≠1->lab p≠lab 1:=λp hp e=>h.ne hp ajK e;have H9:∀p,p<4+2*b.n0->p≠4+2*i->lab p≠lab (4+2*i):=λp hp e=>h.ne hp ajK e;have DK:∀p,p<4+2*b.n0->p≠4+2*i->lab p≠N:=λp hp e=>by
  rcases hN with rfl|hN
  ·exact H9 p hp e
  exact hN p hp
 have et:∀p,p<4+2*b.n0->p≠1->p≠4+2*i->H2 (lab p)=H (lab p):=λp hp e1 e2=>h3 _ (cf p hp e1) (DK p hp e2) (H9 p hp e2);have hj:∀p,p≠4+2*i->(if p=4+2*i then N else lab p)=lab p:=λp e=>af8 e;refine b8.mk' ?_ ?_ ?_ ?_ ?_ ?_ ?_
 ·intro p q hp hq e;change p<4+2*b.n0 at hp;change q<4+2*b.n0 at hq;by_cases e1:p=4+2*i<;>by_cases e2:q=4+2*i
  ·rw[e1,e2]
  ·rw[agc e1,af8 e2] at e;exact absurd e.symm (DK q hq e2)
  ·rw[af8 e1,agc e2] at e;exact absurd e (DK p hp e1)
  exact XM
 ·exact abi
 ·simp only[hj 1 ajK];rw[h1,Bn.KH];congr 2;refine agV λj=> ?_;simp only[ah8,agw,ahb];by_cases e:i=j
  ·subst e;simp only[agn];congr 1;simp[b5,hi,hj (5+2*i) ajK]
  simp only[e,agk];congr 1;funext z;simp only[b5];rw[af8 (show ¬4+2*j=4+2*i by omega),af8 (show ¬5+2*j=4+2*i by omega)]
 ·exact XG
 ·exact XH
 ·intro j qy;change j<b.n0 at qy;rw[b.pI hx];by_cases e:j=i
  ·subst e;simp only[agn];exact h2
  simp only[hj (4+2*j) ajK,e,agk];rw[et _ ajK ajK ajK,h.row _ _ (nV qy)]
 intro j qy;change j<b.n0 at qy;simp only[hj (5+2*j) ajK];rw[et _ ajK ajK ajK,h.row _ _ (nW qy),b.DJ hx];split
 ·rename_i e;subst e;rw[Bn.lu hx]
 rfl
def b8.push (h:b8 lab b H) {y:Node} {N:Lb} (hn:b.n0<=b.nodes.length) (hN:N=lab 1\/∀p,p<4+2*b.n0->lab p≠N)
  (h0:H2 (lab 0)= .live ⟨3,[[.sl N 5 0 (b.nodes.length+1),.sl (lab 2) 1 0 b.fs.length,.sl (lab 3) 1 0 b.az.length]]⟩)
  (h1:H2 N= .live ⟨5,b.nodes.mapIdx (b5 b.n0 lab)++[[.bool y.text,.str y.s,.list (aQ y.attrs),.int .i64 y.parent,.list (y.kids.map aC)]]⟩) (h3:∀q,q≠lab 0->q≠lab 1->q≠N->H2 q=H q) :
  b8 (λp=>if p=1 then N else lab p) (b.put y) H2:=by
 have DK:∀p,p<4+2*b.n0->p≠1->lab p≠N:=λp hp e=>by
  rcases hN with rfl|hN
  ·exact h.ne hp ajK e
  exact hN p hp
 have et:∀p,p<4+2*b.n0->p≠0->p≠1->H2 (lab p)=H (lab p):=λp hp e0 e1=>h3 _ (h.ne hp ajK e0) (h.ne hp ajK e1) (DK p hp e1);have hj:∀p,p≠1->(if p=1 then N else lab p)=lab p:=λp e=>af8 e;have hlen:(b.put y).nodes.length=b.nodes.length+1:=by simp[Bn.put]
 have acd:∀j,j<b.n0->(b.put y).nodes[j]?=b.nodes[j]?:=λj hj=>by simp only[Bn.put];rw[agB ajK]
 refine b8.mk' ?_ ?_ ?_ ?_ ?_ ?_ ?_
 ·intro p q hp hq e;change p<4+2*b.n0 at hp;change q<4+2*b.n0 at hq;by_cases e1:p=1<;>by_cases e2:q=1
  ·rw[e1,e2]
  ·grind
  ·grind
  exact XM
 ·simp only[hj 0 ajK,agn,hj 2 ajK,hj 3 ajK,hlen];exact h0
 ·show H2 N=_;rw[h1,Bn.aca];have L2:b5 b.n0 (λp=>if p=1 then N else lab p)=b5 b.n0 lab:=by
   grind [b5]
  rw[L2];simp[b5,show ¬b.nodes.length<b.n0 by omega]
 ·exact XG
 ·exact XH
 ·intro j qy;change j<b.n0 at qy;simp only[hj (4+2*j) ajK];rw[et _ ajK ajK ajK,h.row _ _ (nV qy)];simp only[Bn.at,acd j qy]
 intro j qy;change j<b.n0 at qy;simp only[hj (5+2*j) ajK];rw[et _ ajK ajK ajK,h.row _ _ (nW qy)];simp only[Bn.kd,acd j qy]
def b8.ael (h:b8 lab b H) {i:Nat} {x:Node} {ys:List Int} (hi:b.n0<=i) (hx:b.nodes[i]?=some x)
  (h1:H2 (lab 1)= .live ⟨5,(b.nodes.mapIdx (b5 b.n0 lab)).set i [.bool x.text,.str x.s,.list (aQ x.attrs),.int .i64 x.parent,.list (ys.map aC)]⟩) (h2:∀q,q≠lab 1->H2 q=H q):b8 lab (b.set i {x with kids:=ys}) H2:=by
 have cf:∀p,p<4+2*b.n0->p≠1->lab p≠lab 1:=λp hp e=>h.ne hp ajK e;refine b8.mk' (λp q hp hq=>h.inj p q (aW.2 hp) (aW.2 hq)) ?_ ?_ ?_ ?_ ?_ ?_
 ·rw[h2 _ (cf 0 ajK ajK),h.s];simp[Bn.set]
 ·grind [Bn.KH,b5]
 ·rw[h2 _ (cf 2 ajK ajK),h.f];rfl
 ·rw[h2 _ (cf 3 ajK ajK),h.a];rfl
 ·intro j hj;change j<b.n0 at hj;rw[h2 _ (cf _ ajK ajK),h.row _ _ (nV hj),b.pI hx,af8 ajK]
 intro j hj;change j<b.n0 at hj;rw[h2 _ (cf _ ajK ajK),h.row _ _ (nW hj),b.DJ hx,af8 ajK]
def b8.aem (h:b8 lab b H) {fs:List Int} (hl:fs.length=b.fs.length) (h1:H2 (lab 2)= .live ⟨1,ak (fs.map aC)⟩) (h2:∀q,q≠lab 2->H2 q=H q):b8 lab {b with fs:=fs} H2:=by
 have cf:∀p,p<4+2*b.n0->p≠2->lab p≠lab 2:=λp hp e=>h.ne hp ajK e;refine b8.mk' (λp q hp hq=>h.inj p q (aW.2 hp) (aW.2 hq)) ?_ ?_ ?_ ?_ ?_ ?_
 ·rw[h2 _ (cf 0 ajK ajK),h.s];simp[hl]
 ·rw[h2 _ (cf 1 ajK ajK),h.n]
 ·grind
 ·rw[h2 _ (cf 3 ajK ajK),h.a]
 ·exact aby
 exact abz
def b8.ace (h:b8 lab b H) {az:List Int} (hl:az.length=b.az.length) (h1:H2 (lab 3)= .live ⟨1,ak (az.map aC)⟩) (h2:∀q,q≠lab 3->H2 q=H q):b8 lab {b with az:=az} H2:=by
 have cf:∀p,p<4+2*b.n0->p≠3->lab p≠lab 3:=λp hp e=>h.ne hp ajK e;refine b8.mk' (λp q hp hq=>h.inj p q (aW.2 hp) (aW.2 hq)) ?_ ?_ ?_ ?_ ?_ ?_
 ·rw[h2 _ (cf 0 ajK ajK),h.s];simp[hl]
 ·rw[h2 _ (cf 1 ajK ajK),h.n]
 ·rw[h2 _ (cf 2 ajK ajK),h.f]
 ·grind
 ·exact aby
 exact abz
def b8.get (h:b8 lab b H) {i:Nat} {x:Node} (hx:b.nodes[i]?=some x):(b.nodes.mapIdx (b5 b.n0 lab))[i]?=some (b5 b.n0 lab i x):=by
 grind
end

section
variable {P:Program} {G:Nat->Option (List IV)} [KN P G]
def TN (xs:List Attr) (hx:xs.length<=B):DI P G 45 [.list (aQ xs)] 2 (aQ xs):=by
 refine CB (cw 45 [.s (.own 2 2)]) ajL ajO ?_;simp only[↓aX,mX,seval,Dt];refine yK (λh=> ?_) ?_
 ·simp only[↓aX,mX,seval];refine⟨.loc 2,?_,?_⟩
  ·rw[h];rfl
  rw[h];rfl
 simp only[↓aX,mX,seval];rw[lI 2 32 7 (aQ xs) (kx _) (gn _) anC ajN rfl];simp only[↓aX,mX,seval];exact⟨.loc 7,rfl,ajR⟩
def TO (xs:List Int) (hx:xs.length<=B):DI P G 46 [.list (xs.map aC)] 1 (xs.map aC):=by
 refine CB (cw 46 [.s (.own 2 1)]) ajL ajO ?_;simp only[↓aX,mX,seval,Dt];refine yK (λh=> ?_) ?_
 ·simp only[↓aX,mX,seval];refine⟨.loc 2,?_,?_⟩
  ·rw[List.map_eq_nil_iff.1 h];rfl
  rw[h];rfl
 simp only[↓aX,mX,seval];rw[lI 1 8 7 (xs.map aC) (mi _) (mj _) anD ajN rfl];simp only[↓aX,mX,seval];exact⟨.loc 7,rfl,ajR⟩
def mc (xs:List Int) (v:Int):Int:=match xs.findIdx? (·==v) with|some k=>(k:Int)|none=> -1
def KI {xs:List Int} {v:Int} {k:Nat} (h:xs[k]?=some v) (hb:∀j,j<k->xs[j]?≠some v):mc xs v=k:=by
 have:xs.findIdx? (·==v)=some k:=by
  rw[ah_];obtain⟨hk,e⟩:=afY.1 h;refine⟨hk,an_,λj hj=> ?_⟩;have h2:=hb j hj;rw[af7 ajK] at h2;simpa using h2
 rw[mc,this]
def CC {xs:List Int} {v:Int} (h:∀j,j<xs.length->xs[j]?≠some v):mc xs v= -1:=by
 have:xs.findIdx? (·==v)=none:=by
  rw[aiC];intro x hx;obtain⟨j,hj⟩:=agE hx;have h2:=h j (afY.1 hj).1;rw[hj] at h2;simpa using h2
 rw[mc,this]
def TP (xs:List Int) (i:Nat):(xs.map aC)[i]?=(xs[i]?).map aC:=ago ..
def MD (n:Int):(aC n).cells=[.int .i64 n]:=rfl
def ME (xs:List Int) (v:Int) (hx:xs.length<=B) :
  aj P G 187 [.list (xs.map aC),.int .i64 v] (.int .i64 (mc xs v)):=by
 refine au (cw 187 []) ajL ajO ajP ?_;simp only[↓aX,mX,seval,eD];refine dj (σ:={i:Nat // i<=xs.length/\∀j,j<i->xs[j]?≠some v}) (λq=>[(0,.list (xs.map aC)),(1,.int .i64 v),(7,.int .i64 xs.length),(8,.int .i64 q.1)]) (λq=>xs.length - q.1) ⟨0,ajL⟩ (λ_=>rfl) ?_ ?_
 ·exact qi
 rintro⟨i,hi,hs⟩;simp only[↓aX,mX,seval,eD];by_cases aF:i<xs.length
 ·rw[dT aF];obtain⟨x,nE⟩:=gE aF;have hw:=w1 i ajZ;simp only[↓aX,mX,seval,TP,nE,af9,mi,MD,hw];by_cases EL:x=v
  ·subst EL;rw[KI nE hs];simp only[↓aX,mX,seval]
  rw[show(v==x)=false by simpa usingλe=>EL e.symm];simp only[↓aX,mX,seval,hw];refine⟨⟨i+1,aF,λj hj=> ?_⟩,ajM,rfl⟩;by_cases e:j=i
  ·rw[e,nE];simpa using EL
  exact hs j ajK
 rw[dF aF];simp only[↓aX,mX,seval];rw[CC λj hj=>hs j ajK]
end

section
variable {H:Hp} {l:Lb} {sz b d n c i m:Nat} {els news:List (List AV)} {xs:List IV}
def II (hl:H l= .live ⟨sz,els⟩) (hn:n<=els.length) (he:dV sz xs) (hf:Flat xs) (h0:0<b) (hd:l≠ .loc d) (hc:n+xs.length<=c) (DD:n+xs.length<=els.length) :
  iQ sz b d (.slk l sz 0 n c) (.list xs) H=some (.slk l sz 0 (n+xs.length) c,aS H l (.live ⟨sz,els.take n++ak xs++els.drop (n+xs.length)⟩)):=by
 unfold iQ;rw[jT he];have h1:(ak xs).length=xs.length:=bw xs;simp only[af_,hf.one,not_true_eq_false,agk,hl,agt,hn,h0,agQ,ne_eq,hd,aiH,h1,hc,DD,agn];simpa using hf.one
def F3 {x:AV} (hs:kG sz x H=some news) (ho:∀cs∈news,AV.oF cs) (hl:H l= .live ⟨sz,els⟩) (hn:n<=els.length) (h0:0<b) (hd:l≠ .loc d) (hc:n+news.length<=c) (DD:n+news.length<=els.length) :
  iQ sz b d (.slk l sz 0 n c) x H=some (.slk l sz 0 (n+news.length) c,aS H l (.live ⟨sz,els.take n++news++els.drop (n+news.length)⟩)):=by
 unfold iQ;simp only[hs,af_,hl,agt,hn,h0,ne_eq,hd,aiH,hc,DD,agn];simpa using ho
def Yy {x:AV} {z:List AV} (hz:AV.oF z) (hp:Vi x=some (l,sz,i,n)) (hl:H l= .live ⟨sz,els⟩) (qe:i+n<=els.length) :
  C9 sz z x H=some (aS H l (.live ⟨sz,els.take i++List.replicate n z++els.drop (i+n)⟩)):=by
 unfold C9;rw[af8 anQ];simp only[hp,af_,hl,agt,qe,agn,aiN]
def F4 (hl:H l= .live ⟨sz,els⟩) (hn:n<=els.length) (he:dV sz xs) (hf:Flat xs) (h0:0<b) (hd:l≠ .loc d) (hc:c<n+xs.length) (hb:(n+xs.length)*b<=140737488355328) (hu:H (.loc d)= .unused) :
  iQ sz b d (.slk l sz 0 n c) (.list xs) H=some (.sl (.loc d) sz 0 (n+xs.length),aS H (.loc d) (.live ⟨sz,els.take n++ak xs⟩)):=by
 unfold iQ;rw[jT he];have h1:(ak xs).length=xs.length:=bw xs;have Lu:¬(n+xs.length<=c):=ajK
 simp only[af_,hl,agt,hn,h0,ne_eq,hd,aiH,h1,Lu,hb,hu,agn,agk,agR];simpa using hf.one
def Qe {z:List AV} {k:IntKind} (hl:H l= .live ⟨sz,els⟩) (hn:n<=els.length) (hc:c<n+m) (hb:(n+m)*b<=140737488355328) (hu:H (.loc d)= .unused) :
  B0 sz b d z (.slk l sz 0 n c) (.int k (m:Int)) H=some (.sl (.loc d) sz 0 (n+m),aS H (.loc d) (.live ⟨sz,els.take n++List.replicate m z⟩)):=by
 unfold B0;simp only[hl,agt,hn,af5,af0,hc,hb,hu,agR,agn]
def DL {x y:AV} (hs:kG sz x H=some news) (hp:Vi y=some (l,sz,i,n)) (hl:H l= .live ⟨sz,els⟩) (qe:i+n<=els.length) (hm:m=Nat.min news.length n) (ho:∀cs∈news.take m,AV.oF cs) :
  EI sz y x H=some (.int .i64 (m:Int),aS H l (.live ⟨sz,els.take i++news.take m++els.drop (i+m)⟩)):=by
 unfold EI;subst hm;simp only[hs,af_,hp,hl,agt,qe,agn];rw[af8 (by simpa using ho)];have:(news.take (Nat.min news.length n)).length=Nat.min news.length n:=by rw[agA];exact ahK (Nat.min_le_left _ _)
 rw[this]
end
def Au {xs:List IV} {rest:List (List AV)} {i k:Nat} (h:i+k<=xs.length):((ak xs++rest).drop i).take k=ak ((xs.drop i).take k):=by
 have h1:=bw xs;rw[ahF ajK,aip ajY];simp[ak,aiK,ahH]
def q6 {xs:List IV} {rest:List (List AV)} {k:Nat} (h:k<=xs.length):(ak xs++rest).take k=ak (xs.take k):=by
 have h1:=bw xs;rw[aip ajK];simp[ak,ahH]
def Flat.part {xs:List IV} (h:Flat xs) (i k:Nat):Flat ((xs.drop i).take k):=λy hy=>h y (ahf (agH hy))

def bB (v:Bool) (s:Bs):Option Bs:=match bb v s with
 |some (t,[])=>some t
 |_=>none
abbrev jB (v:Bool) (c:UInt8):Prop:=c=60\/(c=34/\v=true)
theorem sc {c:UInt8}:∀(p x r:Bs),c∉p->p.isPrefixOf (x++c::r)=p.isPrefixOf x
 |[],x,r,_=>by simp[List.isPrefixOf]
 |d::p,[],r,h=>by
  grind
 |d::p,y::x,r,h=>by
  simp at h;simp[List.cons_append,List.isPrefixOf];rw[sc p x r h.2]
def Qf {c:UInt8} (hc:c=60\/c=34) (x r:Bs):mu (x++c::r)=(mu x).map λy=>(y.1,y.2++c::r):=by
 have h:∀p∈[Bj,Bl,nL,jU],c∉p:=by
  rcases hc with rfl|rfl<;>decide
 have hl:∀p:Bs,p.isPrefixOf x=true->(x++c::r).drop p.length=x.drop p.length++c::r:=λp hp=>by
  grind
 unfold mu;rw[sc Bj x r (h _ ajL),sc Bl x r (h _ ajL),sc nL x r (h _ ajL),sc jU x r (h _ ajL)]
 grind [Bj,Bl,nL,jU]
theorem sd (v:Bool):bb v []=some ([],[]):=by rw[bb]
theorem tO {v:Bool} {c:UInt8} (hc:jB v c) (r:Bs):bb v (c::r)=some ([],c::r):=by rw[bb,agc hc]
def vD {v:Bool}:∀(n:Nat) (x t r:Bs),x.length<=n->(∀c∈x,¬jB v c)->bb v x=some (t,r)->r=[]:=by
 intro n;induction n with
 |zero=>
  grind [agL,bb]
 |succ n ih=>
 intro x t r hn hs h;cases x with
 |nil=>grind
 |cons c q=>
 grind [bb,nU,acF,agq,mu,afZ,List.drop_suffix]
def F5 {s q:Bs} {e:UInt8} (he:mu s=some (e,q)):q <:+ s:=by
 grind [mu,afZ,agq,List.drop_suffix]
def MF {v:Bool} {c:UInt8} (hc:jB v c):∀(n:Nat) (x r:Bs),x.length<=n->(∀d∈x,¬jB v d)->bb v (x++c::r)=(bb v x).map λy=>(y.1,y.2++c::r):=by
 have Lu:c=60\/c=34:=hc.imp id And.left;intro n;induction n with
 |zero=>
  grind [tO,sd]
 |succ n ih=>
 intro x r hn hs;cases x with
 |nil=>grind
 |cons d q=>
 have hd:=hs d ajL;have hq:∀e∈q,¬jB v e:=λe he=>hs e ajV;rw[List.cons_append]
 conv=>lhs;rw[bb,af8 hd]
 conv=>rhs;rw[bb]
 split
 ·rename_i Et;have e1:=Qf Lu (d::q) r;rw[List.cons_append] at e1;cases he:mu (d::q) with
  |none=>
   grind
  |some y=>
  obtain⟨e,q'⟩:=y;rw[he] at e1;have aF:=nU he;split
  ·rename_i e2 q2 h;rw[e1] at h;obtain⟨rfl,rfl⟩:=h;rw[ih q' r ajV (λz hz=>hs z ((F5 he).subset hz))];cases bb v q'<;>rfl
  grind
 split
 ·rfl
 rw[ih q r ajV hq];cases bb v q<;>rfl
def n8 {v:Bool} {c:UInt8} (hc:jB v c) {x:Bs} (hs:∀d∈x,¬jB v d) (r:Bs):bb v (x++c::r)=(bB v x).map λt=>(t,c::r):=by
 rw[MF hc _ x r (af6 _) hs];unfold bB;cases h:bb v x with
 |none=>rfl
 |some y=>
 obtain⟨t,q⟩:=y;have:=vD _ x t q (af6 _) hs h
 grind
def DM {v:Bool} {x:Bs} (hs:∀d∈x,¬jB v d):bb v x=(bB v x).map λt=>(t,[]):=by
 unfold bB;cases h:bb v x with
 |none=>rfl
 |some y=>
 obtain⟨t,q⟩:=y;have:=vD _ x t q (af6 _) hs h
 grind
def MG {v:Bool}:∀(n:Nat) (x t:Bs),x.length<=n->bB v x=some t->(62:UInt8)∉x/\(60:UInt8)∉x:=by
 intro n;induction n with
 |zero=>
  grind
 |succ n ih=>
 intro x t hn h;cases x with
 |nil=>simp
 |cons c q=>
 unfold bB at h;split at h
 ·rename_i t' he;rw[bb] at he;split at he
  ·grind
  rename_i fG;split at he
  ·rename_i Et;split at he
   ·rename_i e q' BF;obtain⟨⟨t2,r2⟩,h1,h2⟩:=acF.1 he;obtain⟨_,rfl⟩:=h2;have aF:=nU BF;have:=ih q' t2 ajV (by unfold bB;rw[h1]);have hw:∃w:Bs,c::q=w++q'/\(62:UInt8)∉w/\(60:UInt8)∉w:=by
     have key:∀p:Bs,p.isPrefixOf (c::q)=true->(62:UInt8)∉p->(60:UInt8)∉p->∀k,k=p.length->∃w:Bs,c::q=w++(c::q).drop k/\(62:UInt8)∉w/\(60:UInt8)∉w:=λp hp h1 h2 k hk=>by
      obtain⟨z,hz⟩:=agN.1 hp
      grind
     unfold mu at BF;split at BF
     ·grind [Bj]
     split at BF
     ·grind [Bl]
     split at BF
     ·grind [nL]
     split at BF
     ·grind [jU]
     grind
    grind
   grind
  grind [acF,agq,bB,aga]
 grind

def dH (p:Bs):Bs->Option (Bs×Bs)
 |[]=>none
 |c::r=>if p.isPrefixOf (c::r) then some ([],(c::r).drop p.length) else(dH p r).map λx=>(c::x.1,x.2)
theorem iT {p:Bs}:∀{s a b:Bs},dH p s=some (a,b)->s=a++p++b
 |[],a,b,h=>by simp[dH] at h
 |c::r,a,b,h=>by
  unfold dH at h;split at h
  ·rename_i hp;obtain⟨q,hq⟩:=agN.1 hp
   grind
  obtain⟨⟨a',b'⟩,h1,h2⟩:=acF.1 h;obtain⟨rfl,rfl⟩:=h2;rw[iT h1];simp
def DN {p s a b:Bs} (hp:0<p.length) (h:dH p s=some (a,b)):b.length<s.length:=by
 rw[iT h];simp;omega
theorem vE {c:UInt8} {p:Bs}:∀(a b:Bs),c∉a->dH (c::p) (a++(c::p)++b)=some (a,b)
 |[],b,_=>by
  simp only[List.nil_append,List.cons_append,dH];simp
 |d::a,b,h=>by
  simp at h;simp only[List.cons_append,dH];rw[af8 ajV];have:=vE (c:=c) (p:=p) a b h.2;simp only[agM] at this ⊢;rw[this];rfl
theorem ia {c:UInt8}:∀{s:Bs},dH [c] s=none↔c∉s
 |[]=>by simp[dH]
 |d::r=>by
  unfold dH;by_cases e:c=d
  ·grind
  simp_all[List.isPrefixOf,ia]
theorem eU {c:UInt8}:∀{s a b:Bs},dH [c] s=some (a,b)->s=a++c::b/\c∉a
 |[],a,b,h=>by simp[dH] at h
 |d::r,a,b,h=>by
  unfold dH at h;split at h
  ·grind
  rename_i hp;obtain⟨⟨a',b'⟩,h1,h2⟩:=acF.1 h;obtain⟨rfl,rfl⟩:=h2;obtain⟨e1,e2⟩:=eU h1
  grind
theorem KJ {c:UInt8} {a b:Bs} (h:c∉a):dH [c] (a++c::b)=some (a,b):=by
 have:=vE (c:=c) (p:=[]) a b h
 grind
def Tl (T:Bs):Prop:=(∃q,T=62::q)\/∃q,T=47::62::q
def Tl.low {T:Bs} (h:Tl T):∀c q,T=c::q->aY c=false:=by
 rintro c q rfl;rcases h with⟨_,h⟩|⟨_,h⟩<;>(simp at h;rw[h.1];rfl)
def Tl.head {T:Bs} (h:Tl T):∃c q,T=c::q/\(c=62\/c=47):=by
 rcases h with⟨q,rfl⟩|⟨q,rfl⟩
 ·simp
 simp
def F6 {v:Bool}:∀(n:Nat) (x q:Bs),x.length<=n->(∀d∈x,¬jB v d)->(v=true->(34:UInt8)∉x)->bb v (x++62::q)=none:=by
 intro n;induction n with
 |zero=>
  grind [bb]
 |succ n ih=>
 intro x q hn hs hv;cases x with
 |nil=>grind
 |cons d x=>
 rw[List.cons_append,bb,af8 (hs d ajL)];split
 ·split
  ·rename_i e r he;have aF:=nU he;have FQ:∀p:Bs,(62:UInt8)∉p->p.isPrefixOf (d::(x++62::q))=true->∃y,d::x=p++y:=λp hp h=>by
    rw[<-List.cons_append,sc p (d::x) q hp] at h;obtain⟨y,hy⟩:=agN.1 h
    grind
   have key:∃p y,d::x=p++y/\r=y++62::q:=by
    have h0:∀(p:Bs) (k:Nat),k=p.length->(62:UInt8)∉p->p.isPrefixOf (d::(x++62::q))=true->(d::(x++62::q)).drop k=r->∃p y,d::x=p++y/\r=y++62::q:=λp k hk hp h hr=>by
     grind
    unfold mu at he;split at he
    ·rename_i hp;simp at he;exact h0 Bj 4 rfl ajN hp he.2
    split at he
    ·rename_i hp;simp at he;exact h0 Bl 4 rfl ajN hp he.2
    split at he
    ·rename_i hp;simp at he;exact h0 nL 5 rfl ajN hp he.2
    split at he
    ·rename_i hp;simp at he;exact h0 jU 6 rfl ajN hp he.2
    grind
   obtain⟨p,y,e1,rfl⟩:=key;have hl:y.length<=n:=by
    grind
   rw[ih y q hl (λz hz=>hs z ajV) (λHQ hz=>hv HQ (by rw[e1];simp[hz]))];rfl
  rfl
 split
 ·rfl
 rw[ih x q ajV (λz hz=>hs z akI) (λHQ hz=>hv HQ akI)];rfl
def fj (s:Bs):Option (Attr×Bs):=
 (dH [61,34] s).bind λx=>(dH [34] x.2).bind λy=>(bB true y.1).bind λv=>if named x.1=true then some (⟨x.1,v⟩,y.2) else none
def se {s r:Bs} {a:Attr} (h:fj s=some (a,r)):r.length<s.length:=by
 unfold fj at h;obtain⟨⟨n,x⟩,h1,h⟩:=afX.1 h;obtain⟨⟨y,z⟩,h2,h⟩:=afX.1 h;obtain⟨v,h3,h⟩:=afX.1 h;split at h
 ·simp at h;obtain⟨_,rfl⟩:=h;have:=DN ajL h1;have:=DN ajL h2
  grind
 grind
def sf {s n r:Bs}:ke s=some (n,r)↔named n=true/\s=n++r/\∀c q,r=c::q->aY c=false:=by
 constructor
 ·intro h;obtain⟨e,cf⟩:=kV h
  grind [ke,afZ,agq,mH,agJ,List.all_takeWhile,List.head?_dropWhile_not,aY]
 grind [Cs]
def Av {n:Bs} (hn:named n=true) {c:UInt8} (hc:aY c=false):c∉n:=λh=>by
 grind [mH]
def MH {s T : Bs} (hT : Tl T) (hs : (62 : UInt8) ∉ s) : sW (s ++ T) = (fj s).map λx => (x.1,x.2 ++ T) := by
 have val : ∀ y : Bs,(62 : UInt8) ∉ y -> ((bb true (y ++ T)).bind λz => (da [34] z.2).map λq => (z.1,q)) = (dH [34] y).bind λw => (bB true w.1).map λv => (v,w.2 ++ T) := by
   intro y hy
   cases BM : dH [34] y with
   | none =>
     rw [ia] at BM
     simp only [aib]
     cases n9 : dH [60] y with
     | some w =>
       obtain ⟨a,b⟩ := w
       obtain ⟨rfl,h1⟩ := eU n9
       have fG : ∀ d ∈ a,¬ jB true d := by
         rintro d hd (rfl | ⟨rfl,_⟩)
         · exact h1 hd
         · exact BM (by simp [hd])
       rw [show a ++ 60 :: b ++ T = a ++ 60 :: (b ++ T) by simp,n8 (.inl rfl) fG]
       cases bB true a with
       | none => rfl
       | some t => simp [da,List.isPrefixOf]
     | none =>
       rw [ia] at n9
       have fG : ∀ d ∈ y,¬ jB true d := by
         rintro d hd (rfl | ⟨rfl,_⟩)
         · exact n9 hd
         · exact BM hd
       rcases hT with ⟨q,rfl⟩ | ⟨q,rfl⟩
       · rw [F6 _ y q (af6 _) fG (λ_ => BM)]; rfl
       · rw [show y ++ 47 :: 62 :: q = (y ++ [47]) ++ 62 :: q by simp,F6 _ (y ++ [47]) q (af6 _) (by
           intro d hd
           simp only [agi,af'] at hd
           rcases hd with hd | rfl
           · exact fG d hd
           · simp) (λ_ h => by simp only [agi,af'] at h; rcases h with h | h; exact BM h; cases h)]; rfl
   | some w =>
     obtain ⟨a,b⟩ := w
     obtain ⟨rfl,h1⟩ := eU BM
     simp only [af_]
     cases n9 : dH [60] a with
     | some w =>
       obtain ⟨a1,b1⟩ := w
       obtain ⟨rfl,h2⟩ := eU n9
       have fG : ∀ d ∈ a1,¬ jB true d := by
         rintro d hd (rfl | ⟨rfl,_⟩)
         · exact h2 hd
         · exact h1 (by simp [hd])
       rw [show a1 ++ 60 :: b1 ++ 34 :: b ++ T = a1 ++ 60 :: (b1 ++ 34 :: b ++ T) by simp,n8 (.inl rfl) fG]
       have : bB true (a1 ++ 60 :: b1) = none := by
         cases h : bB true (a1 ++ 60 :: b1) with
         | none => rfl
         | some t => exact absurd ajL (MG _ _ t (af6 _) h).2
       rw [this]
       cases bB true a1 with
       | none => rfl
       | some t => simp [da,List.isPrefixOf]
     | none =>
       rw [ia] at n9
       have fG : ∀ d ∈ a,¬ jB true d := by
         rintro d hd (rfl | ⟨rfl,_⟩)
         · exact n9 hd
         · exact h1 hd
       rw [show a ++ 34 :: b ++ T = a ++ 34 :: (b ++ T) by simp,n8 (.inr ⟨rfl,rfl⟩) fG]
       cases bB true a with
       | none => rfl
       | some t => simp [da,List.isPrefixOf]
 have e1 : sW (s ++ T) = (ke (s ++ T)).bind λx => (da [61,34] x.2).bind λr => (((bb true r).bind λz => (da [34] z.2).map λq => (z.1,q))).map λw => (⟨x.1,w.1⟩,w.2) := by
   unfold sW
   congr 1; funext x
   congr 1; funext r
   cases bb true r with
   | none => rfl
   | some z => simp only [af_]; cases da [34] z.2 <;> rfl
 rw [e1]
 cases hc : dH [61,34] s with
 | some w =>
   obtain ⟨n,y⟩ := w
   have e := iT hc
   unfold fj
   rw [hc]
   simp only [af_]
   by_cases hn : named n = true
   · have h1 : ke (s ++ T) = some (n,[61,34] ++ (y ++ T)) := sf.2 ⟨hn,by rw [e]; simp,by intro c q h; simp only [List.cons_append,agY] at h; rw [<- h.1]; rfl⟩
     rw [h1]
     simp only [af_]
     rw [oW]
     simp only [af_]
     rw [val y (by intro h; exact hs (by rw [e]; simp [h]))]
     cases dH [34] y with
     | none => rfl
     | some w =>
       simp only [af_]
       cases bB true w.1 with
       | none => rfl
       | some v => simp [hn]
   · have h2 : (dH [34] y).bind (λw => (bB true w.1).bind λv => if named n = true then some ((⟨n,v⟩ : Attr),w.2) else none) = none := by
       cases dH [34] y with
       | none => rfl
       | some w => simp only [af_]; cases bB true w.1 <;> simp [hn]
     rw [h2]
     simp only [ajm]
     cases hf : ke (s ++ T) with
     | none => rfl
     | some x =>
       obtain ⟨n',r⟩ := x
       simp only [af_]
       cases ht : da [61,34] r with
       | none => rfl
       | some r' =>
         exfalso
         obtain ⟨k1,k2,k3⟩ := sf.1 hf
         unfold da at ht
         split at ht
         · rename_i hp
           obtain ⟨z,rfl⟩ := agN.1 hp
           have : dH [61,34] (s ++ T) = some (n',z) := by rw [k2,<- agM]; exact vE n' z (Av k1 rfl)
           have h3 : s ++ T = n ++ [61,34] ++ (y ++ T) := by rw [e]; simp
           have h4 : n = n' := by
             have hlen : ∀ (s a b : Bs),dH [61,34] s = some (a,b) -> ∀ t,dH [61,34] (s ++ t) = some (a,b ++ t) := by
               intro s
               induction s with
               | nil => intro a b h; simp [dH] at h
               | cons c s ih =>
                 intro a b h t
                 unfold dH at h
                 simp only [List.cons_append]
                 unfold dH
                 split at h
                 · rename_i hp
                   obtain ⟨w,hw⟩ := agN.1 hp
                   simp only [afZ,agq] at h
                   obtain ⟨rfl,rfl⟩ := h
                   rw [<- List.cons_append,<- hw]
                   rw [agc (by rw [agN,agM]; exact ⟨_,rfl⟩)]
                   simp
                 · rename_i hp
                   obtain ⟨⟨a',b'⟩,g1,g2⟩ := acF.1 h
                   simp only [agq] at g2
                   obtain ⟨rfl,rfl⟩ := g2
                   have e := iT g1
                   rw [af8,ih a' b' g1 t]
                   · rfl
                   · intro hq
                     apply hp
                     rw [e] at hq ⊢
                     cases a' with
                     | nil => simpa [List.isPrefixOf] using hq
                     | cons a0 a' => simpa [List.isPrefixOf] using hq
             have := (hlen s n y hc T).symm.trans this
             simp only [afZ,agq] at this
             exact this.1
           exact hn (h4 ▸ k1)
         · simp at ht
 | none =>
   have h2 : fj s = none := by unfold fj; rw [hc]; rfl
   rw [h2]
   simp only [ajm]
   cases hf : ke (s ++ T) with
   | none => rfl
   | some x =>
     obtain ⟨n',r⟩ := x
     simp only [af_]
     cases ht : da [61,34] r with
     | none => rfl
     | some r' =>
       exfalso
       obtain ⟨k1,k2,k3⟩ := sf.1 hf
       unfold da at ht
       split at ht
       · rename_i hp
         obtain ⟨z,rfl⟩ := agN.1 hp
         obtain ⟨c,q,hTq,DD⟩ := hT.head
         have tU : ∃ z',s = n' ++ [61,34] ++ z' := by
           have h5 := ajd.1 k2
           rcases h5 with ⟨w,h6,h7⟩ | ⟨w,h6,h7⟩
           · -- s is a part of the name
             exfalso
             cases w with
             | nil =>
               simp only [List.nil_append] at h7
               rw [hTq] at h7
               simp only [List.cons_append,agY] at h7
               rcases DD with rfl | rfl <;> simp at h7
             | cons w0 w =>
               rw [hTq] at h7
               simp only [List.cons_append,agY] at h7
               have : c ∈ n' := by rw [h6,<- h7.1]; simp
               rcases DD with rfl | rfl
               · exact Av k1 rfl this
               · exact Av k1 rfl this
           · -- w ++ T = =" ++ z
             rw [hTq] at h7
             cases w with
             | nil => simp only [List.cons_append,List.nil_append,agY] at h7; rcases DD with rfl | rfl <;> simp at h7
             | cons w0 w =>
               cases w with
               | nil => simp only [List.cons_append,List.nil_append,agY] at h7; rcases DD with rfl | rfl <;> simp at h7
               | cons w1 w =>
                 simp only [List.cons_append,List.nil_append,agY] at h7
                 exact ⟨w,by rw [h6,<- h7.1,<- h7.2.1]; simp⟩
         obtain ⟨z',hz'⟩ := tU
         have := vE (c := 61) (p := [34]) n' z' (Av k1 rfl)
         rw [<- hz',hc] at this
         cases this
       · simp at ht

def eG (m:Bs):Option (List Attr):=
 if m.all isSp then some []
 else if(m.dropWhile isSp).length=m.length then none
 else match h:fj (m.dropWhile isSp) with
  |some (a,r)=>(eG r).map λl=>a::l
  |none=>none
termination_by m.length
decreasing_by
 have:=se h;have:=gq isSp m;omega
def MI {s r:Bs} {a:Attr} (h:fj s=some (a,r)) (hs:(62:UInt8)∉s):(62:UInt8)∉r:=by
 unfold fj at h;obtain⟨⟨n,x⟩,h1,h⟩:=afX.1 h;obtain⟨⟨y,z⟩,h2,h⟩:=afX.1 h;obtain⟨v,h3,h⟩:=afX.1 h;split at h
 ·simp at h;obtain⟨_,rfl⟩:=h;have e1:=iT h1;have e2:=iT h2
  grind
 grind
theorem sg {p:UInt8->Bool}:∀{s:Bs},s.dropWhile p=[]↔∀x∈s,p x=true
 |[]=>by simp
 |c::r=>by
  by_cases h:p c=true
  ·simp[h,sg (p:=p) (s:=r)]
  simp_all
def wU {m T:Bs} (hT:Tl T):(m++T).dropWhile isSp=m.dropWhile isSp++T:=by
 induction m with
 |nil=>
  rcases hT with⟨q,rfl⟩|⟨q,rfl⟩<;>rfl
 |cons c m ih=>
 grind [isSp,ahX]
def MJ {T:Bs} (hT:Tl T):∀(n:Nat) (m:Bs),m.length<=n->(62:UInt8)∉m ->
   (∀az,eG m=some az->cW (m++T)=some (az,T)) /\
   (∀az r,cW (m++T)=some (az,r)->∃r',r=r'++T/\r' <:+ m/\(r'=[]->eG m=some az)):=by
 intro n
 induction n with
 |zero=>
   intro m hn _
   have:m=[]:=agL.1 ajK
   subst this
   have e:cW ([]++T)=some ([],T):=by
     have hd:T.dropWhile isSp=T:=by simpa using wU (m:=[]) hT
     simp_all[List.nil_append,cW,jk]
   grind [eG]
 |succ n ih=>
 intro m hn hm
 have hd:=wU (m:=m) hT
 by_cases bV:m.all isSp=true
 · have Tn:m.dropWhile isSp=[]:=by
     rw[sg]
     grind
   have e:cW (m++T)=some ([],T):=by
     rw[cW,hd,Tn,List.nil_append]
     obtain⟨c,q,rfl,hc⟩:=hT.head
     grind [jk]
   grind [eG]
 obtain⟨c,q,hcq⟩:∃c q,m.dropWhile isSp=c::q:=by
   cases h:m.dropWhile isSp with
   |nil=>
     rw[sg] at h
     grind
   |cons c q=>simp
 have Yz:m.dropWhile isSp <:+ m:=ag8 _
 have hm2:(62:UInt8)∉m.dropWhile isSp:=λh=>hm (Yz.subset h)
 have afL:c≠62:=ajV
 have stop:jk (m++T) (m.dropWhile isSp++T)=false->(eG m=none)->(∀az,eG m=some az->cW (m++T)=some (az,T)) /\
     (∀az r,cW (m++T)=some (az,r)->∃r',r=r'++T/\r' <:+ m/\(r'=[]->eG m=some az)):=by
   intro h1 h2
   refine⟨λaz h=>ajV,λaz r h=> ?_⟩
   rw[cW,hd,af8 ajV] at h
   simp at h
   obtain⟨rfl,rfl⟩:=h
   exact⟨_,rfl,Yz,λh=>by rw[hcq] at h;cases h⟩
 by_cases hl:(m.dropWhile isSp).length=m.length
 · grind [jk,eG]
 by_cases KM:c=47
 · subst KM
   refine stop ?_ ?_
   · grind [jk]
   rw[eG,af8 bV,af8 hl]
   have:fj (m.dropWhile isSp)=none:=by
     cases h:fj (m.dropWhile isSp) with
     |none=>rfl
     |some x=>
     exfalso
     obtain⟨⟨nm,x1⟩,h1,h⟩:=afX.1 h
     split at h
     · rename_i um
       have e1:=iT h1
       rw[hcq] at e1
       obtain⟨n1,n2,_⟩:=(mH _).1 um
       cases nm with
       |nil=>grind
       |cons n0 nm=>
       simp at e1
       have:=n1 n0 ajL
       rw[<-e1.1] at this;revert this;decide
     simp at h
   grind
 have aF:(m.dropWhile isSp).length<m.length:=ajV
 have yE:jk (m++T) (m.dropWhile isSp++T)=true:=by
   grind [jk]
 have h1:=MH hT hm2
 cases hr:fj (m.dropWhile isSp) with
 |none=>
   grind [eG,cW]
 |some x=>
 obtain⟨a,nx⟩:=x
 rw[hr] at h1
 have hnx:=MI hr hm2
 have hlx:=se hr
 obtain⟨i1,i2⟩:=ih nx ajK hnx
 have hsx:nx <:+ m:=by
   refine ajB ?_ Yz
   obtain⟨⟨n',x'⟩,g1,hr⟩:=afX.1 hr
   obtain⟨⟨y,z⟩,g2,hr⟩:=afX.1 hr
   obtain⟨v,g3,hr⟩:=afX.1 hr
   split at hr
   · simp at hr
     obtain⟨_,rfl⟩:=hr
     have e1:=iT g1
     have e2:=iT g2
     grind
   grind
 refine⟨λaz h=> ?_,λaz r h=> ?_⟩
 · rw[eG,af8 bV,af8 hl] at h
   split at h
   · grind [afZ,agq,acF,cW,af9]
   grind
 rw[cW,hd,agc yE] at h
 split at h
 · rename_i a2 r2 h2
   rw[h1] at h2
   obtain⟨rfl,rfl⟩:=h2
   obtain⟨⟨l,r3⟩,e1,e2⟩:=acF.1 h
   grind [eG]
 grind
def kZ (m:Bs):Option (Bs×List Attr×Bool):=
 let e:=m.getLast?==some 47
 let x:=if e then m.dropLast else m
 (eG (x.dropWhile aY)).bind λaz=>if named (x.takeWhile aY)=true then some (x.takeWhile aY,df az,e) else none
def xX (s:Bs):Option (Bs×List Attr×Bool×Bs):=
 (n5 s).bind λx=>if [47,62].isPrefixOf x.2.2 then some (x.1,df x.2.1,true,x.2.2.drop 2) else(da [62] x.2.2).map λq=>(x.1,df x.2.1,false,q)
def TQ {p:UInt8->Bool} {x T:Bs} (hT:∀c q,T=c::q->p c=false):(x++T).takeWhile p=x.takeWhile p/\(x++T).dropWhile p=x.dropWhile p++T:=by
 induction x with
 |nil=>
  cases T with
  |nil=>simp
  |cons c q=>simp_all
 |cons c x ih=>
 by_cases h:p c=true
 ·simp_all
 simp[h]
def Qg {x T:Bs} (hT:Tl T):n5 (60::(x++T))=if named (x.takeWhile aY)=true then(cW (x.dropWhile aY++T)).map λy=>(x.takeWhile aY,y.1,y.2) else none:=by
 unfold n5;have e:da [60] (60::(x++T))=some (x++T):=oW [60] (x++T);rw[e];simp;obtain⟨e1,e2⟩:=TQ (x:=x) (p:=aY) hT.low
 grind [named,aY,ke,mH,agJ,List.all_takeWhile]
def Qi (m q:Bs) (hm:(62:UInt8)∉m):xX (60::(m++62::q))=(kZ m).map λx=>(x.1,x.2.1,x.2.2,q):=by
 have step:∀(x T:Bs) (e:Bool),Tl T->(62:UInt8)∉x->(T=if e then 47::62::q else 62::q)->(e=false->x.getLast?≠some 47) ->
     xX (60::(x++T))=((eG (x.dropWhile aY)).bind λaz=>if named (x.takeWhile aY)=true then some (x.takeWhile aY,df az,e) else none).map λx=>(x.1,x.2.1,x.2.2,q):=by
   intro x T e hT hx hTe zF
   unfold xX
   rw[Qg hT]
   by_cases hn:named (x.takeWhile aY)=true
   · simp only[agc hn]
     have NT:(62:UInt8)∉x.dropWhile aY:=λh=>hx ((ag8 _).subset h)
     obtain⟨i1,i2⟩:=MJ hT _ (x.dropWhile aY) (af6 _) NT
     cases hr:eG (x.dropWhile aY) with
     |some az=>
       grind [da]
     |none=>
     simp only[aib]
     cases ha:cW (x.dropWhile aY++T) with
     |none=>rfl
     |some y=>
     obtain⟨az,r⟩:=y
     obtain⟨r',k1,k2,k3⟩:=i2 az r ha
     have cf:r'≠[]:=λh=>by rw[hr] at k3;exact absurd (k3 h) ajL
     obtain⟨c,w,rfl⟩:∃c w,r'=c::w:=by
       cases r' with
       |nil=>grind
       |cons c w=>simp
     have hc:c≠62:=by rintro rfl;exact NT (k2.subset ajL)
     have hw:(62:UInt8)∉w:=λh=>NT (k2.subset ajV)
     simp only[af9,af_,k1]
     have h1:¬[47,62].isPrefixOf (c::w++T)=true:=by
       intro h
       cases w with
       |cons d w=>grind
       |nil=>
       cases e with
       |true=>grind
       |false=>
       simp at hTe
       subst hTe
       simp at h
       have hs:[c] <:+ x:=k2.trans (ag8 _)
       obtain⟨z,hz⟩:=hs
       grind
     grind [da,List.isPrefixOf]
   simp only[af8 hn]
   cases eG (x.dropWhile aY)<;>rfl
 unfold kZ
 by_cases he:m.getLast?=some 47
 · have ED:m=m.dropLast++[47]:=by
     have cf:m≠[]:=ajV
     have h:=aiv cf
     grind
   have:=step m.dropLast (47::62::q) true (.inr ⟨q,rfl⟩) (λh=>hm ajV) rfl ajL
   grind
 have hb:(m.getLast?==some 47)=false:=ajV
 simp only[hb,agk]
 exact step m (62::q) false (.inl ⟨q,rfl⟩) hm rfl (λ_=>he)
def IJ:∀(n:Nat) (s:Bs) (l:List Attr) (r:Bs),s.length<=n->cW s=some (l,r)->r <:+ s:=by
 intro n;induction n with
 |zero=>
  simp_all[agL,cW,jk,List.suffix_refl]
 |succ n ih=>
 intro s l r hn h;rw[cW] at h;have h0:=gq isSp s;split at h
 ·split at h
  ·rename_i a q ha;have h1:=zU ha;obtain⟨⟨l',r'⟩,h2,h3⟩:=acF.1 h;obtain⟨rfl,rfl⟩:=h3;have k1:=ih q l' r' ajK h2;refine k1.trans (ajB ?_ (ag8 isSp (l:=s)));obtain⟨⟨n1,r1⟩,g1,ha⟩:=afX.1 ha;obtain⟨r2,g2,ha⟩:=afX.1 ha;obtain⟨⟨v,r3⟩,g3,ha⟩:=afX.1 ha;obtain⟨r4,g4,ha⟩:=acF.1 ha;obtain⟨rfl,rfl⟩:=ha;have tk:∀{p s r:Bs},da p s=some r->r <:+ s:=by
    simp[da,afZ,List.drop_suffix]
   have tx:∀(n:Nat) (s t r:Bs),s.length<=n->bb true s=some (t,r)->r <:+ s:=by
    intro n;induction n with
    |zero=>
     grind [sd]
    |succ n ihx=>
    intro s t r hn h;cases s with
    |nil=>grind
    |cons c q=>
    rw[bb] at h;split at h
    ·grind
    split at h
    ·split at h
     ·rename_i e q' he;have aF:=nU he;obtain⟨⟨t',r'⟩,w1,w2⟩:=acF.1 h;simp at w2;obtain⟨_,rfl⟩:=w2;exact(ihx q' t' r' ajV w1).trans (F5 he)
     grind
    grind [w1,acF,agq,List.suffix_cons]
   obtain⟨e1,_⟩:=kV g1
   grind
  grind
 grind [afZ,agq,ag8]
def IK {s:Bs} (hs:(62:UInt8)∉s):xX s=none:=by
 unfold xX
 cases h:n5 s with
 |none=>rfl
 |some x=>
 obtain⟨nm,az,r⟩:=x
 obtain⟨r1,h1,h⟩:=afX.1 h
 obtain⟨⟨n,r2⟩,h2,h⟩:=afX.1 h
 obtain⟨⟨l,r3⟩,h3,h⟩:=acF.1 h
 obtain⟨rfl,rfl,rfl⟩:=h
 have hr:r3 <:+ s:=by
   refine(IJ _ _ _ _ (af6 _) h3).trans ?_
   obtain⟨e1,_⟩:=kV h2
   grind [da,afZ,List.drop_suffix,List.suffix_append]
 have hr3:(62:UInt8)∉r3:=λh=>hs (hr.subset h)
 simp only[af_]
 rw[af8]
 · have:da [62] r3=none:=by
     unfold da
     rw[af8]
     intro h
     obtain⟨z,rfl⟩:=agN.1 h
     grind
   grind
 intro h
 obtain⟨z,rfl⟩:=agN.1 h
 grind
def sY (d:Nat) (s:Bs):aV (d+1) s=(xX s).bind λx=>if x.2.2.1 then some (.mk false x.1 x.2.1 [],x.2.2.2) else(cF (aV d) x.2.2.2).bind λy=>(jl x.1 y.2).map λq=>(.mk false x.1 x.2.1 y.1,q):=by
 grind [aV,xX,da]

def cu (s:Bs):Option (List Bs):=
 match s with
 |[]=>some []
 |c::q=>
  if c=60 then match h:dH [62] (c::q) with
   |some (a,b)=>(cu b).map λl=>(a++[62])::l
   |none=>none
  else(cu ((c::q).dropWhile λx=> !(x==60))).map λl=>((c::q).takeWhile λx=> !(x==60))::l
termination_by s.length
decreasing_by
 ·exact DN ajL h
 rename_i h;have:=gq (λx=> !(x==60)) q;simp[ahX,h];omega
def nn (s:Bs):Bs:=(s.reverse.dropWhile isSp).reverse
def Tree.bS (x:Tree) (ks:List Tree):Tree:= .mk x.text x.s x.attrs (x.kids++ks)
def fk (o:List Tree) (m:Bs):Option (List Tree):=
 match o with
 |[]=>none
 |top::rest=>
  if m.head?≠some 60 then(bB false m).map λv=>top.bS [.mk true v [] []]::rest
  else if [60,47].isPrefixOf m then match rest with
   |[]=>none
   |up::rest=>if nn (m.drop 2).dropLast=top.s then some (up.bS [top]::rest) else none
  else(kZ (m.drop 1).dropLast).bind λx=>if 8<(top::rest).length then none else
   if x.2.2 then some (top.bS [.mk false x.1 x.2.1 []]::rest) else some (.mk false x.1 x.2.1 []::top::rest)
def Qj (o:List Tree):Option (List Tree):=match o with
 |[b]=>some b.kids
 |_=>none
def runs (o:List Tree) (s:Bs):Option (List Tree):=(cu s).bind λl=>(l.foldlM fk o).bind Qj
def jN:Tree:= .mk false [] [] []
def lv (s:Bs):Option (List Tree):=runs [jN] s
theorem F7 (o:List Tree):runs o []=Qj o:=by unfold runs;rw[cu];rfl
def wV {o:List Tree} {q a b:Bs} (h:dH [62] (60::q)=some (a,b)):runs o (60::q)=(fk o (a++[62])).bind λo'=>runs o' b:=by
 unfold runs;rw[cu,agc rfl];split
 ·rename_i a' b' h';rw[h] at h';obtain⟨rfl,rfl⟩:=h';cases cu b with
  |none=>simp
  |some l=>grind
 grind
def tV {o:List Tree} {q:Bs} (h:dH [62] (60::q)=none):runs o (60::q)=none:=by
 grind [runs,cu]
def MK {o:List Tree} {c:UInt8} {q:Bs} (h:c≠60):runs o (c::q)=(fk o ((c::q).takeWhile λx=> !(x==60))).bind λo'=>runs o' ((c::q).dropWhile λx=> !(x==60)):=by
 unfold runs;rw[cu,af8 h];cases cu ((c::q).dropWhile λx=> !(x==60)) with
 |none=>simp
 |some l=>grind
def q8 (x:Tree):x.bS []=x:=by cases x;simp[Tree.bS,Tree.text,Tree.s,Tree.attrs,Tree.kids]
def q9 (x:Tree) (a b:List Tree):(x.bS a).bS b=x.bS (a++b):=by simp[Tree.bS,Tree.text,Tree.s,Tree.attrs,Tree.kids]
def Qk {nm:Bs} (h:named nm=true):∀c∈nm,isSp c=false:=λc hc=>by
 grind [mH,aY,isSp]
theorem ML {nm sp:Bs} (h:named nm=true) (hs:∀c∈sp,isSp c=true):nn (nm++sp)=nm:=by
 unfold nn;rw[List.reverse_append,(mI sp.reverse nm.reverse ajV (by
  intro c q hq;have hm:c∈nm.reverse:=ajV
  exact Qk h c ajV)).2]
 simp
def F8 (w:Bs):∃sp,w=nn w++sp/\∀c∈sp,isSp c=true:=by
 refine⟨(w.reverse.takeWhile isSp).reverse,?_,λc hc=> ?_⟩
 ·grind [nn,List.reverse_append,ahm,List.reverse_reverse]
 grind [agJ,List.all_takeWhile]
def MM {nm w b:Bs} (hn:named nm=true) (hw:(62:UInt8)∉w):jl nm ([60,47]++(w++62::b))=if nn w=nm then some b else none:=by
 by_cases h:nn w=nm
 ·rw[agc h];obtain⟨sp,e,hs⟩:=F8 w;rw[h] at e;subst e;unfold jl;rw[oW];simp only[af_];have hl:ke (nm++sp++62::b)=some (nm,sp++62::b):=by
   rw[agM];refine Cs hn ?_;intro c q hq;cases sp with
   |nil=>simp at hq;rw[<-hq.1];rfl
   |cons d sp=>
   simp at hq;have:=hs d ajL;rw[hq.1] at this;simp[isSp,ahu,ag9] at this;rcases this with rfl|rfl<;>rfl
  rw[hl];simp;rw[(mI sp (62::b) hs (by intro c q hq;simp at hq;rw[<-hq.1];rfl)).2];rfl
 rw[af8 h];cases hc:jl nm ([60,47]++(w++62::b)) with
 |none=>rfl
 |some q=>
 exfalso;apply h;unfold jl at hc;rw[oW] at hc;simp at hc;obtain⟨⟨n,r⟩,h1,h2⟩:=afX.1 hc;split at h2
 ·rename_i um;subst um;obtain⟨k1,k2,k3⟩:=sf.1 h1;have hr:r=w.drop n.length++62::b/\w=n++w.drop n.length:=by
   rcases ajd.1 k2 with⟨z,h6,h7⟩|⟨z,h6,h7⟩
   ·cases z with
    |nil=>grind
    |cons z0 z=>
     simp at h7;exfalso;exact Av k1 (c:=62) rfl ajV
   grind
  obtain⟨e1,e2⟩:=hr;have hd:(w.drop n.length).dropWhile isSp=[]:=by
   have hT:Tl (62::b):= .inl ⟨b,rfl⟩;rw[e1] at h2;rw[wU hT] at h2;cases hx:(w.drop n.length).dropWhile isSp with
   |nil=>rfl
   |cons c z=>
   grind [da,List.isPrefixOf,ag8,isSp]
  grind [ML,sg]
 grind
def CD {el:Bs->Option (Tree×Bs)}:∀(n:Nat) (s:Bs) (ks:List Tree) (r:Bs),s.length<=n->cF el s=some (ks,r)->r.length<=s.length/\(r=[]\/∃q,r=60::47::q):=by
 intro n;induction n with
 |zero=>
  grind [agL,cF]
 |succ n ih=>
 intro s l r hn h;cases s with
 |nil=>grind
 |cons c q=>
 rw[cF] at h;split at h
 ·rename_i hp;simp at h;obtain⟨rfl,rfl⟩:=h;refine⟨af6 _,.inr ?_⟩;obtain⟨z,hz⟩:=agN.1 hp
  grind
 grind [acF,agq]
theorem F9 {d:Nat} {s r:Bs} {t:Tree} (h:aV d s=some (t,r)):r.length<s.length:=by
 have h1:=py d s t r h;have h2:=t.dL;omega
def F_ {d:Nat} {q:Bs} (h:¬[60,47].isPrefixOf (60::q)=true):cF (aV d) (60::q)=(aV d (60::q)).bind λx=>(cF (aV d) x.2).map λy=>(x.1::y.1,y.2):=by
 grind [cF,aV,F9]
def DO {m nm:Bs} {az:List Attr} {e:Bool} (h:kZ m=some (nm,az,e)):named nm=true:=by
 grind [kZ,afX,named,aY,afZ,agq]
def MN {p s r:Bs} (h:da p s=some r):s=p++r:=by
 unfold da at h;split at h
 ·rename_i hp;obtain⟨q,rfl⟩:=agN.1 hp
  grind
 grind
theorem MO : ∀ (n : Nat) (s : Bs),s.length <= n -> ∀ (d : Nat) (top : Tree) (rest : List Tree),rest.length + d = 8 ->
   runs (top :: rest) s = match cF (aV d) s with
     | none => none
     | some (ks,r) => runs (top.bS ks :: rest) r := by
 intro n
 induction n with
 | zero =>
   intro s hn d top rest hd
   have : s = [] := agL.1 ajK
   subst this
   rw [cF]; simp only [q8]
 | succ n ih =>
   intro s hn d top rest hd
   cases s with
   | nil => rw [cF]; simp only [q8]
   | cons c q =>
     by_cases hc : c = 60
     · subst hc
       by_cases hp : [60,47].isPrefixOf (60 :: q) = true
       · rw [cF,agc hp]; simp only [q8]
       · rw [F_ hp]
         cases Bt : dH [62] (60 :: q) with
         | none =>
           rw [tV Bt]
           have Eu := ia.1 Bt
           have : aV d (60 :: q) = none := by
             cases d with
             | zero => rfl
             | succ d => rw [sY,IK Eu]; rfl
           rw [this]; rfl
         | some x =>
           obtain ⟨a,b⟩ := x
           rw [wV Bt]
           obtain ⟨e,ha⟩ := eU Bt
           obtain ⟨m,rfl⟩ : ∃ m,a = 60 :: m := by
             cases a with
             | nil => simp at e
             | cons a0 m => simp only [List.cons_append,agY] at e; exact ⟨m,by rw [<- e.1]⟩
           have hm : (62 : UInt8) ∉ m := λh => ha (by simp [h])
           have hq : q = m ++ 62 :: b := by simpa using e
           have hpm : ¬ [60,47].isPrefixOf (60 :: m ++ [62]) = true := by
             intro h
             apply hp
             rw [hq]
             cases m with
             | nil => simp [List.isPrefixOf] at h
             | cons m0 m => simp [List.isPrefixOf] at h ⊢; exact h
           have ka : fk (top :: rest) (60 :: m ++ [62]) = (kZ m).bind λx => if 8 < (top :: rest).length then none else
               if x.2.2 then some (top.bS [.mk false x.1 x.2.1 []] :: rest) else some (.mk false x.1 x.2.1 [] :: top :: rest) := by
             unfold fk
             simp only
             rw [af8 ajL,af8 hpm]
             simp
           rw [ka]
           have hb : b.length < (60 :: q).length := by rw [hq]; simp; omega
           cases d with
           | zero =>
             have : 8 < (top :: rest).length := by simp; omega
             simp only [agc this,aV]
             cases kZ m <;> rfl
           | succ d =>
             have h8 : ¬ 8 < (top :: rest).length := by simp; omega
             simp only [af8 h8]
             rw [sY]
             have hh : xX (60 :: q) = (kZ m).map λx => (x.1,x.2.1,x.2.2,b) := by rw [hq]; exact Qi m b hm
             rw [hh]
             cases hbg : kZ m with
             | none => rfl
             | some x =>
               obtain ⟨nm,az,en⟩ := x
               simp only [af_,af9]
               have um : named nm = true := DO hbg
               cases en with
               | true =>
                 simp only [agn,af_]
                 rw [ih b (by simp at hn hb; omega) (d + 1) _ rest hd]
                 cases cF (aV (d + 1)) b with
                 | none => rfl
                 | some y => obtain ⟨ks,r⟩ := y; simp only [af9,q9,ahE]
               | false =>
                 simp only [agl,agk,af_]
                 rw [ih b (by simp at hn hb; omega) d (.mk false nm az []) (top :: rest) anA]
                 cases hk : cF (aV d) b with
                 | none => rfl
                 | some y =>
                   obtain ⟨ks,r2⟩ := y
                   simp only [af_]
                   obtain ⟨uj,YA⟩ := CD _ _ _ _ (af6 _) hk
                   rcases YA with rfl | ⟨w0,rfl⟩
                   · rw [F7]
                     have : jl nm [] = none := rfl
                     rw [this]; rfl
                   · cases KO : dH [62] (60 :: 47 :: w0) with
                     | none =>
                       rw [tV KO]
                       have Eu := ia.1 KO
                       have : jl nm (60 :: 47 :: w0) = none := by
                         cases hc : jl nm (60 :: 47 :: w0) with
                         | none => rfl
                         | some q' =>
                           exfalso
                           unfold jl at hc
                           obtain ⟨r1,g1,Lv⟩ := afX.1 hc
                           obtain ⟨⟨n1,r3⟩,g2,DD⟩ := afX.1 Lv
                           split at DD
                           · have e1 : r1 = w0 := by have := oW [60,47] w0; simp only [List.cons_append,List.nil_append] at this; rw [this] at g1; simpa using g1.symm
                             subst e1
                             obtain ⟨g3,_⟩ := kV g2
                             have hz := MN DD
                             have : (62 : UInt8) ∈ r3 := (ag8 isSp).subset (by rw [hz]; simp)
                             exact Eu (by rw [g3]; simp [this])
                           · simp at DD
                       rw [this]; rfl
                     | some x2 =>
                       obtain ⟨a2,b2⟩ := x2
                       rw [wV KO]
                       obtain ⟨e2,ha2⟩ := eU KO
                       obtain ⟨w,rfl⟩ : ∃ w,a2 = 60 :: 47 :: w := by
                         cases a2 with
                         | nil => simp at e2
                         | cons a0 a2 =>
                           simp only [List.cons_append,agY] at e2
                           cases a2 with
                           | nil => simp at e2
                           | cons a1 a2 => simp only [List.cons_append,agY] at e2; exact ⟨a2,by rw [<- e2.1,<- e2.2.1]⟩
                       have hw : (62 : UInt8) ∉ w := λh => ha2 (by simp [h])
                       have yn : w0 = w ++ 62 :: b2 := by simpa using e2
                       have yA : jl nm (60 :: 47 :: w0) = if nn w = nm then some b2 else none := by rw [yn]; exact MM um hw
                       have Ql : fk ((Tree.mk false nm az []).bS ks :: top :: rest) (60 :: 47 :: w ++ [62]) = if nn w = nm then some (top.bS [(Tree.mk false nm az []).bS ks] :: rest) else none := by
                         unfold fk
                         simp only
                         rw [af8 ajL,agc (by simp [List.isPrefixOf])]
                         simp [Tree.bS,Tree.s]
                       rw [Ql,yA]
                       by_cases ht : nn w = nm
                       · simp only [agc ht,af_,af9]
                         have pr : b2.length < (60 :: 47 :: w0).length := by rw [yn]; simp; omega
                         rw [ih b2 (by simp at hn hb pr uj; omega) (d + 1) _ rest hd]
                         cases cF (aV (d + 1)) b2 with
                         | none => rfl
                         | some y =>
                           obtain ⟨ks2,r⟩ := y
                           simp only [af9,q9,ahE]
                           rfl
                       · simp only [af8 ht]; rfl
     · -- a text
       rw [MK hc]
       have tU : (c :: q).takeWhile (λx => !(x == 60)) ++ (c :: q).dropWhile (λx => !(x == 60)) = c :: q := ahm
       have fG : ∀ d ∈ (c :: q).takeWhile (λx => !(x == 60)),¬ jB false d := by
         intro d hd
         have := agJ.1 List.all_takeWhile d hd
         rintro (rfl | ⟨_,h⟩)
         · simp at this
         · cases h
       have cf : (c :: q).takeWhile (λx => !(x == 60)) = c :: q.takeWhile (λx => !(x == 60)) := by simp [aif,hc]
       have ka : fk (top :: rest) ((c :: q).takeWhile λx => !(x == 60)) = (bB false ((c :: q).takeWhile λx => !(x == 60))).map λv => top.bS [.mk true v [] []] :: rest := by
         unfold fk
         rw [cf]
         simp only
         rw [agc (by simp [hc])]
       rw [ka]
       have DP : bb false (c :: q) = (bB false ((c :: q).takeWhile λx => !(x == 60))).map λt => (t,(c :: q).dropWhile λx => !(x == 60)) := by
         cases hd : (c :: q).dropWhile (λx => !(x == 60)) with
         | nil =>
           rw [hd,agb] at tU
           rw [tU] at fG ⊢
           exact DM fG
         | cons e r =>
           have he : e = 60 := by
             have := List.head?_dropWhile_not (λx : UInt8 => !(x == 60)) (c :: q)
             rw [hd] at this; simpa using this
           subst he
           rw [hd] at tU
           conv => lhs; rw [<- tU]
           exact n8 (.inl rfl) fG r
       rw [cF,af8 (by simp [List.isPrefixOf,agQ hc]),af8 hc,DP]
       cases bB false ((c :: q).takeWhile λx => !(x == 60)) with
       | none => rfl
       | some v =>
         simp only [af9,af_]
         have aF : ((c :: q).dropWhile λx => !(x == 60)).length < (c :: q).length := by
           have := ahp List.length tU
           rw [age,cf] at this
           simp at this ⊢; omega
         rw [ajI aF,ih _ ajK d _ rest hd]
         cases cF (aV d) ((c :: q).dropWhile λx => !(x == 60)) with
         | none => rfl
         | some y => obtain ⟨ks,r⟩ := y; simp only [af9,q9,ahE]
theorem pJ (s:Bs):lv s=match cF (aV 8) s with
  |some (ks,[])=>some ks
  |_=>none:=by
 unfold lv;rw[MO _ s (af6 _) 8 jN [] rfl];cases hk:cF (aV 8) s with
 |none=>rfl
 |some y=>
 obtain⟨ks,r⟩:=y;obtain⟨_,hr⟩:=CD _ _ _ _ (af6 _) hk;rcases hr with rfl|⟨q,rfl⟩
 ·grind [F7,Qj,Tree.bS,Tree.kids,jN]
 simp only;cases hc:dH [62] (60::47::q) with
 |none=>rw[tV hc]
 |some x=>
 obtain⟨a,b⟩:=x;rw[wV hc];obtain⟨e,ha⟩:=eU hc;have:fk [jN.bS ks] (a++[62])=none:=by
  cases a with
  |nil=>grind
  |cons a0 a=>
  simp at e;cases a with
  |nil=>grind
  |cons a1 a=>
  grind [fk]
 grind
end Go.Am
