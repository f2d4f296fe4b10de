import Derived.Test.YtfeijflhfhkbnaaGreatDoorKAm34
import Derived.Test.YtfeijflhfhkbnaaGreatDoorKT21
import Derived.Test.YtfeijflhfhkbnaaGreatDoorKP2
import Derived.Laws.Externs
import Derived.Test.YtfeijflhfhkbnaaGreatDoorKAm25
set_option linter.all false
/- THE ABSTRACT MACHINE, part 40: functions that are handed a row of data by a slice. -/
namespace Go.Am
open Go Go.RowKit
def df (sz:Nat) (xs:List IV):Hp:=bD Hp.none (.par 0) (.live ⟨sz,aB xs⟩)
def abu {p:Prop} (h:p:=by simp[df];rfl):p:=h
def ig (P:Program) (G:Nat->Option (List IV)) (f:Nat) (args:List AV) (sz:Nat) (xs:List IV) (R:AV->List IV->Prop):Prop:=
 (∀l∈ah args,l= .par 0)/\ey P G f args (df sz xs) λx H'=>∃nN,R x nN/\x.an=[]/\nN.length=xs.length/\H' (.par 0)= .live ⟨sz,aB nN⟩
def cT {S:St} {f:Nat} {args U6:List AV} {sz:Nat} {xs:List IV} {R:AV->List IV->Prop} {H:Hp} {k:AV->Hp->Prop} {u:Tw k} {l:Lb} (h:ig S.P S.G f U6 sz xs R)
  (ha:args=bu (ft l) U6) (hl:H l= .live ⟨sz,aB xs⟩) (hk:∀x nN,R x nN->x.an=[]->nN.length=xs.length->k x (bD H l (.live ⟨sz,aB nN⟩))):C7 S f args H k u:=by
 obtain⟨h1,h3⟩:=h;have aK:∀q r,df sz xs q= .live r->q= .par 0/\r=⟨sz,aB xs⟩:=by
  intro q r h;by_cases e:q= .par 0
  ·subst e;simp[df] at h;exact⟨rfl,h.symm⟩
  rw[df,aq _ _ e] at h;simp[Hp.none] at h
 refine .inr<| .inr ⟨⟨ft l,df sz xs,U6,_,h3.cX (λq=>q= .par 0),ha,?_,?_,?_,?_,?_,?_,?_⟩⟩
 ·intro q r h;obtain⟨rfl,rfl⟩:=aK q r h;rw[dy];simp only[ft,Rc,hl]
 ·intro q hq;by_cases e:q= .par 0
  ·subst e;exact⟨_,abu⟩
  rw[df,aq _ _ e] at hq;simp[Hp.none] at hq
 ·rintro q q' ⟨r,h⟩ ⟨r',h'⟩ _;rw[(aK q r h).1,(aK q' r' h').1]
 ·intro q hq;rw[h1 q hq];simp[df]
 ·rintro q ⟨r,h⟩;rw[(aK q r h).1];rfl
 ·intro q r h c hc z hz;obtain⟨rfl,rfl⟩:=aK q r h;rw[bU hc] at hz;simp at hz
 rintro x H' ⟨H1,⟨nN,e1,e2,e4,e5⟩,rfl⟩;have hH:∀q r,asG (λq=>q= .par 0) H1 q= .live r->q= .par 0/\r=⟨sz,aB nN⟩:=by
  intro q r h;obtain⟨g1,rfl⟩:=dH.1 h;rw[e5] at g1;cases g1;exact⟨rfl,rfl⟩
 have EY:asG (λq=>q= .par 0) H1 (.par 0)= .live ⟨sz,aB nN⟩:=dH.2 ⟨e5,rfl⟩;refine⟨ft l,bD H l (.live ⟨sz,aB nN⟩),λ_ _ _=>rfl,?_,?_,?_,?_,?_,?_,?_,?_⟩
 ·intro q r h;by_cases e:q=l
  ·subst e;simp at h;refine .inr ⟨.par 0,_,EY,by simp[ft],?_⟩;rw[<-h,dy]
  rw[aq _ _ e] at h;refine .inl ⟨h,?_⟩;rintro z ⟨r',hz⟩;rw[(aK z r' hz).1];simp only[ft,Rc];exact Ss e
 ·rintro q q' ⟨r,h⟩ ⟨r',h'⟩ _;rw[(hH q r h).1,(hH q' r' h').1]
 ·intro q hq;by_cases e:q=l
  ·subst e;simp
  rw[aq _ _ e];exact hq
 ·intro q hq;rw[e2] at hq;simp at hq
 ·intro q r h c hc z hz;obtain⟨rfl,rfl⟩:=hH q r h;rw[bU hc] at hz;simp at hz
 ·rintro q ⟨r,h⟩;obtain⟨rfl,rfl⟩:=hH q r h;exact .inl ⟨_,abu⟩
 ·rintro q (hq|⟨l1,r1,c,g1,g2,g3⟩) _
  ·rw[e2] at hq;simp at hq
  obtain⟨rfl,rfl⟩:=hH l1 r1 g1;rw[bU g2] at g3;simp at g3
 rw[j8 _ _ e2];exact hk x nN e1 e2 e4
def al7 {P:Program} {G:Nat->Option (List IV)} {f:Nat} {n:Nat} {rs:List RO} {ac:AC} {args:List AV} {sz:Nat} {xs:List IV} {R:AV->List IV->Prop}
  (hF:aw P G f=some (n,rs,ac.bare)) (hn:args.length<=n) (ha:∀l∈ah args,l= .par 0)
  (hg:go ⟨P,G,n⟩ (fX rs λx H'=>∃nN,R x nN/\x.an=[]/\nN.length=xs.length/\H' (.par 0)= .live ⟨sz,aB nN⟩) [.code ac] (jP args) (df sz xs)):ig P G f args sz xs R:=by
 refine⟨ha,WY hF hn ?_ ?_ hg⟩
 ·rintro l ⟨r,h⟩;by_cases e:l= .par 0
  ·subst e;rfl
  rw[df,aq _ _ e] at h;simp[Hp.none] at h
 intro l hl;rw[ha l hl];simp[df]
def ig.mono {P:Program} {G:Nat->Option (List IV)} {f:Nat} {args:List AV} {sz:Nat} {xs:List IV} {R R':AV->List IV->Prop} (h:ig P G f args sz xs R) (hq:∀x c,R x c->R' x c):ig P G f args sz xs R':=
 ⟨h.1,h.2.mono λx H ⟨c,h1,h2⟩=>⟨c,hq _ _ h1,h2⟩⟩

def ey.GI {P:Program} {G:Nat->Option (List IV)} {f:Nat} {args:List AV} {H:Hp} {Q:AV->Hp->Prop} (h:ey P G f args H Q) (kp:AV->Lb->Prop) :
  ey P G f args H λx H'=>∃H1,Q x H1/\H'=asG (kp x) H1:=by
 intro w A β vs hr hv;refine(h w A β vs hr hv).mono ?_;rintro e w' ⟨v,x,H1,β',rfl,hq,lz,hx,hm⟩;exact⟨v,x,asG (kp x) H1,β',rfl,⟨H1,hq,rfl⟩,lz.asG _,hx.asG _,λl hl=>by rw[Ne,N9];exact hm l hl⟩
def tq (P:Program) (G:Nat->Option (List IV)) (sz f:Nat) (args:List AV) (xs ys:List IV):Prop:=
 (∀l∈ah args,l= .par 0)/\ey P G f args (df sz xs) λx H'=>∃L,x= .sl L sz 0 ys.length/\H' L= .live ⟨sz,aB ys⟩
def mI {S:St} {f:Nat} {args U6:List AV} {sz:Nat} {xs ys:List IV} {H:Hp} {k:AV->Hp->Prop} {u:Tw k} {l N:Lb} (h:tq S.P S.G sz f U6 xs ys)
  (ha:args=bu (ft l) U6) (hl:H l= .live ⟨sz,aB xs⟩) (hN:H N= .unused) (Jc:N.fresh=true->l.fresh=true)
  (Jd:k (.sl N sz 0 ys.length) (bD (bD H l .dead) N (.live ⟨sz,aB ys⟩))) (FA:k (.sl l sz 0 ys.length) (bD (bD H l .dead) l (.live ⟨sz,aB ys⟩))):C7 S f args H k u:=by
 obtain⟨h1,h3⟩:=h;have aK:∀q r,df sz xs q= .live r->q= .par 0/\r=⟨sz,aB xs⟩:=by
  intro q r h;by_cases e:q= .par 0
  ·subst e;simp[df] at h;exact⟨rfl,h.symm⟩
  rw[df,aq _ _ e] at h;simp[Hp.none] at h
 have Lv:H l≠ .unused:=by rw[hl];simp
 have Mz:N≠l:=by rintro rfl;exact Lv hN
 refine .inr<| .inr ⟨⟨ft l,df sz xs,U6,_,h3.GI (λx q=>q∈x.an),ha,?_,?_,?_,?_,?_,?_,?_⟩⟩
 ·intro q r h;obtain⟨rfl,rfl⟩:=aK q r h;rw[dy];simp only[ft,Rc,hl]
 ·intro q hq;by_cases e:q= .par 0
  ·subst e;exact⟨_,abu⟩
  rw[df,aq _ _ e] at hq;simp[Hp.none] at hq
 ·rintro q q' ⟨r,h⟩ ⟨r',h'⟩ _;rw[(aK q r h).1,(aK q' r' h').1]
 ·intro q hq;rw[h1 q hq];simp[df]
 ·rintro q ⟨r,h⟩;rw[(aK q r h).1];rfl
 ·intro q r h c hc z hz;obtain⟨rfl,rfl⟩:=aK q r h;rw[bU hc] at hz;simp at hz
 rintro x H' ⟨H1,⟨L,rfl,e5⟩,rfl⟩;obtain⟨L1,Je⟩:∃L1,L1=(if L= .par 0 then l else N):=⟨_,rfl⟩;have oN:∀q,q∈(AV.sl L sz 0 ys.length).an↔q=L:=λq=>by simp[AV.an]
 have hH:∀q r,asG (λq=>q∈(AV.sl L sz 0 ys.length).an) H1 q= .live r->q=L/\r=⟨sz,aB ys⟩:=by
  intro q r h;obtain⟨g1,g2⟩:=dH.1 h;rw[oN] at g2;subst g2;rw[e5] at g1;cases g1;exact⟨rfl,rfl⟩
 have EY:asG (λq=>q∈(AV.sl L sz 0 ys.length).an) H1 L= .live ⟨sz,aB ys⟩:=dH.2 ⟨e5,(oN L).2 rfl⟩;have hρ:(λq=>if q=L then L1 else q) L=L1:=tM
 have GJ:∀q,H q≠ .unused->bD (bD H l .dead) L1 (.live ⟨sz,aB ys⟩) q≠ .unused:=by
  intro q hq;by_cases e:q=L1
  ·subst e;simp
  rw[aq _ _ e];by_cases e2:q=l
  ·subst e2;simp
  rw[aq _ _ e2];exact hq
 refine⟨λq=>if q=L then L1 else q,bD (bD H l .dead) L1 (.live ⟨sz,aB ys⟩),?_,?_,?_,GJ,?_,?_,?_,?_,?_⟩
 ·rintro q ⟨r,g1⟩ ⟨r',g2⟩;have e1:=(aK q r g1).1;have e2:=(hH q r' g2).1;subst e1;subst e2;simp only[Rc,Je,ft]
 ·intro q r h;by_cases e:q=L1
  ·subst e;simp at h;refine .inr ⟨L,_,EY,tM,?_⟩;rw[<-h,dy]
  rw[aq _ _ e] at h;by_cases e2:q=l
  ·subst e2;simp at h
  rw[aq _ _ e2] at h;refine .inl ⟨h,?_⟩;rintro z ⟨r',hz⟩;rw[(aK z r' hz).1];simp only[ft,Rc];exact Ss e2
 ·rintro q q' ⟨r,h⟩ ⟨r',h'⟩ _;rw[(hH q r h).1,(hH q' r' h').1]
 ·intro q hq;rw[oN] at hq;subst hq;simp
 ·intro q r h c hc z hz;obtain⟨rfl,rfl⟩:=hH q r h;rw[bU hc] at hz;simp at hz
 ·rintro q ⟨r,h⟩;obtain⟨rfl,rfl⟩:=hH q r h;by_cases e:q= .par 0
  ·subst e;exact .inl ⟨_,abu⟩
  right;simp only[Rc,Je,Ev e];refine⟨hN,λhf=> .inr ?_⟩;rintro z ⟨r',hz⟩;rw[(aK z r' hz).1];simp only[ft,Rc];exact Jc hf
 ·rintro q (hq|⟨l1,r1,c,g1,g2,g3⟩) _
  ·rw[oN] at hq;subst hq;exact⟨_,EY⟩
  obtain⟨rfl,rfl⟩:=hH l1 r1 g1;rw[bU g2] at g3;simp at g3
 simp only[bJ,Rc];rw[Je];split
 ·exact FA
 exact Jd
def Bg {S:St} {F:List Lb} {sz f:Nat} {args U6:List AV} {xs ys:List IV} {H:Hp} {k:AV->Hp->Prop} {u:Tw k} {l N:Lb} (h:tq S.P S.G sz f U6 xs ys)
  (ha:args=bu (ft l) U6) (hl:H l= .live ⟨sz,aB xs⟩) (hN:H N= .unused) (Jc:N.fresh=true->l.fresh=true) (h1:l.iQ∉F) (h2:N.iQ∉F)
  (Jd:k (.sl N sz 0 ys.length) (bD (bD H l .dead) N (.live ⟨sz,aB ys⟩))) (FA:k (.sl l sz 0 ys.length) (bD (bD H l .dead) l (.live ⟨sz,aB ys⟩))):DX S F f args H k u:=by
 refine⟨λx H'=>(x= .sl N sz 0 ys.length/\H'=bD (bD H l .dead) N (.live ⟨sz,aB ys⟩))\/(x= .sl l sz 0 ys.length/\H'=bD (bD H l .dead) l (.live ⟨sz,aB ys⟩)),?_,⟨_,_,.inl ⟨rfl,rfl⟩⟩,?_⟩
 ·exact mI (k:=λx H'=>(x= .sl N sz 0 ys.length/\H'=bD (bD H l .dead) N (.live ⟨sz,aB ys⟩))\/(x= .sl l sz 0 ys.length/\H'=bD (bD H l .dead) l (.live ⟨sz,aB ys⟩))) (u:= .mk) h ha hl hN Jc (.inl ⟨rfl,rfl⟩) (.inr ⟨rfl,rfl⟩)
 have key:∀q:Lb,q.iQ∈F->q≠l/\q≠N:=λq hq=>⟨λe=>h1 (e▸hq),λe=>h2 (e▸hq)⟩;rintro x H' (⟨rfl,rfl⟩|⟨rfl,rfl⟩)
 ·refine⟨λq hq=> ?_,Jd⟩;obtain⟨e1,e2⟩:=key q hq;rw[aq _ _ e2,aq _ _ e1]
 refine⟨λq hq=> ?_,FA⟩;obtain⟨e1,e2⟩:=key q hq;rw[aq _ _ e1,aq _ _ e1]
open Classical in
def rJ {P:Program} {G:Nat→Option (List IV)} {sz f:Nat} {args:List AV} {ys:List IV} (h:tq P G sz f (.sl (.par 0) sz 0 0::args) [] ys) (h0:0<sz) (ha:ah args=[]) (hf:Flat ys) :
   au P G f (.nil0::args) (.list ys):=by
 refine⟨by simpa[ah,AV.an] using ha,by simp[AV.an],?_⟩
 obtain⟨_,h3⟩:=h
 intro w A β vs hr hv
 have aK:∀q r,df sz [] q= .live r→q= .par 0∧r=⟨sz,[]⟩:=by
   intro q r h
   by_cases e:q= .par 0
   · subst e;simp[df,aB] at h;exact⟨rfl,h.symm⟩
   rw[df,aq _ _ e] at h;simp[Hp.none] at h
 obtain⟨β1,Jf⟩:∃β1:Lb→Option Nat,β1=bD β (.par 0) none:=⟨_,rfl⟩
 have vV:β1 (.par 0)=none:=by rw[Jf];simp
 have GK:∀k,¬wU β1 (df sz []) k:=by
   rintro k ⟨l,⟨r,h⟩,hb⟩
   rw[(aK l r h).1,vV] at hb;cases hb
 have Kn:∀k,Im (b8 P G w A β Hp.none) β Hp.none k→Im (b8 P G w A β1 (df sz [])) β1 (df sz []) k:=fun k hk=>⟨hk.1,fun l ⟨r,hl⟩ hb=>by
   rw[(aK l r hl).1,vV] at hb;cases hb⟩
 have kp:∀ls:List Lb,(∀l∈ls,l≠ .par 0)→ND w w β β1 Hp.none (df sz []) (Im (b8 P G w A β Hp.none) β Hp.none) (Im (b8 P G w A β1 (df sz [])) β1 (df sz [])) ls:=fun ls lr=>
   { im := fun k hk hs => ⟨Kn k hk,hs,rfl⟩
     lb:=fun l hl ⟨r,sw⟩=>absurd (aK l r sw).1 (lr l hl)}
 have ju:aH (b8 P G w A β1 (df sz [])) β1 Env.any (df sz []) lB w:=
   { defers := rfl,size := rfl
     N8:=fun n=>by simp[Env.any,RV]
     rows:=fun l r h=>by
       obtain⟨rfl,rfl⟩:=aK l r h
       exact⟨h0,by simp,by rw[vV]⟩
     own:=fun l g ⟨r,h⟩ hb=>by rw[(aK l r h).1,vV] at hb;cases hb
     inj:=fun l l' g ⟨r,h⟩ _ hb=>by rw[(aK l r h).1,vV] at hb;cases hb
     eI:=fun n=>by simp[Env.any,AV.an]
     cH:=fun l r h=>by
       obtain⟨rfl,rfl⟩:=aK l r h
       simp
     frame:=⟨rfl,rfl,rfl,Nat.le_refl _,fun _ _ _=>rfl,fun _ _ h=>h⟩
     gA:=fun l hl=>⟨by obtain⟨r,h⟩:=hl;simp only[b8] at h;simp[h],fun _=>rfl⟩
     fr:=fun l g ⟨r,h⟩ _ hb=>by rw[(aK l r h).1,vV] at hb;cases hb
     W5:=fun g cs hg=>by
       obtain⟨k1,k2,k3⟩:=hr.W5 g cs hg
       exact⟨Kn g k1,k2,da.mono (kp [] (by simp)).toW4 k1 k2 k3⟩}
 have wW:br w β1 (df sz []) (Im (b8 P G w A β1 (df sz [])) β1 (df sz [])) (.sl (.par 0) sz 0 0::args) vs:=by
   simp only[br] at hv ⊢
   obtain⟨v,us,h1,h2,h4⟩:=hv
   refine⟨v,us,h1,?_,br.mono _ _ (kp _ (by rw[ha];simp)) h4⟩
   simp only[RV] at h2 ⊢
   obtain⟨ad,rfl⟩:=h2
   exact⟨ad,0,rfl,Nat.le_refl _,by simp[maxLen],by simp,fun _=> .inl rfl⟩
 refine(h3 w A β1 vs ju wW).mono ?_
 rintro e w' ⟨v,x,H1,β',rfl,⟨L,rfl,hL⟩,iS,hx,_⟩
 have gw:iU w w':=⟨iS.frame.os,iS.frame.tape,iS.frame.output,iS.frame.size,fun k hk=>iS.frame.block k hk (GK k)⟩
 refine⟨v,_,Hp.none,β,rfl,rfl,?_,?_,by simp[AV.an]⟩
 · exact { defers := rfl,size := rfl
           N8:=fun n=>by simp[Env.any,RV]
           rows:=fun l r h=>by simp[Hp.none] at h
           own:=fun l g ⟨r,h⟩=>by simp[Hp.none] at h
           inj:=fun l l' g ⟨r,h⟩=>by simp[Hp.none] at h
           eI:=fun n=>by simp[Env.any,AV.an]
           cH:=fun l r h=>by simp[Hp.none] at h
           frame:=⟨gw.os,gw.tape,gw.output,gw.size,fun k hk _=>gw.block k hk,fun k S hS=>iS.frame.bs k S hS⟩
           gA:=fun l ⟨r,h⟩=>by simp[b8,Hp.none] at h
           fr:=fun l g ⟨r,h⟩=>by simp[Hp.none] at h
           W5:=fun g cs hg=>by
             obtain⟨k1,k2,k3⟩:=hr.W5 g cs hg
             exact⟨k1,Nat.lt_of_lt_of_le k2 gw.size,da.mono (gw.nz β Hp.none _ []).toW4 k1 k2 k3⟩}
 have gm:0<sz:=h0
 have hk:W4 w' w' (Im (b8 P G w A β1 (df sz [])) β' H1) (Im (b8 P G w A β Hp.none) β Hp.none):=⟨fun k hk hs=>⟨⟨hk.1,fun l ⟨r,hl⟩=>by simp[Hp.none] at hl⟩,hs,rfl⟩⟩
 simp only[RV] at hx
 obtain⟨ad,c,rfl,g2,g3,g4,g5⟩:=hx
 simp only[RV,NN]
 refine⟨ad,c,rfl,g2,g3,?_⟩
 by_cases hn:ys.length=0
 · exact .inl hn
 right
 rcases g5 ⟨_,hL⟩ with h6|⟨g,Sz,e1,e2,e3,e4⟩
 · omega
 obtain⟨cur,e0,cap,k1,k2,k3,k4,k5⟩:=(iS.rows L _ hL).block e1
 have hg:w.heap.size≤g:=(iS.own L g ⟨_,hL⟩ e1).resolve_left (GK g)
 refine⟨g,0*sz,sz,e2,⟨.inr hg,fun l ⟨r,hl⟩=>by simp[Hp.none] at hl⟩,(Array.getElem?_eq_some_iff.1 k1).1,gm,ajy _ _ _ (fun k y hy=> ?_)⟩
 rw[eH]
 have qT:y.cells.length=sz:=by
   have:=(iS.rows L _ hL).2.1 (y.cells.map IV.dQ) (by
     simp only[aB]
     exact List.mem_map_of_mem (f:=fun y:IV=>y.cells.map IV.dQ) (List.mem_of_getElem? hy))
   simpa using this
 refine⟨qT.symm,Xz _ _ _ (fun j z hz=> ?_)⟩
 obtain⟨u,q1,q2⟩:=k5 k j (y.cells.map IV.dQ) z.dQ (by simp[aB,hy]) (by simp[hz])
 refine⟨u,?_,pX hk (hf y (List.mem_of_getElem? hy) z (List.mem_of_getElem? hz)) q2⟩
 rw[cell_of_row w' g _ cur e0 (0,0) k1,←q1]
 congr 1
 change 0*sz+k*sz+j=k*sz+j
 omega
def pA {P:Program} {G:Nat->Option (List IV)} {f:Nat} {n:Nat} {rs:List RO} {ac:AC} {args:List AV} {sz:Nat} {xs ys:List IV}
  (hF:aw P G f=some (n,rs,ac.bare)) (hn:args.length<=n) (ha:∀l∈ah args,l= .par 0)
  (hg:go ⟨P,G,n⟩ (fX rs λx H'=>∃L,x= .sl L sz 0 ys.length/\H' L= .live ⟨sz,aB ys⟩) [.code ac] (jP args) (df sz xs)):tq P G sz f args xs ys:=by
 refine⟨ha,WY hF hn ?_ ?_ hg⟩
 ·rintro l ⟨r,h⟩;by_cases e:l= .par 0
  ·subst e;rfl
  rw[df,aq _ _ e] at h;simp[Hp.none] at h
 intro l hl;rw[ha l hl];simp[df]
end Go.Am

namespace Go.Am
open Go Go.RowKit
structure WE (ls:List Lb) (u:Lb->Bool) (ps:List (Nat×AV)) (rs:List (Lb×Row)) (env:Env) (H:Hp) (m:List (Lb×Lb)):Prop where
 nf:∀l:Lb,l.entry=true->H l≠ .unused->l∈ls\/u l=true
 e:k_ (dn m) env ps
 r:tc (dn m) H rs
 inj:(ls.map (dn m)).Nodup
 fr:∀l∈ls,(l.fresh=true->(dn m l).fresh=true)/\(l.entry=true->dn m l=l)
def WE.wk {ls:List Lb} {u:Lb->Bool} {ps:List (Nat×AV)} {rs:List (Lb×Row)} {env:Env} {H:Hp} {m:List (Lb×Lb)} (h:WE ls u ps rs env H m) (lr:rs.map Prod.fst=ls) (hp:∀l∈ah (ps.map Prod.snd),l∈ls)
  (hr:∀q∈rs,∀cs∈q.2.els,∀l∈ah cs,l∈ls):Wk (dn m) env H (o9 ps) (ie u rs):=by
 have sw:∀l,live (ie u rs) l->l∈ls:=λl ⟨r,h⟩=>by rw[<-lr];exact pb.2 ⟨_,fy (cL.1 h),rfl⟩
 refine⟨h.e.we,λl r hl=>nr h.r (fy (cL.1 hl)),λl l' h1 h2 e=>gi h.inj l (sw l h1) l' (sw l' h2) e,mu λl hl=>jb (.inl (by rw[lr];exact hp l hl)),λl r hl cs bV q hq=> ?_,
  λl hf=>⟨λhu=> ?_,λhl=>(h.fr l (sw l hl)).2 hf⟩,λl hl hf=>(h.fr l (sw l hl)).1 hf⟩
 ·exact jb (.inl (by rw[lr];exact hr _ (fy (cL.1 hl)) cs bV q hq))
 exact jb (by rw[lr];exact h.nf l hf hu)
def gb {σ:Type} {S:St} {Q:gI} {c:AC} {k:List It} {env:Env} {H:Hp} (ls:σ->List Lb) (u:σ->Lb->Bool) (ps:σ->List (Nat×AV)) (rs:σ->List (Lb×Row)) (μ:σ->Nat) (s0:σ)
  (lr:∀s,(rs s).map Prod.fst=ls s) (hp:∀s,∀l∈ah ((ps s).map Prod.snd),l∈ls s) (hr:∀s,∀q∈rs s,∀cs∈q.2.els,∀l∈ah cs,l∈ls s) (h0:∃m,WE (ls s0) (u s0) (ps s0) (rs s0) env H m)
  (round:∀s,go S (kM S Q k (λenv H s=>∃m,WE (ls s) (u s) (ps s) (rs s) env H m) μ (μ s)) [.code c] (o9 (ps s)) (ie (u s) (rs s))):lI S Q c k env H:=
 j7 (λs=>o9 (ps s)) (λs=>ie (u s) (rs s)) _ (λ_ _ s ⟨m,h⟩=>⟨_,h.wk (lr s) (hp s) (hr s)⟩) μ s0 h0 round

structure uR where
 row:(Nat->Lb)->Nat->Option Row
 nat:∀(lab:Nat->Lb) (ρ:Lb->Lb) (p:Nat),row (λi=>ρ (lab i)) p=(row lab p).map (dO ρ)
 an:∀(lab:Nat->Lb) (p:Nat) (r:Row),row lab p=some r->∀cs∈r.els,∀q∈ah cs,∃p',(row lab p').isSome=true/\q=lab p'
def uR.ok (R:uR) (p:Nat):Prop:=(R.row Lb.par p).isSome=true
def uR.Ec (R:uR) (lab:Nat->Lb) (p:Nat):(R.row lab p).isSome=true↔R.ok p:=by
 have h:=R.nat Lb.par (λq=>match q with| .par i=>lab i|q=>q) p;simp only at h;unfold uR.ok;rw[show R.row lab p=_ from h];simp
structure Ed (lab:Nat->Lb) (R:uR) (H:Hp):Prop where
 row:∀p r,R.row lab p=some r->H (lab p)= .live r
 inj:∀p q,R.ok p->R.ok q->lab p=lab q->p=q
def Ed.live {lab:Nat->Lb} {R:uR} {H:Hp} (h:Ed lab R H) {p:Nat} (hp:R.ok p):Am.live H (lab p):=by
 obtain⟨r,hr⟩:=He.1 ((R.Ec lab p).2 hp);exact⟨r,h.row p r hr⟩
open Classical in
noncomputable def Lw (lab:Nat→Lb) (R:uR) (H:Hp):Hp:=fun q=>
 if h:∃p,R.ok p∧lab p=q then(match R.row lab (Classical.choose h) with|some r=> .live r|none=> .dead) else H q
def R5 {lab:Nat->Lb} {R:uR} (hi:∀p q,R.ok p->R.ok q->lab p=lab q->p=q) (H:Hp) {p:Nat} {r:Row} (hp:R.row lab p=some r):Lw lab R H (lab p)= .live r:=by
 have j4:R.ok p:=(R.Ec lab p).1 (by rw[hp];rfl);have h:∃p',R.ok p'/\lab p'=lab p:=⟨p,j4,rfl⟩;have hc:=Zq h;have e:Classical.choose h=p:=hi _ _ hc.1 j4 hc.2;unfold Lw;rw[Yy h,e,hp]
def Qa {lab:Nat->Lb} {R:uR} (H:Hp) {q:Lb} (h:∀p,R.ok p->lab p≠q):Lw lab R H q=H q:=by
 unfold Lw;rw[dif_neg (by rintro⟨p,h1,h2⟩;exact h p h1 h2)]
def PF {lab:Nat->Lb} {R:uR} (hi:∀p q,R.ok p->R.ok q->lab p=lab q->p=q) {H:Hp} {q:Lb} {r:Row} (h:Lw lab R H q= .live r) :
  (∃p,R.ok p/\lab p=q/\R.row lab p=some r)\/((∀p,R.ok p->lab p≠q)/\H q= .live r):=by
 by_cases e:∃p,R.ok p/\lab p=q
 ·obtain⟨p,h1,rfl⟩:=e;obtain⟨r',hr⟩:=He.1 ((R.Ec lab p).2 h1);rw[R5 hi H hr] at h;cases h;exact .inl ⟨p,h1,rfl,hr⟩
 have e':∀p,R.ok p->lab p≠q:=λp h1 h2=>e ⟨p,h1,h2⟩;rw[Qa H e'] at h;exact .inr ⟨e',h⟩
def Ed.R6 {lab:Nat->Lb} {R:uR} (hi:∀p q,R.ok p->R.ok q->lab p=lab q->p=q) (H:Hp):Ed lab R (Lw lab R H):=⟨λ_ _ hp=>R5 hi H hp,hi⟩
def acW:∀p q:Nat,Lb.par p=Lb.par q->p=q:=λp q h=>by cases h;rfl
noncomputable def Lx (R:uR):Hp:=Lw Lb.par R Hp.none
def Xv (R:uR):Ed Lb.par R (Lx R):= .R6 (λp q _ _ h=>acW p q h) _
def XI {R:uR} {q:Lb} {r:Row} (h:Lx R q= .live r):∃p,R.ok p/\Lb.par p=q/\R.row Lb.par p=some r:=by
 rcases PF (λp q _ _ h=>acW p q h) h with h|⟨_,h⟩
 ·exact h
 simp[Hp.none] at h
def aeF {R:uR} {q:Lb} (h:Lx R q≠ .unused):∃p,R.ok p/\q= .par p:=by
 by_cases e:∃p,R.ok p/\Lb.par p=q
 ·obtain⟨p,h1,h2⟩:=e;exact⟨p,h1,h2.symm⟩
 refine absurd ?_ h;unfold Lx;rw[Qa Hp.none λp h1 h2=>e ⟨p,h1,h2⟩];rfl
def ey.ahJ {T:Type} {P:Program} {G:Nat->Option (List IV)} {f:Nat} {args:List AV} {H:Hp} {Q:T->AV->Hp->Prop} (h:ey P G f args H λx H'=>∃t,Q t x H') (kp:T->Lb->Prop) :
  ey P G f args H λx H'=>∃t H1,Q t x H1/\H'=asG (kp t) H1:=by
 intro w A β vs hr hv;refine(h w A β vs hr hv).mono ?_;rintro e w' ⟨v,x,H1,β',rfl,⟨t,hq⟩,lz,hx,hm⟩;exact⟨v,x,asG (kp t) H1,β',rfl,⟨t,H1,hq,rfl⟩,lz.asG _,hx.asG _,λl hl=>by rw[Ne,N9];exact hm l hl⟩
def Jg (P:Program) (G:Nat->Option (List IV)) (f:Nat) (args:List AV) (R:uR) (fx:List Nat) (Q:((Nat->Lb)->AV)->uR->Prop):Prop:=
 (∀l∈ah args,∃p,R.ok p/\l= .par p)/\ey P G f args (Lx R) λx H'=>∃t:((Nat->Lb)->AV)×uR×(Nat->Lb),
  Q t.1 t.2.1/\(∀ρ,bJ ρ (t.1 t.2.2)=t.1 λi=>ρ (t.2.2 i))/\(∀l∈x.an,∃p,t.2.1.ok p/\l=t.2.2 p)/\x=t.1 t.2.2/\Ed t.2.2 t.2.1 H'/\∀p∈fx,t.2.2 p= .par p
def S1 (lab:Nat->Lb):Lb->Lb:=λq=>match q with
 | .par i=>lab i
 |q=>q
open Classical in
def WV {S:St} {f:Nat} {args U6:List AV} {R:uR} {fx:List Nat} {Q:((Nat→Lb)→AV)→uR→Prop} {H:Hp} {k:AV→Hp→Prop} {u:Tw k} {lab:Nat→Lb} (N:Lb→Lb) (h:Jg S.P S.G f U6 R fx Q)
  (ha:args=bu (S1 lab) U6) (hl:Ed lab R H) (hN:∀l,H (N l)= .unused) (hNi:∀l l',N l=N l'→l=l') (Jc:∀l,(N l).fresh=true→l.fresh=true∨∀p,R.ok p→(lab p).fresh=true) (Lt:∀p∈fx,R.ok p)
  (hk:∀X R2 U9 H2,Q X R2→Ed U9 R2 H2→(∀p∈fx,U9 p=lab p)→(∀p,R2.ok p→(∃p0,R.ok p0∧U9 p=lab p0)∨∃l,U9 p=N l) →
   (∀q,(∀p,R.ok p→q≠lab p)→(∀l,q≠N l)→H2 q=H q)→(∀q,H q≠ .unused→H2 q≠ .unused)→(∀l,(∀p,R2.ok p→U9 p≠N l)→H2 (N l)= .unused)→k (X U9) H2):C7 S f args H k u:=by
 obtain⟨h1,h3⟩:=h;refine .inr<| .inr ⟨⟨S1 lab,Lx R,U6,_,h3.ahJ (fun t q=>∃p,t.2.1.ok p∧t.2.2 p=q),ha,?_,?_,?_,?_,?_,?_,?_⟩⟩
 ·intro q r hq;obtain⟨p,h4,rfl,h5⟩:=XI hq;refine hl.row p _ ?_;have:=R.nat Lb.par (S1 lab) p;simp only[S1] at this;rw[show R.row lab p=_ from this,h5];rfl
 ·intro q hq;obtain⟨p,h4,rfl⟩:=aeF hq;exact(Xv R).live h4
 ·rintro q q' ⟨r,hq⟩ ⟨r',oX⟩ e;obtain⟨p,h4,rfl,_⟩:=XI hq;obtain⟨p',FI,rfl,_⟩:=XI oX;rw[hl.inj p p' h4 FI e]
 ·intro q hq;obtain⟨p,h4,rfl⟩:=h1 q hq;obtain⟨r,hr⟩:=(Xv R).live h4;rw[hr];simp
 ·rintro q ⟨r,hq⟩;obtain⟨p,_,rfl,_⟩:=XI hq;rfl
 ·intro q r hq cs bV z hz;obtain⟨p,h4,rfl,h5⟩:=XI hq;obtain⟨p',h6,rfl⟩:=R.an Lb.par p r h5 cs bV z hz;obtain⟨r',hr⟩:=(Xv R).live ((R.Ec _ _).1 h6);rw[hr];simp
 rintro x H' ⟨⟨X,R2,akL⟩,H1,⟨e1,e2,e3,rfl,e5,e6⟩,rfl⟩;simp only at e1 e2 e3 e5 e6 ⊢;have hH:∀q,Am.live (asG (fun q=>∃p,R2.ok p∧akL p=q) H1) q→∃p,R2.ok p∧akL p=q:=by
  rintro q ⟨r,hq⟩;exact(dH.1 hq).2
 have EY:∀p r,R2.row akL p=some r→asG (fun q=>∃p,R2.ok p∧akL p=q) H1 (akL p)= .live r:=fun p r hp=>
  dH.2 ⟨e5.row p r hp,p,(R2.Ec akL p).1 (by rw[hp];rfl),rfl⟩
 obtain⟨ρ',hρ⟩:∃ρ':Lb→Lb,ρ'=fun q=>if Am.live (Lx R) q then S1 lab q else N q:=⟨_,rfl⟩;have qB:∀q,Am.live (Lx R) q→∃p,R.ok p∧q= .par p:=by
  rintro q ⟨r,hq⟩;obtain⟨p,h4,rfl,_⟩:=XI hq;exact⟨p,h4,rfl⟩
 have aeG:∀p,R.ok p→ρ' (.par p)=lab p:=fun p hp=>by rw[hρ];simp only[(Xv R).live hp,if_true,S1]
 have YC:∀q,(∃p,R.ok p∧q= .par p∧ρ' q=lab p)∨(¬Am.live (Lx R) q∧ρ' q=N q):=by
  intro q;by_cases e:Am.live (Lx R) q
  ·obtain⟨p,h4,rfl⟩:=qB q e;exact .inl ⟨p,h4,rfl,aeG p h4⟩
  exact .inr ⟨e,by rw[hρ];simp only[e,if_false]⟩
 have Mz:∀l p,R.ok p→N l≠lab p:=fun l p hp e=>by
  obtain⟨r,hr⟩:=hl.live hp;have:=hN l;rw[e,hr] at this;cases this
 have ahK:∀q q',ρ' q=ρ' q'→q=q':=by
  intro q q' e;rcases YC q with⟨p,g1,rfl,g2⟩|⟨g1,g2⟩
  ·rcases YC q' with⟨p',g1',rfl,g2'⟩|⟨g1',g2'⟩
   ·rw[g2,g2'] at e;rw[hl.inj p p' g1 g1' e]
   rw[g2,g2'] at e;exact absurd e.symm (Mz _ p g1)
  rcases YC q' with⟨p',g1',rfl,g2'⟩|⟨g1',g2'⟩
  ·rw[g2,g2'] at e;exact absurd e (Mz _ p' g1')
  rw[g2,g2'] at e;exact hNi _ _ e
 obtain⟨U9,Ye⟩:∃U9:Nat→Lb,U9=fun i=>ρ' (akL i):=⟨_,rfl⟩;have acX:∀p q,R2.ok p→R2.ok q→U9 p=U9 q→p=q:=fun p q hp hq e=>by
  rw[Ye] at e;exact e5.inj p q hp hq (ahK _ _ e)
 obtain⟨Hd,hHd⟩:∃Hd:Hp,Hd=fun q=>if ∃p,R.ok p∧lab p=q then Slot.dead else H q:=⟨_,rfl⟩;have aiu:∀l,Hd (N l)= .unused:=fun l=>by
  rw[hHd];simp only;rw[if_neg (by rintro⟨p,g1,g2⟩;exact Mz l p g1 g2.symm)];exact hN l
 have ahL:∀p r,R2.row akL p=some r→R2.row U9 p=some (dO ρ' r):=fun p r hp=>by
  rw[Ye,R2.nat akL ρ' p,hp];rfl
 have GJ:∀q,Hd q≠ .unused→Lw U9 R2 Hd q≠ .unused:=by
  intro q hq;by_cases e:∃p,R2.ok p∧U9 p=q
  ·obtain⟨p,g1,rfl⟩:=e;obtain⟨r,hr⟩:=(Ed.R6 acX Hd).live g1;rw[hr];simp
  rw[Qa Hd fun p g1 g2=>e ⟨p,g1,g2⟩];exact hq
 have ags:∀q,H q≠ .unused→Hd q≠ .unused:=by
  intro q hq;rw[hHd];simp only;split
  ·simp
  exact hq
 have agt:∀p,R2.ok p→Lw U9 R2 Hd (U9 p)≠ .unused:=fun p hp=>by
  obtain⟨r,hr⟩:=(Ed.R6 acX Hd).live hp;rw[hr];simp
 refine⟨ρ',Lw U9 R2 Hd,?_,?_,?_,fun q hq=>GJ q (ags q hq),?_,?_,?_,?_,?_⟩
 ·intro q g1 g2;obtain⟨p,h4,rfl⟩:=qB q g1;rw[aeG p h4];rfl
 ·intro q r hq;rcases PF acX hq with⟨p,g1,rfl,g2⟩|⟨g1,g2⟩
  ·right;obtain⟨r0,I_⟩:=Option.isSome_iff_exists.1 ((R2.Ec akL p).2 g1);have:=ahL p r0 I_;rw[g2] at this;simp only[Option.some.injEq] at this;exact⟨akL p,r0,EY p r0 I_,by rw[Ye],this⟩
  left;rw[hHd] at g2;simp only at g2;split at g2
  ·cases g2
  rename_i FQ;refine⟨g2,fun l sw e=> ?_⟩;obtain⟨p,h4,rfl⟩:=qB l sw;exact FQ ⟨p,h4,e⟩
 ·intro q q' _ _ e;exact ahK _ _ e
 ·intro q hq;obtain⟨p,g1,rfl⟩:=e3 q hq;have:=agt p g1;rw[Ye] at this;rw[Ye];exact this
 ·intro q r hq cs bV z hz;obtain⟨g0,p,g1,rfl⟩:=dH.1 hq;obtain⟨r0,I_⟩:=Option.isSome_iff_exists.1 ((R2.Ec akL p).2 g1);have:=e5.row p r0 I_;rw[g0] at this;cases this;obtain⟨p',h6,rfl⟩:=R2.an akL p _ I_ cs bV z hz;have:=agt p' ((R2.Ec akL p').1 h6);rw[Ye] at this;rw[Ye];exact this
 ·intro q hq;obtain⟨p,g1,rfl⟩:=hH q hq;rcases YC (akL p) with⟨p',g2,g3,g4⟩|⟨g2,g3⟩
  ·left;rw[g3];exact(Xv R).live g2
  right;rw[g3];refine⟨hN _,fun hf=> ?_⟩;rcases Jc _ hf with hf|hf
  ·exact .inl hf
  right;intro z hz;obtain⟨p',h4,rfl⟩:=qB z hz;exact hf p' h4
 ·rintro q hq _;have key:∃p,R2.ok p∧akL p=q:=by
   rcases hq with hq|⟨l1,r1,cs,g1,g2,g3⟩
   ·obtain⟨p,g1,rfl⟩:=e3 q hq;exact⟨p,g1,rfl⟩
   obtain⟨g0,p,g4,rfl⟩:=dH.1 g1;obtain⟨r0,I_⟩:=Option.isSome_iff_exists.1 ((R2.Ec akL p).2 g4);have:=e5.row p r0 I_;rw[g0] at this;cases this;obtain⟨p',h6,rfl⟩:=R2.an akL p _ I_ cs g2 q g3;exact⟨p',(R2.Ec akL p').1 h6,rfl⟩
  obtain⟨p,g1,rfl⟩:=key;obtain⟨r0,I_⟩:=Option.isSome_iff_exists.1 ((R2.Ec akL p).2 g1);exact⟨r0,EY p r0 I_⟩
 rw[e2 ρ'];have:=hk X R2 U9 (Lw U9 R2 Hd) e1 (.R6 acX Hd) ?_ ?_ ?_ (fun q hq=>GJ q (ags q hq)) ?_
 ·rw[Ye] at this;rw[Ye];exact this
 ·intro p hp;rw[Ye];simp only;rw[e6 p hp];exact aeG p (Lt p hp)
 ·intro p hp;rw[Ye];simp only;rcases YC (akL p) with⟨p',g2,g3,g4⟩|⟨g2,g3⟩
  ·exact .inl ⟨p',g2,g4⟩
  exact .inr ⟨_,g3⟩
 ·intro q g1 g2;rw[Qa Hd,hHd]
  ·simp only;rw[if_neg (by rintro⟨p,g3,g4⟩;exact g1 p g3 g4.symm)]
  intro p hp e;rw[Ye] at e;simp only at e;rcases YC (akL p) with⟨p',g3,g4,g5⟩|⟨g3,g4⟩
  ·exact g1 p' g3 (e.symm.trans g5)
  exact g2 _ (e.symm.trans g4)
 intro l FQ;rw[Qa Hd FQ];exact aiu l
def VM {P:Program} {G:Nat->Option (List IV)} {f:Nat} {n:Nat} {rs:List RO} {ac:AC} {args:List AV} {R:uR} {fx:List Nat} {Q:((Nat->Lb)->AV)->uR->Prop}
  (hF:aw P G f=some (n,rs,ac.bare)) (hn:args.length<=n) (ha:∀l∈ah args,∃p,R.ok p/\l= .par p)
  (hg:go ⟨P,G,n⟩ (fX rs λx H'=>∃t:((Nat->Lb)->AV)×uR×(Nat->Lb),
   Q t.1 t.2.1/\(∀ρ,bJ ρ (t.1 t.2.2)=t.1 λi=>ρ (t.2.2 i))/\(∀l∈x.an,∃p,t.2.1.ok p/\l=t.2.2 p)/\x=t.1 t.2.2/\Ed t.2.2 t.2.1 H'/\∀p∈fx,t.2.2 p= .par p) [.code ac] (jP args) (Lx R)):Jg P G f args R fx Q:=by
 refine⟨ha,WY hF hn ?_ ?_ hg⟩
 ·rintro l ⟨r,h⟩;obtain⟨p,_,rfl,_⟩:=XI h;rfl
 intro l hl;obtain⟨p,h4,rfl⟩:=ha l hl;obtain⟨r,hr⟩:=(Xv R).live h4;rw[hr];simp
def Jg.mono {P:Program} {G:Nat->Option (List IV)} {f:Nat} {args:List AV} {R:uR} {fx:List Nat} {Q Q':((Nat->Lb)->AV)->uR->Prop} (h:Jg P G f args R fx Q) (hq:∀X R,Q X R->Q' X R):Jg P G f args R fx Q':=
 ⟨h.1,h.2.mono λx H ⟨t,h1,h2⟩=>⟨t,hq _ _ h1,h2⟩⟩
end Go.Am

namespace Go.Am
open Go Go.RowKit
open Classical in
noncomputable def PM (labC lab:Nat→Lb) (R:uR) (m:List (Lb×Lb)):Lb→Lb:=fun q=>
 if h:∃p,R.ok p∧labC p=q then lab (Classical.choose h) else dn m q
def On {labC lab:Nat->Lb} {R:uR} {m:List (Lb×Lb)} (hi:∀p q,R.ok p->R.ok q->labC p=labC q->p=q) {p:Nat} (hp:R.ok p):PM labC lab R m (labC p)=lab p:=by
 have h:∃p',R.ok p'/\labC p'=labC p:=⟨p,hp,rfl⟩;have hc:=Zq h;unfold PM;rw[Yy h,hi _ _ hc.1 hp hc.2]
def OE {labC lab:Nat->Lb} {R:uR} {m:List (Lb×Lb)} {q:Lb} (h:∀p,R.ok p->labC p≠q):PM labC lab R m q=dn m q:=by
 unfold PM;rw[dif_neg (by rintro⟨p,h1,h2⟩;exact h p h1 h2)]
structure WH (labC:Nat->Lb) (R:uR) (ls:List Lb) (u:Lb->Bool) (ps:List (Nat×AV)) (rs:List (Lb×Row)) (env:Env) (H:Hp) (lab:Nat->Lb) (m:List (Lb×Lb)):Prop where
 at':Ed lab R H
 nf:∀l:Lb,l.entry=true->H l≠ .unused->(∃p,R.ok p/\labC p=l)\/l∈ls\/u l=true
 e:k_ (PM labC lab R m) env ps
 r:∀q∈rs,H (dn m q.1)= .live (dO (PM labC lab R m) q.2)
 inj:(ls.map (dn m)).Nodup
 ap:∀l∈ls,∀p,R.ok p->lab p≠dn m l
 fr:∀l∈ls,(l.fresh=true->(dn m l).fresh=true)/\(l.entry=true->dn m l=l)
 fp:∀p,R.ok p->((labC p).fresh=true->(lab p).fresh=true)/\((labC p).entry=true->lab p=labC p)
def WH.wk {labC:Nat->Lb} {R:uR} {ls:List Lb} {u:Lb->Bool} {ps:List (Nat×AV)} {rs:List (Lb×Row)} {env:Env} {H:Hp} {lab:Nat->Lb} {m:List (Lb×Lb)} (h:WH labC R ls u ps rs env H lab m)
  (hi:∀p q,R.ok p->R.ok q->labC p=labC q->p=q) (lr:rs.map Prod.fst=ls) (hC:∀l∈ls,∀p,R.ok p->labC p≠l) (hp:∀l∈ah (ps.map Prod.snd),l∈ls\/∃p,R.ok p/\labC p=l)
  (hr:∀q∈rs,∀cs∈q.2.els,∀l∈ah cs,l∈ls\/∃p,R.ok p/\labC p=l):Wk (PM labC lab R m) env H (o9 ps) (Lw labC R (ie u rs)):=by
 have sw:∀l,live (Lw labC R (ie u rs)) l->(∃p,R.ok p/\labC p=l)\/((∀p,R.ok p->labC p≠l)/\l∈ls):=by
  rintro l ⟨r,hl⟩;rcases PF hi hl with⟨p,h1,h2,_⟩|⟨h1,h2⟩
  ·exact .inl ⟨p,h1,h2⟩
  exact .inr ⟨h1,by rw[<-lr];exact pb.2 ⟨_,fy (cL.1 h2),rfl⟩⟩
 have Tz:∀l,(l∈ls\/∃p,R.ok p/\labC p=l)->Lw labC R (ie u rs) l≠ .unused:=by
  intro l hl;by_cases e:∃p,R.ok p/\labC p=l
  ·obtain⟨p,h1,rfl⟩:=e;obtain⟨r,hr⟩:=(Ed.R6 hi (ie u rs)).live h1;rw[hr];simp
  rw[Qa _ λp h1 h2=>e ⟨p,h1,h2⟩];rcases hl with hl|hl
  ·exact jb (.inl (by rw[lr];exact hl))
  exact absurd hl e
 refine⟨h.e.we,?_,?_,mu λl hl=>Tz l (hp l hl),?_,?_,?_⟩
 ·intro l r hl;rcases PF hi hl with⟨p,h1,rfl,h2⟩|⟨h1,h2⟩
  ·rw[On hi h1];have:=R.nat labC (PM labC lab R m) p;have e:R.row (λi=>PM labC lab R m (labC i)) p=R.row lab p:=by
    have h0:=R.nat Lb.par (S1 (λi=>PM labC lab R m (labC i))) p;have Ur:=R.nat Lb.par (S1 lab) p;simp only[S1] at h0 Ur;rw[h0,Ur];cases pT:R.row Lb.par p with
    |none=>rfl
    |some r0=>
    simp only[bT,di,dO,Row.mk.injEq,Su];refine SW λcs bV=>NZ cs λz hz=> ?_;obtain⟨p',h6,rfl⟩:=R.an Lb.par p r0 pT cs bV z hz;simp only[S1];exact On hi ((R.Ec _ _).1 h6)
   rw[e,h2] at this;exact h.at'.row p _ this
  rw[OE h1];exact h.r _ (fy (cL.1 h2))
 ·intro l l' g1 g2 e;rcases sw l g1 with⟨p,h1,rfl⟩|⟨h1,wL⟩<;>rcases sw l' g2 with⟨p',h2,rfl⟩|⟨h2,H6⟩
  ·rw[On hi h1,On hi h2] at e;rw[h.at'.inj p p' h1 h2 e]
  ·rw[On hi h1,OE h2] at e;exact absurd e (h.ap _ H6 p h1)
  ·rw[OE h1,On hi h2] at e;exact absurd e.symm (h.ap _ wL p' h2)
  rw[OE h1,OE h2] at e;exact gi h.inj l wL l' H6 e
 ·intro l r hl cs bV q hq;rcases PF hi hl with⟨p,h1,rfl,h2⟩|⟨h1,h2⟩
  ·obtain⟨p',h6,rfl⟩:=R.an labC p r h2 cs bV q hq;exact Tz _ (.inr ⟨p',(R.Ec _ _).1 h6,rfl⟩)
  exact Tz q (hr _ (fy (cL.1 h2)) cs bV q hq)
 ·intro l hf;refine⟨λhu=> ?_,λhl=> ?_⟩
  ·rcases h.nf l hf hu with⟨p,h1,h2⟩|h1|h1
   ·exact Tz l (.inr ⟨p,h1,h2⟩)
   ·exact Tz l (.inl h1)
   by_cases e:∃p,R.ok p/\labC p=l
   ·exact Tz l (.inr e)
   rw[Qa _ λp h1 h2=>e ⟨p,h1,h2⟩];exact jb (.inr h1)
  rcases sw l hl with⟨p,h1,rfl⟩|⟨h1,h2⟩
  ·rw[On hi h1];exact(h.fp p h1).2 hf
  rw[OE h1];exact(h.fr l h2).2 hf
 intro l hl hf;rcases sw l hl with⟨p,h1,rfl⟩|⟨h1,h2⟩
 ·rw[On hi h1];exact(h.fp p h1).1 hf
 rw[OE h1];exact(h.fr l h2).1 hf
def SJ {σ:Type} {S:St} {Q:gI} {c:AC} {k:List It} {env:Env} {H:Hp} (labC:Nat->Lb) (R:σ->uR) (ls:List Lb) (u:Lb->Bool) (ps:σ->List (Nat×AV)) (rs:σ->List (Lb×Row)) (μ:σ->Nat) (s0:σ)
  (hi:∀s p q,(R s).ok p->(R s).ok q->labC p=labC q->p=q) (lr:∀s,(rs s).map Prod.fst=ls) (hC:∀s,∀l∈ls,∀p,(R s).ok p->labC p≠l) (hp:∀s,∀l∈ah ((ps s).map Prod.snd),l∈ls\/∃p,(R s).ok p/\labC p=l)
  (hr:∀s,∀q∈rs s,∀cs∈q.2.els,∀l∈ah cs,l∈ls\/∃p,(R s).ok p/\labC p=l) (h0:∃lab m,WH labC (R s0) ls u (ps s0) (rs s0) env H lab m)
  (round:∀s,go S (kM S Q k (λenv H s=>∃lab m,WH labC (R s) ls u (ps s) (rs s) env H lab m) μ (μ s)) [.code c] (o9 (ps s)) (Lw labC (R s) (ie u (rs s)))):lI S Q c k env H:=
 j7 (λs=>o9 (ps s)) (λs=>Lw labC (R s) (ie u (rs s))) _ (λ_ _ s ⟨lab,m,h⟩=>⟨_,h.wk (hi s) (lr s) (hC s) (hp s) (hr s)⟩) μ s0 h0 round
end Go.Am

namespace Go.Am
open Go Go.RowKit
def p2 (a b:Nat):Nat:=2^a*(2*b+1)
theorem Wh:∀{a b c d:Nat},p2 a b=p2 c d->a=c/\b=d
 |0,b,0,d,h=>by simp[p2] at h;omega
 |0,b,c+1,d,h=>by
  simp only[p2,ZJ,Nat.pow_zero,XY] at h;have:2^c*2*(2*d+1)=2*(2^c*(2*d+1)):=by rw[Wm (2^c) 2,Y3]
  omega
 |a+1,b,0,d,h=>by
  simp only[p2,ZJ,Nat.pow_zero,XY] at h;have:2^a*2*(2*b+1)=2*(2^a*(2*b+1)):=by rw[Wm (2^a) 2,Y3]
  omega
 |a+1,b,c+1,d,h=>by
  have h2:p2 a b=p2 c d:=by
   simp only[p2,ZJ] at h ⊢;have e1:2^a*2*(2*b+1)=2*(2^a*(2*b+1)):=(by rw[Wm (2^a) 2,Y3]);have e2:2^c*2*(2*d+1)=2*(2^c*(2*d+1)):=(by rw[Wm (2^c) 2,Y3]);omega
  have:=Wh h2;omega
def Lb.enc:Lb->Nat
 | .loc n=>p2 0 n
 | .par n=>p2 1 n
 | .gen n=>p2 2 n
 | .nest l i j=>p2 3 (p2 l.enc (p2 i j))
theorem Lb.acY:∀l l':Lb,l.enc=l'.enc->l=l'
 | .loc n,.loc m,h=>by rw[(Wh h).2]
 | .par n,.par m,h=>by rw[(Wh h).2]
 | .gen n,.gen m,h=>by rw[(Wh h).2]
 | .nest l i j,.nest l' i' j',h=>by
  have h1:=Wh (Wh h).2;have h2:=Wh h1.2;rw[Lb.acY l l' h1.1,h2.1,h2.2]
 | .loc n,.par m,h=>by have:=(Wh h).1;omega
 | .loc n,.gen m,h=>by have:=(Wh h).1;omega
 | .loc n,.nest _ _ _,h=>by have:=(Wh h).1;omega
 | .par n,.loc m,h=>by have:=(Wh h).1;omega
 | .par n,.gen m,h=>by have:=(Wh h).1;omega
 | .par n,.nest _ _ _,h=>by have:=(Wh h).1;omega
 | .gen n,.loc m,h=>by have:=(Wh h).1;omega
 | .gen n,.par m,h=>by have:=(Wh h).1;omega
 | .gen n,.nest _ _ _,h=>by have:=(Wh h).1;omega
 | .nest _ _ _,.loc m,h=>by have:=(Wh h).1;omega
 | .nest _ _ _,.par m,h=>by have:=(Wh h).1;omega
 | .nest _ _ _,.gen m,h=>by have:=(Wh h).1;omega
def NW (c:Nat) (l:Lb):Lb:= .nest (.loc c) l.enc 1
def aaM {p:Prop} (h:p:=by simp[NW]):p:=h
def aeH (c:Nat):∀l l',NW c l=NW c l'->l=l':=λl l' h=>Lb.acY _ _ (by simpa[NW] using h)
def NC (c:Nat) (l:Lb):Lb:= .nest l c 2
def aa8 {p:Prop} (h:p:=by simp[NC]):p:=h
def Yo (c:Nat):∀l l',NC c l=NC c l'->l=l':=λl l' h=>by simpa[NC] using h
def adx (sz:Nat) (xs:List IV):uR where
 row _ p:=if p=0 then some ⟨sz,aB xs⟩ else none
 nat lab ρ p:=by by_cases h:p=0<;>simp[h,dy]
 an lab p r h cs bV q hq:=by
  by_cases h0:p=0
  ·simp[h0] at h;subst h;rw[bU bV] at hq;simp at hq
  simp[h0] at h
def Y7 {sz:Nat} {xs:List IV} {p:Nat}:(adx sz xs).ok p↔p=0:=by
 unfold uR.ok adx;by_cases h:p=0<;>simp[h]
def aeI:uR where
 row _ _:=none
 nat _ _ _:=rfl
 an _ _ _ h:=by cases h
def Y8 {p:Nat}:¬aeI.ok p:=by simp[uR.ok,aeI]
def agU:Lx aeI=Hp.none:=by
 funext q;exact Qa _ λp hp=>absurd hp Y8
abbrev aa4 (P:Program) (G:Nat->Option (List IV)) (f:Nat) (args:List AV) (sz:Nat) (xs:List IV):Prop:=
 Jg P G f args aeI [] λX R2=>X=(λlab=> .sl (lab 0) sz 0 xs.length)/\R2=adx sz xs
def aaI {P:Program} {G:Nat->Option (List IV)} {f:Nat} {n:Nat} {rs:List RO} {ac:AC} {args:List AV} {sz:Nat} {xs:List IV}
  (hF:aw P G f=some (n,rs,ac.bare)) (hn:args.length<=n) (ha:ah args=[])
  (hg:go ⟨P,G,n⟩ (fX rs λx H'=>∃L,x= .sl L sz 0 xs.length/\H' L= .live ⟨sz,aB xs⟩) [.code ac] (jP args) Hp.none):aa4 P G f args sz xs:=by
 refine⟨by rw[ha];simp,?_⟩;rw[agU];refine(WY hF hn (by intro l ⟨r,h⟩;simp[Hp.none] at h) (by rw[ha];simp) hg).mono ?_;rintro x H ⟨L,hx,hL⟩;refine⟨⟨λlab=> .sl (lab 0) sz 0 xs.length,adx sz xs,λ_=>L⟩,⟨rfl,rfl⟩,λρ=>rfl,λl hl=>⟨0,Y7.2 rfl,?_⟩,hx,⟨λp r hr=> ?_,λp q hp hq _=>(Y7.1 hp).trans (Y7.1 hq).symm⟩,tM⟩
 ·rw[hx] at hl;simpa[AV.an] using hl
 simp only[adx] at hr;by_cases h:p=0
 ·simp[h] at hr;subst hr;exact hL
 simp[h] at hr

section
variable {K:Kx} {β:Lb->Option Nat} {env:Env} {H:Hp} {a:Act} {w:World}
def aH.trim (hr:aH K β env H a w) {l:Lb} {sz:Nat} {els:List (List AV)} (k:Nat) (hl:H l= .live ⟨sz,els⟩):aH K β env (bD H l (.live ⟨sz,els.take k⟩)) a w:=by
 cases hb:β l with
 |none=>
  have:=(hr.rows l _ hl).2.2;simp only[hb] at this;subst this;simp only[List.take_nil];rw[RB hl];exact hr
 |some g=>
 refine hr.R7 hl g hb ?_ ?_ ?_ ?_
 ·intro cur e cap k1 k2 k4;rw[tp];omega
 ·exactλcs bV=>(hr.rows l _ hl).2.1 cs (ec bV)
 ·exactλcs bV=>hr.cH l _ hl cs (ec bV)
 intro i j cs x hi hj;rw[Rd] at hi;split at hi
 ·exact .inr ⟨cs,hi,hj⟩
 simp at hi
end
def Z9 {P:Program} {G:Nat->Option (List IV)} {f:Nat} {n:Nat} {rs:List RO} {ac:AC} {args:List AV} {sz:Nat} {xs ys:List IV}
  (hF:aw P G f=some (n,rs,ac.bare)) (hn:args.length<=n) (ha:∀l∈ah args,l= .par 0)
  (hg:go ⟨P,G,n⟩ (fX rs λx H'=>∃L c els,(x= .sl L sz 0 ys.length\/x= .slk L sz 0 ys.length c)/\H' L= .live ⟨sz,aB ys++els⟩) [.code ac] (jP args) (df sz xs)):tq P G sz f args xs ys:=by
 refine⟨ha,?_⟩;have h0:=WY hF hn ?_ ?_ hg
 ·intro w A β vs hr hv;refine(h0 w A β vs hr hv).mono ?_;rintro e w' ⟨v,x,H1,β',rfl,⟨L,c,els,hx,hL⟩,lz,wT,hm⟩;have ht:=lz.trim ys.length hL;rw[show(aB ys++els).take ys.length=aB ys by rw[<-lQ ys,List.take_left]] at ht;have aK:∀q,live (bD H1 L (.live ⟨sz,aB ys⟩)) q->live H1 q:=by
   rintro q ⟨r,hq⟩;by_cases e:q=L
   ·subst e;exact⟨_,hL⟩
   rw[aq _ _ e] at hq;exact⟨r,hq⟩
  refine⟨v,.sl L sz 0 ys.length,_,β',rfl,⟨L,rfl,tM⟩,ht,?_,aad⟩;simp only[RV];rcases hx with rfl|rfl
  ·simp only[RV] at wT;obtain⟨ad,c,g1,g2,g3,g4,g5⟩:=wT;exact⟨ad,c,g1,g2,g3,g4,λhl=>g5 (aK _ hl)⟩
  simp only[RV] at wT;obtain⟨ad,g1,g2,g3,g4,g5⟩:=wT;exact⟨ad,c,g1,g2,g3,λh=>g4 sf,λhl=>g5 (aK _ hl)⟩
 ·rintro l ⟨r,h⟩;by_cases e:l= .par 0
  ·subst e;rfl
  rw[df,aq _ _ e] at h;simp[Hp.none] at h
 intro l hl;rw[ha l hl];simp[df]
def Y9 {S:St} {f:Nat} {fn:Func} (hf:S.P.funcs[f]?=some fn) (yA:(fn.name== "runtime.NumGoroutine")=false) (hb:fn.body.isNone=true)
  (hn:Extern.findNext fn=none) {tS tR e:TypeId} (he:Extern.find fn=some (Extern.SlicesOverlaps.overlaps #[tS,tS] #[tR])) (ht:S.P.underlying tS=some (.slice e)) {size:Nat} (hz:∀w,(Go.sizeOf e).run S.P w= .ok size w)
  {vs:List IV} (hv:vs≠[]) {l:Lb} {sz i n c:Nat} {r:Row} {H:Hp} (hl:H l= .live r) (h0:0<n):sZ S f [.list vs,.slk l sz i n c] H (.bool false):=by
 intro K β env a w ws hS ju hws;subst hS
 match ws,hws with
 |[u,v],h=>
  simp only[br] at h;obtain⟨_,_,e0,h1,_,_,e2,h3,e4⟩:=h;cases e0;cases e2;cases e4;simp only[RV,NN] at h1 h3;obtain⟨ad,c1,rfl,g1,g2,g3⟩:=h1;obtain⟨ad2,rfl,k1,k2,k3,k4⟩:=h3;have Hl:vs.length≠0:=λe=>hv (Rg.1 e);rcases g3 with g3|⟨b,o,s2,rfl,g4,g5,g6,g7⟩
  ·exact absurd g3 Hl
  rcases k4 ⟨_,hl⟩ with k4|⟨g,Sz,q1,rfl,q3,q4⟩
  ·omega
  have pT:=ju.rows l r hl;obtain⟨cur,ee,cap,p1,p2,p3,p4,p5⟩:=pT.block q1;obtain⟨y,Hh,rfl⟩:∃y Hh,vs=y::Hh:=by cases vs with|nil=>exact absurd rfl hv|cons y q=>exact⟨y,q,rfl⟩
  simp only[bH] at g7;have kG:∃z,w.cell? ⟨b,o,none⟩=some z:=by
   have:=g7.1;rw[eH] at this;obtain⟨hs,hc⟩:=this;cases bV:y.cells with
   |nil=>rw[bV] at hs;simp at hs;omega
   |cons c0 cr=>
   rw[bV] at hc;simp only[bK] at hc;obtain⟨⟨z,hz,_⟩,_⟩:=hc;exact⟨z,hz⟩
  obtain⟨z,ln⟩:=kG;obtain⟨cb,eb,fb,ahM⟩:∃cb eb fb,w.heap[b]?=some (.cells cb eb fb):=by
   unfold World.cell? at ln;simp only at ln;split at ln
   ·rename_i cb eb fb hb;exact⟨cb,eb,fb,hb⟩
   cases ln
  have hcb:cb.size≠0:=by
   intro e;unfold World.cell? at ln;simp only[ahM] at ln;simp at ln;have:cb=#[]:=Array.eq_empty_of_size_eq_zero e
   subst this;simp at ln
  have Vi:b≠g:=by
   rintro rfl;exact g4.2 l ⟨_,hl⟩ q1
  have K0:(b !=g)=true:=by simpa using Vi
  have aiv:(b==g)=false:=by simpa using Vi
  refine⟨.bool false,w,?_,Below.refl _ _,aaG,aad⟩;rw[run_callFunc_extern hf yA hb hn he];have ahN:(Extern.SlicesOverlaps.overlaps #[tS,tS] #[tR] #[.slice (some ⟨b,o,none⟩) (y::Hh).length c1,.slice (some ⟨g,i*sz,none⟩) n c]).run K.P w= .ok (.bool false) w:=by
   unfold Extern.SlicesOverlaps.overlaps;rw[show ∀(p:Option Addr) (k d:Nat) (q:Option Addr) (k' d':Nat) (h1:Option Addr->Nat->Nat->Option Addr->Nat->Nat->Sem Value) (h2:Array Value->Sem Value),Extern.SlicesOverlaps.overlaps.match_4 (λ_=>Sem Value) #[.slice p k d,.slice q k' d'] h1 h2=h1 p k d q k' d' fromλ_ _ _ _ _ _ _ _=>rfl]
   have hsa:w.shape? b=some (eb,cb.size):=(by simp[World.shape?,ahM]);have hsb:w.shape? g=some (ee,cur.size):=(by simp[World.shape?,p1]);have hfz:∀off,w.frozen? ⟨g,off,none⟩=false:=λoff=>(by simp[World.frozen?,p1]);obtain⟨kB,hkB⟩:∃kB,cb.size=kB+1:=⟨cb.size - 1,sf⟩;by_cases h0:(y::Hh).length=0\/n=0\/size=0
   ·simp[run_underlying ht,hz,h0];rcases h0 with h0|h0|h0
    ·simp at h0
    ·omega
    simp[h0]
   have u7:size≠0:=λe=>h0 (.inr (.inr e));have wq:n≠0:=sf
   cases hfa:w.frozen? ⟨b,o,none⟩<;>cases KL:w.frozen? ⟨b,cb.size,none⟩ <;>
    simp[run_underlying ht,hz,h0,K0,aiv,frozen,noView,viewAt,mayBeOne,stringish,shape,Sem.run,hsa,hsb,hfz,hkB,hfa,u7,wq]<;>rw[hkB] at KL<;>simp[KL]
  rw[ahN];rfl

structure Bn where
 n0:Nat
 nodes:List Node
 fs:List Int
 az:List Int
def Bn.at (b:Bn) (i:Nat):List Attr:=match b.nodes[i]? with|some x=>x.attrs|none=>[]
def Bn.kd (b:Bn) (i:Nat):List Int:=match b.nodes[i]? with|some x=>x.kids|none=>[]
def Bn.SK {b:Bn} {i:Nat} {x:Node} (h:b.nodes[i]?=some x):b.at i=x.attrs:=by simp[Bn.at,h]
def Bn.Ru {b:Bn} {i:Nat} {x:Node} (h:b.nodes[i]?=some x):b.kd i=x.kids:=by simp[Bn.kd,h]
def NI (n0:Nat) (lab:Nat->Lb) (i:Nat) (x:Node):List AV:=
 [.bool x.text,.str x.s,if i<n0 then .sl (lab (4+2*i)) 2 0 x.attrs.length else .list (cD x.attrs),.int .i64 x.parent,if i<n0 then .sl (lab (5+2*i)) 1 0 x.kids.length else .list (x.kids.map xX)]
def Ps (b:Bn) (lab:Nat->Lb) (p:Nat):Option Row:=
 if p=0 then some ⟨3,[[.sl (lab 1) 5 0 b.nodes.length,.sl (lab 2) 1 0 b.fs.length,.sl (lab 3) 1 0 b.az.length]]⟩
 else if p=1 then some ⟨5,b.nodes.mapIdx (NI b.n0 lab)⟩
 else if p=2 then some ⟨1,aB (b.fs.map xX)⟩
 else if p=3 then some ⟨1,aB (b.az.map xX)⟩
 else if p<4+2*b.n0 then(if p%2=0 then some ⟨2,aB (cD (b.at ((p - 4)/2)))⟩ else some ⟨1,aB ((b.kd ((p - 5)/2)).map xX)⟩)
 else none
def RR (n0:Nat) (lab:Nat->Lb) (ρ:Lb->Lb) (i:Nat) (x:Node):bu ρ (NI n0 lab i x)=NI n0 (λi=>ρ (lab i)) i x:=by
 unfold NI;by_cases h:i<n0<;>simp[bu,bJ,h]
def RS {n0:Nat} {lab:Nat->Lb} {i:Nat} {x:Node} {q:Lb} (h:q∈ah (NI n0 lab i x)):i<n0/\(q=lab (4+2*i)\/q=lab (5+2*i)):=by
 unfold NI at h;by_cases hi:i<n0
 ·simpa[ah,AV.an,hi] using h
 simp[ah,AV.an,hi] at h
def Od {b:Bn} {lab:Nat->Lb} {p:Nat}:(Ps b lab p).isSome=true↔p<4+2*b.n0:=by
 unfold Ps;by_cases h0:p=0
 ·simp[h0];omega
 by_cases h1:p=1
 ·simp[h1];omega
 by_cases h2:p=2
 ·simp[h2];omega
 by_cases h3:p=3
 ·simp[h3];omega
 by_cases h4:p<4+2*b.n0
 ·by_cases h5:p%2=0<;>simp[h0,h1,h2,h3,h4,h5]
 simp[h0,h1,h2,h3,h4]
def Ut (b:Bn):uR where
 row:=Ps b
 nat lab ρ p:=by
  unfold Ps;by_cases h0:p=0
  ·simp[h0,dO,bu,bJ]
  by_cases h1:p=1
  ·simp only[h1,Ev (show ¬(1:Nat)=0 by decide),Rc,bT,di,dO,Row.mk.injEq,Su];refine fe λi=> ?_;simp only[cn,yW,Zr];congr 1;funext x;exact(RR _ _ _ _ _).symm
  by_cases h2:p=2
  ·simp[h2,dy]
  by_cases h3:p=3
  ·simp[h3,dy]
  by_cases h4:p<4+2*b.n0
  ·by_cases h5:p%2=0<;>simp[h0,h1,h2,h3,h4,h5,dy]
  simp[h0,h1,h2,h3,h4]
 an lab p r hr cs bV q hq:=by
  unfold Ps at hr;by_cases h0:p=0
  ·simp[h0] at hr;subst hr;simp only[bY] at bV;subst bV;simp[ah,AV.an] at hq;rcases hq with rfl|rfl|rfl
   ·exact⟨1,Od.2 sf,rfl⟩
   ·exact⟨2,Od.2 sf,rfl⟩
   exact⟨3,Od.2 sf,rfl⟩
  by_cases h1:p=1
  ·simp[h1] at hr;subst hr;simp only at bV;obtain⟨i,hi⟩:=Sw bV;rw[yW] at hi;obtain⟨x,_,rfl⟩:=jF.1 hi;obtain⟨h5,h6⟩:=RS hq;rcases h6 with rfl|rfl
   ·exact⟨4+2*i,Od.2 sf,rfl⟩
   exact⟨5+2*i,Od.2 sf,rfl⟩
  have key:∀(sz:Nat) (xs:List IV),r=⟨sz,aB xs⟩->False:=by
   rintro sz xs rfl;rw[bU bV] at hq;simp at hq
  exfalso;by_cases h2:p=2
  ·simp[h2] at hr;exact key _ _ hr.symm
  by_cases h3:p=3
  ·simp[h3] at hr;exact key _ _ hr.symm
  by_cases h4:p<4+2*b.n0
  ·by_cases h5:p%2=0
   ·simp[h0,h1,h2,h3,h4,h5] at hr;exact key _ _ hr.symm
   simp[h0,h1,h2,h3,h4,h5] at hr;exact key _ _ hr.symm
  simp[h0,h1,h2,h3,h4] at hr
def OO {b:Bn} {p:Nat}:(Ut b).ok p↔p<4+2*b.n0:=Od
def abr {p:Prop} (h:p:=by simp[ah,AV.an,OO,Tree.av];omega):p:=h
def Pt {b:Bn} {lab:Nat->Lb} {i:Nat} (h:i<b.n0):Ps b lab (4+2*i)=some ⟨2,aB (cD (b.at i))⟩:=by
 unfold Ps;rw[Ev sf,Ev sf,Ev sf,Ev sf,P8 sf,P8 sf,show(4+2*i - 4)/2=i by omega]
def Pu {b:Bn} {lab:Nat->Lb} {i:Nat} (h:i<b.n0):Ps b lab (5+2*i)=some ⟨1,aB ((b.kd i).map xX)⟩:=by
 unfold Ps;rw[Ev sf,Ev sf,Ev sf,Ev sf,P8 sf,Ev sf,show(5+2*i - 5)/2=i by omega]
abbrev Oi (lab:Nat->Lb) (b:Bn) (H:Hp):Prop:=Ed lab (Ut b) H
section
variable {lab:Nat->Lb} {b:Bn} {H H2:Hp}
def Oi.s (h:Oi lab b H):H (lab 0)= .live ⟨3,[[.sl (lab 1) 5 0 b.nodes.length,.sl (lab 2) 1 0 b.fs.length,.sl (lab 3) 1 0 b.az.length]]⟩:=h.row 0 _ rfl
def Oi.n (h:Oi lab b H):H (lab 1)= .live ⟨5,b.nodes.mapIdx (NI b.n0 lab)⟩:=h.row 1 _ rfl
def Oi.f (h:Oi lab b H):H (lab 2)= .live ⟨1,aB (b.fs.map xX)⟩:=h.row 2 _ rfl
def Oi.a (h:Oi lab b H):H (lab 3)= .live ⟨1,aB (b.az.map xX)⟩:=h.row 3 _ rfl
def Oi.at' (h:Oi lab b H) {i:Nat} {x:Node} (hi:i<b.n0) (hx:b.nodes[i]?=some x):H (lab (4+2*i))= .live ⟨2,aB (cD x.attrs)⟩:=by
 have:=h.row _ _ (Pt hi)
 rwa[Bn.SK hx] at this
def Oi.kd (h:Oi lab b H) {i:Nat} {x:Node} (hi:i<b.n0) (hx:b.nodes[i]?=some x):H (lab (5+2*i))= .live ⟨1,aB (x.kids.map xX)⟩:=by
 have:=h.row _ _ (Pu hi)
 rwa[Bn.Ru hx] at this
def Oi.ne (h:Oi lab b H) {p q:Nat} (hp:p<4+2*b.n0) (hq:q<4+2*b.n0) (e:p≠q):lab p≠lab q:=λe2=>e (h.inj p q (OO.2 hp) (OO.2 hq) e2)
def Bn.set (b:Bn) (i:Nat) (y:Node):Bn:={b with nodes:=b.nodes.set i y}
def Bn.put (b:Bn) (y:Node):Bn:={b with nodes:=b.nodes++[y]}
def Bn.TR (b:Bn) (i:Nat) (y:Node) (lab:Nat->Lb):(b.set i y).nodes.mapIdx (NI (b.set i y).n0 lab)=(b.nodes.mapIdx (NI b.n0 lab)).set i (NI b.n0 lab i y):=by
 refine fe λj=> ?_;simp only[Bn.set,yW,JC,pz];by_cases e:i=j
 ·subst e;by_cases hl:i<b.nodes.length<;>simp[hl]
 simp[e]
def Bn.TS (b:Bn) (y:Node) (lab:Nat->Lb):(b.put y).nodes.mapIdx (NI (b.put y).n0 lab)=b.nodes.mapIdx (NI b.n0 lab)++[NI b.n0 lab b.nodes.length y]:=by
 simp[Bn.put,YE]
def Oi.lists (h:Oi lab b H) {p:Nat} (h4:4<=p) (hp:p<4+2*b.n0):∃i,i<b.n0/\(p=4+2*i\/p=5+2*i):=by
 by_cases e:p%2=0
 ·exact⟨(p - 4)/2,sf,sf⟩
 exact⟨(p - 5)/2,sf,sf⟩
def Oi.mk' {lab:Nat->Lb} {b:Bn} {H:Hp} (hi:∀p q,p<4+2*b.n0->q<4+2*b.n0->lab p=lab q->p=q)
  (h0:H (lab 0)= .live ⟨3,[[.sl (lab 1) 5 0 b.nodes.length,.sl (lab 2) 1 0 b.fs.length,.sl (lab 3) 1 0 b.az.length]]⟩) (h1:H (lab 1)= .live ⟨5,b.nodes.mapIdx (NI b.n0 lab)⟩)
  (h2:H (lab 2)= .live ⟨1,aB (b.fs.map xX)⟩) (h3:H (lab 3)= .live ⟨1,aB (b.az.map xX)⟩)
  (h4:∀i,i<b.n0->H (lab (4+2*i))= .live ⟨2,aB (cD (b.at i))⟩) (h5:∀i,i<b.n0->H (lab (5+2*i))= .live ⟨1,aB ((b.kd i).map xX)⟩):Oi lab b H:=by
 refine⟨λp r hp=> ?_,λp q hp hq=>hi p q (OO.1 hp) (OO.1 hq)⟩;have bI:p<4+2*b.n0:=Od.1 (show(Ps b lab p).isSome=true by change Ps b lab p=some r at hp;rw[hp];rfl);change Ps b lab p=some r at hp;by_cases e0:p=0
 ·subst e0;cases hp;exact h0
 by_cases e1:p=1
 ·subst e1;cases hp;exact h1
 by_cases e2:p=2
 ·subst e2;cases hp;exact h2
 by_cases e3:p=3
 ·subst e3;cases hp;exact h3
 by_cases e:p%2=0
 ·obtain⟨i,rfl⟩:∃i,p=4+2*i:=⟨(p - 4)/2,sf⟩;rw[Pt sf] at hp;cases hp;exact h4 i sf
 obtain⟨i,rfl⟩:∃i,p=5+2*i:=⟨(p - 5)/2,sf⟩;rw[Pu sf] at hp;cases hp;exact h5 i sf
def Bn.Th (b:Bn) {i:Nat} {x y:Node} (hx:b.nodes[i]?=some x) (j:Nat):(b.set i y).at j=if j=i then y.attrs else b.at j:=by
 have hl:=(yY.1 hx).1;simp only[Bn.at,Bn.set,JC];by_cases e:i=j
 ·subst e;simp[hl]
 simp[e,Ss e]
def Bn.Ti (b:Bn) {i:Nat} {x y:Node} (hx:b.nodes[i]?=some x) (j:Nat):(b.set i y).kd j=if j=i then y.kids else b.kd j:=by
 have hl:=(yY.1 hx).1;simp only[Bn.kd,Bn.set,JC];by_cases e:i=j
 ·subst e;simp[hl]
 simp[e,Ss e]
def Oi.afQ (h:Oi lab b H) {i:Nat} {x:Node} {ys:List Int} {N:Lb} (hi:i<b.n0) (hx:b.nodes[i]?=some x) (hN:N=lab (5+2*i)\/∀p,p<4+2*b.n0->lab p≠N)
  (h1:H2 (lab 1)= .live ⟨5,(b.nodes.mapIdx (NI b.n0 lab)).set i [.bool x.text,.str x.s,.sl (lab (4+2*i)) 2 0 x.attrs.length,.int .i64 x.parent,.sl N 1 0 ys.length]⟩)
  (h2:H2 N= .live ⟨1,aB (ys.map xX)⟩) (h3:∀q,q≠lab 1->q≠N->q≠lab (5+2*i)->H2 q=H q) :
  Oi (λp=>if p=5+2*i then N else lab p) (b.set i {x with kids:=ys}) H2:=by
 have Vi:∀p,p<4+2*b.n0->p≠1->lab p≠lab 1:=λp hp e=>h.ne hp sf e;have Ry:∀p,p<4+2*b.n0->p≠5+2*i->lab p≠lab (5+2*i):=λp hp e=>h.ne hp sf e;have Ra:∀p,p<4+2*b.n0->p≠5+2*i->lab p≠N:=λp hp e=>by
  rcases hN with rfl|hN
  ·exact Ry p hp e
  exact hN p hp
 have j0:∀p,p<4+2*b.n0->p≠1->p≠5+2*i->H2 (lab p)=H (lab p):=λp hp e1 e2=>h3 _ (Vi p hp e1) (Ra p hp e2) (Ry p hp e2);have hj:∀p,p≠5+2*i->(if p=5+2*i then N else lab p)=lab p:=λp e=>Ev e;refine Oi.mk' ?_ ?_ ?_ ?_ ?_ ?_ ?_
 ·intro p q hp hq e;change p<4+2*b.n0 at hp;change q<4+2*b.n0 at hq;by_cases e1:p=5+2*i<;>by_cases e2:q=5+2*i
  ·rw[e1,e2]
  ·rw[P8 e1,Ev e2] at e;exact absurd e.symm (Ra q hq e2)
  ·rw[Ev e1,P8 e2] at e;exact absurd e (Ra p hp e1)
  rw[Ev e1,Ev e2] at e;exact h.inj p q (OO.2 hp) (OO.2 hq) e
 ·simp only[hj 0 sf,hj 1 sf,hj 2 sf,hj 3 sf];rw[j0 0 sf sf sf,h.s];simp[Bn.set]
 ·simp only[hj 1 sf];rw[h1,Bn.TR];congr 2;refine fe λj=> ?_;simp only[JC,pz,yW];by_cases e:i=j
  ·subst e;simp only[Rc];congr 1;simp[NI,hi,hj (4+2*i) sf]
  simp only[e,nX];congr 1;funext z;simp only[NI];rw[Ev (show ¬4+2*j=5+2*i by omega),Ev (show ¬5+2*j=5+2*i by omega)]
 ·simp only[hj 2 sf];rw[j0 2 sf sf sf,h.f];rfl
 ·simp only[hj 3 sf];rw[j0 3 sf sf sf,h.a];rfl
 ·intro j FE;change j<b.n0 at FE;simp only[hj (4+2*j) sf];rw[j0 _ sf sf sf,h.row _ _ (Pt FE),b.Th hx];split
  ·rename_i e;subst e;rw[Bn.SK hx]
  rfl
 intro j FE;change j<b.n0 at FE;rw[b.Ti hx];by_cases e:j=i
 ·subst e;simp only[Rc];exact h2
 simp only[hj (5+2*j) sf,e,nX];rw[j0 _ sf sf sf,h.row _ _ (Pu FE)]
def Oi.eh (h:Oi lab b H) {i:Nat} {x:Node} {ys:List Attr} {N:Lb} (hi:i<b.n0) (hx:b.nodes[i]?=some x) (hN:N=lab (4+2*i)\/∀p,p<4+2*b.n0->lab p≠N)
  (h1:H2 (lab 1)= .live ⟨5,(b.nodes.mapIdx (NI b.n0 lab)).set i [.bool x.text,.str x.s,.sl N 2 0 ys.length,.int .i64 x.parent,.sl (lab (5+2*i)) 1 0 x.kids.length]⟩)
  (h2:H2 N= .live ⟨2,aB (cD ys)⟩) (h3:∀q,q≠lab 1->q≠N->q≠lab (4+2*i)->H2 q=H q) :
  Oi (λp=>if p=4+2*i then N else lab p) (b.set i {x with attrs:=ys}) H2:=by
 have Vi:∀p,p<4+2*b.n0->p≠1->lab p≠lab 1:=λp hp e=>h.ne hp sf e;have Ry:∀p,p<4+2*b.n0->p≠4+2*i->lab p≠lab (4+2*i):=λp hp e=>h.ne hp sf e;have Ra:∀p,p<4+2*b.n0->p≠4+2*i->lab p≠N:=λp hp e=>by
  rcases hN with rfl|hN
  ·exact Ry p hp e
  exact hN p hp
 have j0:∀p,p<4+2*b.n0->p≠1->p≠4+2*i->H2 (lab p)=H (lab p):=λp hp e1 e2=>h3 _ (Vi p hp e1) (Ra p hp e2) (Ry p hp e2);have hj:∀p,p≠4+2*i->(if p=4+2*i then N else lab p)=lab p:=λp e=>Ev e;refine Oi.mk' ?_ ?_ ?_ ?_ ?_ ?_ ?_
 ·intro p q hp hq e;change p<4+2*b.n0 at hp;change q<4+2*b.n0 at hq;by_cases e1:p=4+2*i<;>by_cases e2:q=4+2*i
  ·rw[e1,e2]
  ·rw[P8 e1,Ev e2] at e;exact absurd e.symm (Ra q hq e2)
  ·rw[Ev e1,P8 e2] at e;exact absurd e (Ra p hp e1)
  rw[Ev e1,Ev e2] at e;exact h.inj p q (OO.2 hp) (OO.2 hq) e
 ·simp only[hj 0 sf,hj 1 sf,hj 2 sf,hj 3 sf];rw[j0 0 sf sf sf,h.s];simp[Bn.set]
 ·simp only[hj 1 sf];rw[h1,Bn.TR];congr 2;refine fe λj=> ?_;simp only[JC,pz,yW];by_cases e:i=j
  ·subst e;simp only[Rc];congr 1;simp[NI,hi,hj (5+2*i) sf]
  simp only[e,nX];congr 1;funext z;simp only[NI];rw[Ev (show ¬4+2*j=4+2*i by omega),Ev (show ¬5+2*j=4+2*i by omega)]
 ·simp only[hj 2 sf];rw[j0 2 sf sf sf,h.f];rfl
 ·simp only[hj 3 sf];rw[j0 3 sf sf sf,h.a];rfl
 ·intro j FE;change j<b.n0 at FE;rw[b.Th hx];by_cases e:j=i
  ·subst e;simp only[Rc];exact h2
  simp only[hj (4+2*j) sf,e,nX];rw[j0 _ sf sf sf,h.row _ _ (Pt FE)]
 intro j FE;change j<b.n0 at FE;simp only[hj (5+2*j) sf];rw[j0 _ sf sf sf,h.row _ _ (Pu FE),b.Ti hx];split
 ·rename_i e;subst e;rw[Bn.Ru hx]
 rfl
def Oi.push (h:Oi lab b H) {y:Node} {N:Lb} (hn:b.n0<=b.nodes.length) (hN:N=lab 1\/∀p,p<4+2*b.n0->lab p≠N)
  (h0:H2 (lab 0)= .live ⟨3,[[.sl N 5 0 (b.nodes.length+1),.sl (lab 2) 1 0 b.fs.length,.sl (lab 3) 1 0 b.az.length]]⟩)
  (h1:H2 N= .live ⟨5,b.nodes.mapIdx (NI b.n0 lab)++[[.bool y.text,.str y.s,.list (cD y.attrs),.int .i64 y.parent,.list (y.kids.map xX)]]⟩) (h3:∀q,q≠lab 0->q≠lab 1->q≠N->H2 q=H q) :
  Oi (λp=>if p=1 then N else lab p) (b.put y) H2:=by
 have Ra:∀p,p<4+2*b.n0->p≠1->lab p≠N:=λp hp e=>by
  rcases hN with rfl|hN
  ·exact h.ne hp sf e
  exact hN p hp
 have j0:∀p,p<4+2*b.n0->p≠0->p≠1->H2 (lab p)=H (lab p):=λp hp e0 e1=>h3 _ (h.ne hp sf e0) (h.ne hp sf e1) (Ra p hp e1);have hj:∀p,p≠1->(if p=1 then N else lab p)=lab p:=λp e=>Ev e;have hlen:(b.put y).nodes.length=b.nodes.length+1:=by simp[Bn.put]
 have TT:∀j,j<b.n0->(b.put y).nodes[j]?=b.nodes[j]?:=λj hj=>by simp only[Bn.put];rw[bB sf]
 refine Oi.mk' ?_ ?_ ?_ ?_ ?_ ?_ ?_
 ·intro p q hp hq e;change p<4+2*b.n0 at hp;change q<4+2*b.n0 at hq;by_cases e1:p=1<;>by_cases e2:q=1
  ·rw[e1,e2]
  ·rw[P8 e1,Ev e2] at e;exact absurd e.symm (Ra q hq e2)
  ·rw[Ev e1,P8 e2] at e;exact absurd e (Ra p hp e1)
  rw[Ev e1,Ev e2] at e;exact h.inj p q (OO.2 hp) (OO.2 hq) e
 ·simp only[hj 0 sf,Rc,hj 2 sf,hj 3 sf,hlen];exact h0
 ·show H2 N=_;rw[h1,Bn.TS];have hfn:NI b.n0 (λp=>if p=1 then N else lab p)=NI b.n0 lab:=by
   funext j z;simp only[NI];rw[Ev (show ¬4+2*j=1 by omega),Ev (show ¬5+2*j=1 by omega)]
  rw[hfn];simp[NI,show ¬b.nodes.length<b.n0 by omega]
 ·simp only[hj 2 sf];rw[j0 2 sf sf sf,h.f];rfl
 ·simp only[hj 3 sf];rw[j0 3 sf sf sf,h.a];rfl
 ·intro j FE;change j<b.n0 at FE;simp only[hj (4+2*j) sf];rw[j0 _ sf sf sf,h.row _ _ (Pt FE)];simp only[Bn.at,TT j FE]
 intro j FE;change j<b.n0 at FE;simp only[hj (5+2*j) sf];rw[j0 _ sf sf sf,h.row _ _ (Pu FE)];simp only[Bn.kd,TT j FE]
def Oi.aiw (h:Oi lab b H) {i:Nat} {x:Node} {ys:List Int} (hi:b.n0<=i) (hx:b.nodes[i]?=some x)
  (h1:H2 (lab 1)= .live ⟨5,(b.nodes.mapIdx (NI b.n0 lab)).set i [.bool x.text,.str x.s,.list (cD x.attrs),.int .i64 x.parent,.list (ys.map xX)]⟩) (h2:∀q,q≠lab 1->H2 q=H q):Oi lab (b.set i {x with kids:=ys}) H2:=by
 have Vi:∀p,p<4+2*b.n0->p≠1->lab p≠lab 1:=λp hp e=>h.ne hp sf e;refine Oi.mk' (λp q hp hq=>h.inj p q (OO.2 hp) (OO.2 hq)) ?_ ?_ ?_ ?_ ?_ ?_
 ·rw[h2 _ (Vi 0 sf sf),h.s];simp[Bn.set]
 ·rw[h1,Bn.TR];simp[NI,show ¬i<b.n0 by omega]
 ·rw[h2 _ (Vi 2 sf sf),h.f];rfl
 ·rw[h2 _ (Vi 3 sf sf),h.a];rfl
 ·intro j hj;change j<b.n0 at hj;rw[h2 _ (Vi _ sf sf),h.row _ _ (Pt hj),b.Th hx,Ev sf]
 intro j hj;change j<b.n0 at hj;rw[h2 _ (Vi _ sf sf),h.row _ _ (Pu hj),b.Ti hx,Ev sf]
def Oi.get (h:Oi lab b H) {i:Nat} {x:Node} (hx:b.nodes[i]?=some x):(b.nodes.mapIdx (NI b.n0 lab))[i]?=some (NI b.n0 lab i x):=by
 rw[yW,hx];rfl
end

section
variable {P:Program} {G:Nat->Option (List IV)}
def WI:AC:=
(aM [zi 2] (.seq (aM [MR 3 0,aQ 4 (.BJ false (.t 3))] (.cond (.t 4) (aM [zi 2] (.gh (.own 2 2) .ret)) .skip)) (aM [aQ 5 (.lits 0 2 [(.str []),(.str [])] []),MR 6 0,aQ 7 (.app (.t 5) (.t 6) 2 32),MR 2 7] .ret)))
def W3:AC:=
(aM [zi 2] (.seq (aM [MR 3 0,aQ 4 (.BJ false (.t 3))] (.cond (.t 4) (aM [zi 2] (.gh (.own 2 1) .ret)) .skip)) (aM [aQ 5 (.lits 0 1 [(.int .i64 0)] []),MR 6 0,aQ 7 (.app (.t 5) (.t 6) 1 8),MR 2 7] .ret)))
def afR {iJ:Nat} (hF:aw P G iJ=some (8,[(none,2)],U8.bare)) (xs:List Attr) (hx:xs.length<=B):aa4 P G iJ [.list (cD xs)] 2 (cD xs):=by
 refine aaI (ac:=WI) hF tM aae ?_;unfold WI;simp only[↓aX,mX,seval,ab9];refine aaW (λh=> ?_) ?_
 ·simp only[↓aX,mX,seval];refine⟨.loc 2,?_,?_⟩
  ·rw[h];rfl
  rw[h];rfl
 simp only[↓aX,mX,seval];rw[Xp 2 32 7 (cD xs) (rq _) (nW _) (by rw[bp];unfold B at hx;omega) M3 rfl];simp only[↓aX,mX,seval];exact⟨.loc 7,rfl,aai⟩
def afS {l4:Nat} (hF:aw P G l4=some (8,[(none,2)],Wd.bare)) (xs:List Int) (hx:xs.length<=B):aa4 P G l4 [.list (xs.map xX)] 1 (xs.map xX):=by
 refine aaI (ac:=W3) hF tM aae ?_;unfold W3;simp only[↓aX,mX,seval,ab9];refine aaW (λh=> ?_) ?_
 ·simp only[↓aX,mX,seval];refine⟨.loc 2,?_,?_⟩
  ·rw[List.map_eq_nil_iff.1 h];rfl
  rw[h];rfl
 simp only[↓aX,mX,seval];rw[Xp 1 8 7 (xs.map xX) (YN _) (XD _) (by rw[G_];unfold B at hx;omega) M3 rfl];simp only[↓aX,mX,seval];exact⟨.loc 7,rfl,aai⟩
def VP:AC:=
(aM [gH 4 0] (.seq (aM [MR 6 0,oy 7 6,gH 8 0] (.block 0 (.loop (aM [et 9 .lss 8 7] (.seq (.cond (.t 9) .skip (.exit 0)) (.seq (.block 1 (aM [MR 10 8,MR 5 10] (aM [MR 11 1,MR 12 0,MR 13 5,jL 14 12 13 1,fm 15 14,et 16 .eql 11 15] (.cond (.t 16) (aM [MR 17 5,MR 4 17] .ret) .skip)))) (.cq [eY 18 .add 8 1,MR 8 18]))))))) (aM [aQ 4 (.iC (.c (.int .i64 (-1))))] .ret)))
end

section
variable {H:Hp} {l:Lb} {sz b d n c i m:Nat} {els news:List (List AV)} {xs:List IV}
def acp (hl:H l= .live ⟨sz,els⟩) (hn:n<=els.length) (he:jV sz xs) (hf:Flat xs) (h0:0<b) (hd:l≠ .loc d) (hc:n+xs.length<=c) (MH:n+xs.length<=els.length) :
  jN sz b d (.slk l sz 0 n c) (.list xs) H=some (.slk l sz 0 (n+xs.length) c,bD H l (.live ⟨sz,els.take n++aB xs++els.drop (n+xs.length)⟩)):=by
 unfold jN;rw[o7 he];have h1:(aB xs).length=xs.length:=lQ xs;simp only[EF,hf.one,not_true_eq_false,nX,hl,Su,hn,h0,Ss,ne_eq,hd,XM,h1,hc,MH,Rc];simpa using hf.one
def abv (hl:H l= .live ⟨sz,els⟩) (hn:n<=els.length) (he:jV sz xs) (hf:Flat xs) (h0:0<b) (hd:l≠ .loc d) (hc:c<n+xs.length) (hb:(n+xs.length)*b<=140737488355328) (hu:H (.loc d)= .unused) :
  jN sz b d (.slk l sz 0 n c) (.list xs) H=some (.sl (.loc d) sz 0 (n+xs.length),bD H (.loc d) (.live ⟨sz,els.take n++aB xs⟩)):=by
 unfold jN;rw[o7 he];have h1:(aB xs).length=xs.length:=lQ xs;have KD:¬(n+xs.length<=c):=sf
 simp only[EF,hl,Su,hn,h0,ne_eq,hd,XM,h1,KD,hb,hu,Rc,nX,A5];simpa using hf.one
def aeJ {z:List AV} {k:IntKind} (hl:H l= .live ⟨sz,els⟩) (hn:n<=els.length) (hc:c<n+m) (hb:(n+m)*b<=140737488355328) (hu:H (.loc d)= .unused) :
  ud sz b d z (.slk l sz 0 n c) (.int k (m:Int)) H=some (.sl (.loc d) sz 0 (n+m),bD H (.loc d) (.live ⟨sz,els.take n++List.replicate m z⟩)):=by
 unfold ud;simp only[hl,Su,hn,QJ,Qj,hc,hb,hu,A5,Rc]
def aa5 {x y:AV} (hs:al_ sz x H=some news) (hp:EU y=some (l,sz,i,n)) (hl:H l= .live ⟨sz,els⟩) (qB:i+n<=els.length) (hm:m=Nat.min news.length n) (ho:∀cs∈news.take m,AV.oJ cs) :
  sW sz y x H=some (.int .i64 (m:Int),bD H l (.live ⟨sz,els.take i++news.take m++els.drop (i+m)⟩)):=by
 unfold sW;subst hm;simp only[hs,EF,hp,hl,Su,qB,Rc];rw[Ev (by simpa using ho)];have:(news.take (Nat.min news.length n)).length=Nat.min news.length n:=by rw[tp];exact ov (Z7 _ _)
 rw[this]
end
def Z' {xs:List IV} {rest:List (List AV)} {i k:Nat} (h:i+k<=xs.length):((aB xs++rest).drop i).take k=aB ((xs.drop i).take k):=by
 have h1:=lQ xs;rw[Gk sf,pI aak];simp[aB,Ny,JD]
def Yp {xs:List IV} {rest:List (List AV)} {k:Nat} (h:k<=xs.length):(aB xs++rest).take k=aB (xs.take k):=by
 have h1:=lQ xs;rw[pI sf];simp[aB,JD]
def Flat.part {xs:List IV} (h:Flat xs) (i k:Nat):Flat ((xs.drop i).take k):=λy hy=>h y (EH (ec hy))

def MY (v:Bool) (s:Bs):Option Bs:=match bm v s with
 |some (t,[])=>some t
 |_=>none
abbrev yu (v:Bool) (c:UInt8):Prop:=c=60\/(c=34/\v=true)
theorem OS {c:UInt8}:∀(p x r:Bs),c∉p->p.isPrefixOf (x++c::r)=p.isPrefixOf x
 |[],x,r,_=>by simp[List.isPrefixOf]
 |d::p,[],r,h=>by
  simp only[PY,Xd] at h;simp[List.isPrefixOf,Ss h.1]
 |d::p,y::x,r,h=>by
  simp only[PY,Xd] at h;simp only[List.cons_append,List.isPrefixOf];rw[OS p x r h.2]
def R8 {c:UInt8} (hc:c=60\/c=34) (x r:Bs):og (x++c::r)=(og x).map λy=>(y.1,y.2++c::r):=by
 have h:∀p∈[qH,rC,kD,jc],c∉p:=by
  rcases hc with rfl|rfl<;>decide
 have hl:∀p:Bs,p.isPrefixOf x=true->(x++c::r).drop p.length=x.drop p.length++c::r:=λp hp=>by
  obtain⟨q,rfl⟩:=EJ.1 hp;simp
 unfold og;rw[OS qH x r (h _ tM),OS rC x r (h _ tM),OS kD x r (h _ tM),OS jc x r (h _ tM)];split
 ·rename_i hp;have:=hl _ hp;simp only[qH,gL,Rm] at this;simp[this]
 split
 ·rename_i hp;have:=hl _ hp;simp only[rC,gL,Rm] at this;simp[this]
 split
 ·rename_i hp;have:=hl _ hp;simp only[kD,gL,Rm] at this;simp[this]
 split
 ·rename_i hp;have:=hl _ hp;simp only[jc,gL,Rm] at this;simp[this]
 rfl
def vW (v:Bool):bm v []=some ([],[]):=by rw[bm]
def aou {v:Bool} {c:UInt8} (hc:yu v c) (r:Bs):bm v (c::r)=some ([],c::r):=by rw[bm,P8 hc]
def O7 {v:Bool}:∀(n:Nat) (x t r:Bs),x.length<=n->(∀c∈x,¬yu v c)->bm v x=some (t,r)->r=[]:=by
 intro n;induction n with
 |zero=>
  intro x t r hn _ h;have:x=[]:=Rg.1 sf;subst this;rw[bm] at h;simp at h;exact h.2
 |succ n ih=>
 intro x t r hn hs h;cases x with
 |nil=>rw[bm] at h;simp at h;exact h.2
 |cons c q=>
 rw[bm,Ev (hs c tM)] at h;split at h
 ·split at h
  ·rename_i e q' he;have bI:=nw he;obtain⟨⟨t',r'⟩,h1,h2⟩:=jF.1 h;simp only[eS] at h2;obtain⟨rfl,rfl⟩:=h2;refine ih q' t' r' (by simp at bI hn;omega) (λd hd=>hs d ?_) h1;have:q' <:+ c::q:=by
    unfold og at he;split at he
    ·simp only[di,eS] at he;rw[<-he.2];exact Wt _ _
    split at he
    ·simp only[di,eS] at he;rw[<-he.2];exact Wt _ _
    split at he
    ·simp only[di,eS] at he;rw[<-he.2];exact Wt _ _
    split at he
    ·simp only[di,eS] at he;rw[<-he.2];exact Wt _ _
    simp at he
   exact this.subset hd
  simp at h
 split at h
 ·simp at h
 obtain⟨⟨t',r'⟩,h1,h2⟩:=jF.1 h;simp only[eS] at h2;obtain⟨rfl,rfl⟩:=h2;exact ih q t' r' (by simp at hn;omega) (λd hd=>hs d (by simp[hd])) h1
def Qs {s q:Bs} {e:UInt8} (he:og s=some (e,q)):q <:+ s:=by
 unfold og at he;split at he
 ·simp only[di,eS] at he;rw[<-he.2];exact Wt _ _
 split at he
 ·simp only[di,eS] at he;rw[<-he.2];exact Wt _ _
 split at he
 ·simp only[di,eS] at he;rw[<-he.2];exact Wt _ _
 split at he
 ·simp only[di,eS] at he;rw[<-he.2];exact Wt _ _
 simp at he
def RC {v:Bool} {c:UInt8} (hc:yu v c):∀(n:Nat) (x r:Bs),x.length<=n->(∀d∈x,¬yu v d)->bm v (x++c::r)=(bm v x).map λy=>(y.1,y.2++c::r):=by
 have KD:c=60\/c=34:=hc.imp id And.left;intro n;induction n with
 |zero=>
  intro x r hn _;have:x=[]:=Rg.1 sf;subst this;rw[List.nil_append,aou hc,vW];rfl
 |succ n ih=>
 intro x r hn hs;cases x with
 |nil=>rw[List.nil_append,aou hc,vW];rfl
 |cons d q=>
 have hd:=hs d tM;have hq:∀e∈q,¬yu v e:=λe he=>hs e (by simp[he]);rw[List.cons_append]
 conv=>lhs;rw[bm,Ev hd]
 conv=>rhs;rw[bm,Ev hd]
 split
 ·rename_i qv;have e1:=R8 KD (d::q) r;rw[List.cons_append] at e1;cases he:og (d::q) with
  |none=>
   rw[he] at e1;split
   ·rename_i e q' h;rw[e1] at h;cases h
   rfl
  |some y=>
  obtain⟨e,q'⟩:=y;rw[he] at e1;have bI:=nw he;split
  ·rename_i e2 q2 h;rw[e1] at h;simp only[bT,di,eS] at h;obtain⟨rfl,rfl⟩:=h;rw[ih q' r (by simp at bI hn;omega) (λz hz=>hs z ((Qs he).subset hz))];cases bm v q'<;>rfl
  rename_i h;rw[e1] at h;cases h
 split
 ·rfl
 rw[ih q r (by simp at hn;omega) hq];cases bm v q<;>rfl
def Oz {v:Bool} {c:UInt8} (hc:yu v c) {x:Bs} (hs:∀d∈x,¬yu v d) (r:Bs):bm v (x++c::r)=(MY v x).map λt=>(t,c::r):=by
 rw[RC hc _ x r (PW _) hs];unfold MY;cases h:bm v x with
 |none=>rfl
 |some y=>
 obtain⟨t,q⟩:=y;have:=O7 _ x t q (PW _) hs h;subst this;rfl
def Qb {v:Bool} {x:Bs} (hs:∀d∈x,¬yu v d):bm v x=(MY v x).map λt=>(t,[]):=by
 unfold MY;cases h:bm v x with
 |none=>rfl
 |some y=>
 obtain⟨t,q⟩:=y;have:=O7 _ x t q (PW _) hs h;subst this;rfl
def RD {v:Bool}:∀(n:Nat) (x t:Bs),x.length<=n->MY v x=some t->(62:UInt8)∉x/\(60:UInt8)∉x:=by
 intro n;induction n with
 |zero=>
  intro x t hn _;have:x=[]:=Rg.1 sf;subst this;simp
 |succ n ih=>
 intro x t hn h;cases x with
 |nil=>simp
 |cons c q=>
 unfold MY at h;split at h
 ·rename_i t' he;rw[bm] at he;split at he
  ·simp at he
  rename_i g_;split at he
  ·rename_i qv;split at he
   ·rename_i e q' tw;obtain⟨⟨t2,r2⟩,h1,h2⟩:=jF.1 he;simp only[eS] at h2;obtain⟨_,rfl⟩:=h2;have bI:=nw tw;have:=ih q' t2 (by simp at bI hn;omega) (by unfold MY;rw[h1]);have hw:∃w:Bs,c::q=w++q'/\(62:UInt8)∉w/\(60:UInt8)∉w:=by
     have key:∀p:Bs,p.isPrefixOf (c::q)=true->(62:UInt8)∉p->(60:UInt8)∉p->∀k,k=p.length->∃w:Bs,c::q=w++(c::q).drop k/\(62:UInt8)∉w/\(60:UInt8)∉w:=λp hp h1 h2 k hk=>by
      obtain⟨z,hz⟩:=EJ.1 hp;exact⟨p,by rw[<-hz,hk];simp,h1,h2⟩
     unfold og at tw;split at tw
     ·rename_i hp;simp only[di,eS] at tw;rw[<-tw.2];exact key qH hp M3 M3 _ rfl
     split at tw
     ·rename_i hp;simp only[di,eS] at tw;rw[<-tw.2];exact key rC hp M3 M3 _ rfl
     split at tw
     ·rename_i hp;simp only[di,eS] at tw;rw[<-tw.2];exact key kD hp M3 M3 _ rfl
     split at tw
     ·rename_i hp;simp only[di,eS] at tw;rw[<-tw.2];exact key jc hp M3 M3 _ rfl
     simp at tw
    obtain⟨w,e1,e2,e3⟩:=hw;rw[e1];simp only[QL,Xd];exact⟨⟨e2,this.1⟩,e3,this.2⟩
   simp at he
  split at he
  ·simp at he
  rename_i yH;obtain⟨⟨t2,r2⟩,h1,h2⟩:=jF.1 he;simp only[eS] at h2;obtain⟨_,rfl⟩:=h2;have:=ih q t2 (by simp at hn;omega) (by unfold MY;rw[h1]);simp only[PY,Xd];exact⟨⟨λe=>yH (.inl e.symm),this.1⟩,λe=>g_ (.inl e.symm),this.2⟩
 simp at h

def Nh (p:Bs):Bs->Option (Bs×Bs)
 |[]=>none
 |c::r=>if p.isPrefixOf (c::r) then some ([],(c::r).drop p.length) else(Nh p r).map λx=>(c::x.1,x.2)
theorem NO {p:Bs}:∀{s a b:Bs},Nh p s=some (a,b)->s=a++p++b
 |[],a,b,h=>by simp[Nh] at h
 |c::r,a,b,h=>by
  unfold Nh at h;split at h
  ·rename_i hp;obtain⟨q,hq⟩:=EJ.1 hp;simp only[di,eS] at h;obtain⟨rfl,rfl⟩:=h;rw[<-hq];simp
  obtain⟨⟨a',b'⟩,h1,h2⟩:=jF.1 h;simp only[eS] at h2;obtain⟨rfl,rfl⟩:=h2;rw[NO h1];simp
def Qc {p s a b:Bs} (hp:0<p.length) (h:Nh p s=some (a,b)):b.length<s.length:=by
 rw[NO h];simp;omega
theorem O8 {c:UInt8} {p:Bs}:∀(a b:Bs),c∉a->Nh (c::p) (a++(c::p)++b)=some (a,b)
 |[],b,_=>by
  simp only[List.nil_append,List.cons_append,Nh];rw[P8 (by rw[<-List.cons_append,EJ];exact⟨b,rfl⟩)];simp
 |d::a,b,h=>by
  simp only[PY,Xd] at h;simp only[List.cons_append,Nh];rw[Ev (by simp[List.isPrefixOf,h.1])];have:=O8 (c:=c) (p:=p) a b h.2;simp only[List.cons_append,SS] at this ⊢;rw[this];rfl
theorem asV {c:UInt8}:∀{s:Bs},Nh [c] s=none↔c∉s
 |[]=>by simp[Nh]
 |d::r=>by
  unfold Nh;by_cases e:c=d
  ·subst e;simp[List.isPrefixOf]
  rw[Ev (by simp[List.isPrefixOf,e])];simp[asV (s:=r),e]
theorem Nn {c:UInt8}:∀{s a b:Bs},Nh [c] s=some (a,b)->s=a++c::b/\c∉a
 |[],a,b,h=>by simp[Nh] at h
 |d::r,a,b,h=>by
  unfold Nh at h;split at h
  ·rename_i hp;simp only[di,eS] at h;obtain⟨rfl,rfl⟩:=h;simp[List.isPrefixOf] at hp;subst hp;simp
  rename_i hp;obtain⟨⟨a',b'⟩,h1,h2⟩:=jF.1 h;simp only[eS] at h2;obtain⟨rfl,rfl⟩:=h2;obtain⟨e1,e2⟩:=Nn h1;refine⟨by rw[e1];rfl,?_⟩;simp only[PY,Xd];exact⟨λe=>hp (by simp[List.isPrefixOf,e]),e2⟩
def Rr {c:UInt8} {a b:Bs} (h:c∉a):Nh [c] (a++c::b)=some (a,b):=by
 have:=O8 (c:=c) (p:=[]) a b h;simpa using this
def Tl (T:Bs):Prop:=(∃q,T=62::q)\/∃q,T=47::62::q
def Tl.low {T:Bs} (h:Tl T):∀c q,T=c::q->akP c=false:=by
 rintro c q rfl;rcases h with⟨_,h⟩|⟨_,h⟩<;>(simp only[Q5] at h;rw[h.1];rfl)
def Tl.head {T:Bs} (h:Tl T):∃c q,T=c::q/\(c=62\/c=47):=by
 rcases h with⟨q,rfl⟩|⟨q,rfl⟩
 ·exact⟨_,_,rfl,.inl rfl⟩
 exact⟨_,_,rfl,.inr rfl⟩
def Qt {v:Bool}:∀(n:Nat) (x q:Bs),x.length<=n->(∀d∈x,¬yu v d)->(v=true->(34:UInt8)∉x)->bm v (x++62::q)=none:=by
 intro n;induction n with
 |zero=>
  intro x q hn _ _;have:x=[]:=Rg.1 sf;subst this;rw[List.nil_append,bm,Ev tM,Ev M3,P8 tM]
 |succ n ih=>
 intro x q hn hs hv;cases x with
 |nil=>rw[List.nil_append,bm,Ev tM,Ev M3,P8 tM]
 |cons d x=>
 rw[List.cons_append,bm,Ev (hs d tM)];split
 ·split
  ·rename_i e r he;have bI:=nw he;have yN:∀p:Bs,(62:UInt8)∉p->p.isPrefixOf (d::(x++62::q))=true->∃y,d::x=p++y:=λp hp h=>by
    rw[<-List.cons_append,OS p (d::x) q hp] at h;obtain⟨y,hy⟩:=EJ.1 h;exact⟨y,hy.symm⟩
   have key:∃p y,d::x=p++y/\r=y++62::q:=by
    have h0:∀(p:Bs) (k:Nat),k=p.length->(62:UInt8)∉p->p.isPrefixOf (d::(x++62::q))=true->(d::(x++62::q)).drop k=r->∃p y,d::x=p++y/\r=y++62::q:=λp k hk hp h hr=>by
     obtain⟨y,hy⟩:=yN p hp h;refine⟨p,y,hy,?_⟩;rw[<-hr,<-List.cons_append,hy,hk];simp
    unfold og at he;split at he
    ·rename_i hp;simp only[di,eS] at he;exact h0 qH 4 rfl M3 hp he.2
    split at he
    ·rename_i hp;simp only[di,eS] at he;exact h0 rC 4 rfl M3 hp he.2
    split at he
    ·rename_i hp;simp only[di,eS] at he;exact h0 kD 5 rfl M3 hp he.2
    split at he
    ·rename_i hp;simp only[di,eS] at he;exact h0 jc 6 rfl M3 hp he.2
    simp at he
   obtain⟨p,y,e1,rfl⟩:=key;have hl:y.length<=n:=by
    simp at bI hn;omega
   rw[ih y q hl (λz hz=>hs z (by rw[e1];simp[hz])) (λwW hz=>hv wW (by rw[e1];simp[hz]))];rfl
  rfl
 split
 ·rfl
 rw[ih x q (by simp at hn;omega) (λz hz=>hs z (by simp[hz])) (λwW hz=>hv wW (by simp[hz]))];rfl
def Nj (s:Bs):Option (Attr×Bs):=
 (Nh [61,34] s).bind λx=>(Nh [34] x.2).bind λy=>(MY true y.1).bind λv=>if named x.1=true then some (⟨x.1,v⟩,y.2) else none
def OT {s r:Bs} {a:Attr} (h:Nj s=some (a,r)):r.length<s.length:=by
 unfold Nj at h;obtain⟨⟨n,x⟩,h1,h⟩:=yV.1 h;obtain⟨⟨y,z⟩,h2,h⟩:=yV.1 h;obtain⟨v,h3,h⟩:=yV.1 h;split at h
 ·simp only[di,eS] at h;obtain⟨_,rfl⟩:=h;have:=Qc tM h1;have:=Qc tM h2;simp only at *;omega
 simp at h
def OU {s n r:Bs}:l6 s=some (n,r)↔named n=true/\s=n++r/\∀c q,r=c::q->akP c=false:=by
 constructor
 ·intro h;obtain⟨e,Vi⟩:=mE h;unfold l6 at h;simp only at h;split at h
  ·simp at h
  rename_i hn;simp only[di,eS] at h;obtain⟨rfl,rfl⟩:=h;refine⟨(mF _).2 ⟨λc hc=> ?_,Vi,sf⟩,e,?_⟩
  ·exact Rh.1 Xm c hc
  intro c q hq;have:=Xl akP s;rw[hq] at this;simpa using this
 rintro⟨h1,rfl,h2⟩;exact mG h1 h2
def PG {n:Bs} (hn:named n=true) {c:UInt8} (hc:akP c=false):c∉n:=λh=>by
 have:=((mF n).1 hn).1 c h;rw[hc] at this;cases this
def RE {s T : Bs} (hT : Tl T) (hs : (62 : UInt8) ∉ s) : l7 (s ++ T) = (Nj s).map λx => (x.1,x.2 ++ T) := by
 have val : ∀ y : Bs,(62 : UInt8) ∉ y -> ((bm true (y ++ T)).bind λz => (iA [34] z.2).map λq => (z.1,q)) = (Nh [34] y).bind λw => (MY true w.1).map λv => (v,w.2 ++ T) := by
   intro y hy
   cases GO : Nh [34] y with
   | none =>
     rw [asV] at GO
     simp only [X6]
     cases tv : Nh [60] y with
     | some w =>
       obtain ⟨a,b⟩ := w
       obtain ⟨rfl,h1⟩ := Nn tv
       have g_ : ∀ d ∈ a,¬ yu true d := by
         rintro d hd (rfl | ⟨rfl,_⟩)
         · exact h1 hd
         · exact GO (by simp [hd])
       rw [show a ++ 60 :: b ++ T = a ++ 60 :: (b ++ T) by simp,Oz (.inl rfl) g_]
       cases MY true a with
       | none => rfl
       | some t => simp [iA,List.isPrefixOf]
     | none =>
       rw [asV] at tv
       have g_ : ∀ d ∈ y,¬ yu true d := by
         rintro d hd (rfl | ⟨rfl,_⟩)
         · exact tv hd
         · exact GO hd
       rcases hT with ⟨q,rfl⟩ | ⟨q,rfl⟩
       · rw [Qt _ y q (PW _) g_ (λ_ => GO)]; rfl
       · rw [show y ++ 47 :: 62 :: q = (y ++ [47]) ++ 62 :: q by simp,Qt _ (y ++ [47]) q (PW _) (by
           intro d hd
           simp only [QL,bY] at hd
           rcases hd with hd | rfl
           · exact g_ d hd
           · simp) (λ_ h => by simp only [QL,bY] at h; rcases h with h | h; exact GO h; cases h)]; rfl
   | some w =>
     obtain ⟨a,b⟩ := w
     obtain ⟨rfl,h1⟩ := Nn GO
     simp only [EF]
     cases tv : Nh [60] a with
     | some w =>
       obtain ⟨a1,b1⟩ := w
       obtain ⟨rfl,h2⟩ := Nn tv
       have g_ : ∀ d ∈ a1,¬ yu true d := by
         rintro d hd (rfl | ⟨rfl,_⟩)
         · exact h2 hd
         · exact h1 (by simp [hd])
       rw [show a1 ++ 60 :: b1 ++ 34 :: b ++ T = a1 ++ 60 :: (b1 ++ 34 :: b ++ T) by simp,Oz (.inl rfl) g_]
       have : MY true (a1 ++ 60 :: b1) = none := by
         cases h : MY true (a1 ++ 60 :: b1) with
         | none => rfl
         | some t => exact absurd tM (RD _ _ t (PW _) h).2
       rw [this]
       cases MY true a1 with
       | none => rfl
       | some t => simp [iA,List.isPrefixOf]
     | none =>
       rw [asV] at tv
       have g_ : ∀ d ∈ a,¬ yu true d := by
         rintro d hd (rfl | ⟨rfl,_⟩)
         · exact tv hd
         · exact h1 hd
       rw [show a ++ 34 :: b ++ T = a ++ 34 :: (b ++ T) by simp,Oz (.inr ⟨rfl,rfl⟩) g_]
       cases MY true a with
       | none => rfl
       | some t => simp [iA,List.isPrefixOf]
 have e1 : l7 (s ++ T) = (l6 (s ++ T)).bind λx => (iA [61,34] x.2).bind λr => (((bm true r).bind λz => (iA [34] z.2).map λq => (z.1,q))).map λw => (⟨x.1,w.1⟩,w.2) := by
   unfold l7
   congr 1; funext x
   congr 1; funext r
   cases bm true r with
   | none => rfl
   | some z => simp only [EF]; cases iA [34] z.2 <;> rfl
 rw [e1]
 cases hc : Nh [61,34] s with
 | some w =>
   obtain ⟨n,y⟩ := w
   have e := NO hc
   unfold Nj
   rw [hc]
   simp only [EF]
   by_cases hn : named n = true
   · have h1 : l6 (s ++ T) = some (n,[61,34] ++ (y ++ T)) := OU.2 ⟨hn,by rw [e]; simp,by intro c q h; simp only [List.cons_append,Q5] at h; rw [<- h.1]; rfl⟩
     rw [h1]
     simp only [EF]
     rw [gR]
     simp only [EF]
     rw [val y (by intro h; exact hs (by rw [e]; simp [h]))]
     cases Nh [34] y with
     | none => rfl
     | some w =>
       simp only [EF]
       cases MY true w.1 with
       | none => rfl
       | some v => simp [hn]
   · have h2 : (Nh [34] y).bind (λw => (MY true w.1).bind λv => if named n = true then some ((⟨n,v⟩ : Attr),w.2) else none) = none := by
       cases Nh [34] y with
       | none => rfl
       | some w => simp only [EF]; cases MY true w.1 <;> simp [hn]
     rw [h2]
     simp only [Yh]
     cases hf : l6 (s ++ T) with
     | none => rfl
     | some x =>
       obtain ⟨n',r⟩ := x
       simp only [EF]
       cases ht : iA [61,34] r with
       | none => rfl
       | some r' =>
         exfalso
         obtain ⟨k1,k2,k3⟩ := OU.1 hf
         unfold iA at ht
         split at ht
         · rename_i hp
           obtain ⟨z,rfl⟩ := EJ.1 hp
           have : Nh [61,34] (s ++ T) = some (n',z) := by rw [k2,<- SS]; exact O8 n' z (PG k1 rfl)
           have h3 : s ++ T = n ++ [61,34] ++ (y ++ T) := by rw [e]; simp
           have h4 : n = n' := by
             have hlen : ∀ (s a b : Bs),Nh [61,34] s = some (a,b) -> ∀ t,Nh [61,34] (s ++ t) = some (a,b ++ t) := by
               intro s
               induction s with
               | nil => intro a b h; simp [Nh] at h
               | cons c s ih =>
                 intro a b h t
                 unfold Nh at h
                 simp only [List.cons_append]
                 unfold Nh
                 split at h
                 · rename_i hp
                   obtain ⟨w,hw⟩ := EJ.1 hp
                   simp only [di,eS] at h
                   obtain ⟨rfl,rfl⟩ := h
                   rw [<- List.cons_append,<- hw]
                   rw [P8 (by rw [EJ,SS]; exact ⟨_,rfl⟩)]
                   simp
                 · rename_i hp
                   obtain ⟨⟨a',b'⟩,g1,g2⟩ := jF.1 h
                   simp only [eS] at g2
                   obtain ⟨rfl,rfl⟩ := g2
                   have e := NO g1
                   rw [Ev,ih a' b' g1 t]
                   · rfl
                   · intro hq
                     apply hp
                     rw [e] at hq ⊢
                     cases a' with
                     | nil => simpa [List.isPrefixOf] using hq
                     | cons a0 a' => simpa [List.isPrefixOf] using hq
             have := (hlen s n y hc T).symm.trans this
             simp only [di,eS] at this
             exact this.1
           exact hn (h4 ▸ k1)
         · simp at ht
 | none =>
   have h2 : Nj s = none := by unfold Nj; rw [hc]; rfl
   rw [h2]
   simp only [Yh]
   cases hf : l6 (s ++ T) with
   | none => rfl
   | some x =>
     obtain ⟨n',r⟩ := x
     simp only [EF]
     cases ht : iA [61,34] r with
     | none => rfl
     | some r' =>
       exfalso
       obtain ⟨k1,k2,k3⟩ := OU.1 hf
       unfold iA at ht
       split at ht
       · rename_i hp
         obtain ⟨z,rfl⟩ := EJ.1 hp
         obtain ⟨c,q,T6,MH⟩ := hT.head
         have OZ : ∃ z',s = n' ++ [61,34] ++ z' := by
           have h5 := Y4.1 k2
           rcases h5 with ⟨w,h6,h7⟩ | ⟨w,h6,h7⟩
           · -- s is a part of the name
             exfalso
             cases w with
             | nil =>
               simp only [List.nil_append] at h7
               rw [T6] at h7
               simp only [List.cons_append,Q5] at h7
               rcases MH with rfl | rfl <;> simp at h7
             | cons w0 w =>
               rw [T6] at h7
               simp only [List.cons_append,Q5] at h7
               have : c ∈ n' := by rw [h6,<- h7.1]; simp
               rcases MH with rfl | rfl
               · exact PG k1 rfl this
               · exact PG k1 rfl this
           · -- w ++ T = =" ++ z
             rw [T6] at h7
             cases w with
             | nil => simp only [List.cons_append,List.nil_append,Q5] at h7; rcases MH with rfl | rfl <;> simp at h7
             | cons w0 w =>
               cases w with
               | nil => simp only [List.cons_append,List.nil_append,Q5] at h7; rcases MH with rfl | rfl <;> simp at h7
               | cons w1 w =>
                 simp only [List.cons_append,List.nil_append,Q5] at h7
                 exact ⟨w,by rw [h6,<- h7.1,<- h7.2.1]; simp⟩
         obtain ⟨z',HZ⟩ := OZ
         have := O8 (c := 61) (p := [34]) n' z' (PG k1 rfl)
         rw [<- HZ,hc] at this
         cases this
       · simp at ht

def Nc (m:Bs):Option (List Attr):=
 if m.all isSp then some []
 else if(m.dropWhile isSp).length=m.length then none
 else match h:Nj (m.dropWhile isSp) with
  |some (a,r)=>(Nc r).map λl=>a::l
  |none=>none
termination_by m.length
decreasing_by
 have:=OT h;have:=jf isSp m;omega
def RF {s r:Bs} {a:Attr} (h:Nj s=some (a,r)) (hs:(62:UInt8)∉s):(62:UInt8)∉r:=by
 unfold Nj at h;obtain⟨⟨n,x⟩,h1,h⟩:=yV.1 h;obtain⟨⟨y,z⟩,h2,h⟩:=yV.1 h;obtain⟨v,h3,h⟩:=yV.1 h;split at h
 ·simp only[di,eS] at h;obtain⟨_,rfl⟩:=h;have e1:=NO h1;have e2:=NO h2;intro hm;apply hs;simp only at e2;rw[e1,e2];simp[hm]
 simp at h
theorem OV {p:UInt8->Bool}:∀{s:Bs},s.dropWhile p=[]↔∀x∈s,p x=true
 |[]=>by simp
 |c::r=>by
  by_cases h:p c=true
  ·simp[Vk,h,OV (p:=p) (s:=r)]
  simp[Vk,h]
def Pe {m T:Bs} (hT:Tl T):(m++T).dropWhile isSp=m.dropWhile isSp++T:=by
 induction m with
 |nil=>
  rcases hT with⟨q,rfl⟩|⟨q,rfl⟩<;>rfl
 |cons c m ih=>
 by_cases h:isSp c=true
 ·simp[Vk,h,ih]
 simp[Vk,h]
def RG {T:Bs} (hT:Tl T):∀(n:Nat) (m:Bs),m.length<=n->(62:UInt8)∉m ->
   (∀az,Nc m=some az->asA (m++T)=some (az,T)) /\
   (∀az r,asA (m++T)=some (az,r)->∃r',r=r'++T/\r' <:+ m/\(r'=[]->Nc m=some az)):=by
 intro n
 induction n with
 |zero=>
   intro m hn _
   have:m=[]:=Rg.1 sf
   subst this
   have e:asA ([]++T)=some ([],T):=by
     have hd:T.dropWhile isSp=T:=by simpa using Pe (m:=[]) hT
     rw[List.nil_append,asA,hd,Ev (by simp[iL])]
   refine⟨λaz h=> ?_,λaz r h=> ?_⟩
   · rw[Nc] at h;simp at h;subst h;exact e
   rw[e] at h;simp only[di,eS] at h
   obtain⟨rfl,rfl⟩:=h
   exact⟨[],rfl,WN _,λ_=>by rw[Nc];simp⟩
 |succ n ih=>
 intro m hn hm
 have hd:=Pe (m:=m) hT
 by_cases dN:m.all isSp=true
 · have Lq:m.dropWhile isSp=[]:=by
     rw[OV]
     exactλx hx=>by simpa using Rh.1 dN x hx
   have e:asA (m++T)=some ([],T):=by
     rw[asA,hd,Lq,List.nil_append,Ev]
     obtain⟨c,q,rfl,hc⟩:=hT.head
     rcases hc with rfl|rfl<;>simp[iL]
   have e2:Nc m=some []:=by rw[Nc,P8 dN]
   refine⟨λaz h=> ?_,λaz r h=> ?_⟩
   · rw[e2] at h;cases h;exact e
   rw[e] at h;simp only[di,eS] at h
   obtain⟨rfl,rfl⟩:=h
   exact⟨[],rfl,List.nil_suffix,λ_=>e2⟩
 obtain⟨c,q,TH⟩:∃c q,m.dropWhile isSp=c::q:=by
   cases h:m.dropWhile isSp with
   |nil=>
     rw[OV] at h
     exact absurd (Rh.2 λx hx=>by simpa using h x hx) dN
   |cons c q=>exact⟨c,q,rfl⟩
 have S9:m.dropWhile isSp <:+ m:=Wa _
 have K3:(62:UInt8)∉m.dropWhile isSp:=λh=>hm (S9.subset h)
 have T7:c≠62:=by rintro rfl;exact K3 (by rw[TH];simp)
 have stop:iL (m++T) (m.dropWhile isSp++T)=false->(Nc m=none)->(∀az,Nc m=some az->asA (m++T)=some (az,T)) /\
     (∀az r,asA (m++T)=some (az,r)->∃r',r=r'++T/\r' <:+ m/\(r'=[]->Nc m=some az)):=by
   intro h1 h2
   refine⟨λaz h=>(by rw[h2] at h;cases h),λaz r h=> ?_⟩
   rw[asA,hd,Ev (by rw[h1];simp)] at h
   simp only[di,eS] at h
   obtain⟨rfl,rfl⟩:=h
   exact⟨_,rfl,S9,λh=>by rw[TH] at h;cases h⟩
 by_cases hl:(m.dropWhile isSp).length=m.length
 · refine stop ?_ ?_
   · simp[iL,hl]
   rw[Nc,Ev dN,P8 hl]
 by_cases HE:c=47
 · subst HE
   refine stop ?_ ?_
   · rw[TH];simp[iL]
   rw[Nc,Ev dN,Ev hl]
   have:Nj (m.dropWhile isSp)=none:=by
     cases h:Nj (m.dropWhile isSp) with
     |none=>rfl
     |some x=>
     exfalso
     unfold Nj at h
     obtain⟨⟨nm,x1⟩,h1,h⟩:=yV.1 h
     obtain⟨⟨y,z⟩,h2,h⟩:=yV.1 h
     obtain⟨v,h3,h⟩:=yV.1 h
     split at h
     · rename_i QM
       have e1:=NO h1
       rw[TH] at e1
       obtain⟨n1,n2,_⟩:=(mF _).1 QM
       cases nm with
       |nil=>exact n2 rfl
       |cons n0 nm=>
       simp only[List.cons_append,Q5] at e1
       have:=n1 n0 tM
       rw[<-e1.1] at this;revert this;decide
     simp at h
   split
   · rename_i h;rw[this] at h;cases h
   rfl
 have bI:(m.dropWhile isSp).length<m.length:=by have:=jf isSp m;omega
 have wv:iL (m++T) (m.dropWhile isSp++T)=true:=by
   rw[TH] at bI ⊢
   simp only[iL,List.cons_append,QH,dj,Ve,SV]
   exact⟨by simp at bI ⊢;omega,T7,HE⟩
 have h1:=RE hT K3
 cases hr:Nj (m.dropWhile isSp) with
 |none=>
   rw[hr] at h1
   refine⟨λaz h=> ?_,λaz r h=> ?_⟩
   · rw[Nc,Ev dN,Ev hl] at h
     split at h
     · rename_i h';rw[hr] at h';cases h'
     cases h
   rw[asA,hd,P8 wv] at h
   split at h
   · rename_i h';rw[h1] at h';cases h'
   cases h
 |some x=>
 obtain⟨a,nx⟩:=x
 rw[hr] at h1
 have Lu:=RF hr K3
 have BR:=OT hr
 obtain⟨i1,i2⟩:=ih nx sf Lu
 have Uz:nx <:+ m:=by
   refine XJ ?_ S9
   unfold Nj at hr
   obtain⟨⟨n',x'⟩,g1,hr⟩:=yV.1 hr
   obtain⟨⟨y,z⟩,g2,hr⟩:=yV.1 hr
   obtain⟨v,g3,hr⟩:=yV.1 hr
   split at hr
   · simp only[di,eS] at hr
     obtain⟨_,rfl⟩:=hr
     have e1:=NO g1
     have e2:=NO g2
     simp only at e2
     exact⟨n'++[61,34]++(y++[34]),by rw[e1,e2];simp⟩
   simp at hr
 refine⟨λaz h=> ?_,λaz r h=> ?_⟩
 · rw[Nc,Ev dN,Ev hl] at h
   split at h
   · rename_i a' r' h'
     rw[hr] at h'
     simp only[di,eS] at h'
     obtain⟨rfl,rfl⟩:=h'
     obtain⟨l,e1,rfl⟩:=jF.1 h
     rw[asA,hd,P8 wv]
     split
     · rename_i a2 r2 h2
       rw[h1] at h2
       simp only[bT,di,eS] at h2
       obtain⟨rfl,rfl⟩:=h2
       rw[i1 l e1];rfl
     rename_i h2;rw[h1] at h2;cases h2
   cases h
 rw[asA,hd,P8 wv] at h
 split at h
 · rename_i a2 r2 h2
   rw[h1] at h2
   simp only[bT,di,eS] at h2
   obtain⟨rfl,rfl⟩:=h2
   obtain⟨⟨l,r3⟩,e1,e2⟩:=jF.1 h
   simp only[eS] at e2
   obtain⟨rfl,rfl⟩:=e2
   obtain⟨r',k1,k2,k3⟩:=i2 l r3 e1
   refine⟨r',k1,k2.trans Uz,λh0=> ?_⟩
   rw[Nc,Ev dN,Ev hl]
   split
   · rename_i a4 r4 h4
     rw[hr] at h4
     simp only[di,eS] at h4
     obtain⟨rfl,rfl⟩:=h4
     rw[k3 h0];rfl
   rename_i h4;rw[hr] at h4;cases h4
 cases h
def Oa (m:Bs):Option (Bs×List Attr×Bool):=
 let e:=m.getLast?==some 47
 let x:=if e then m.dropLast else m
 (Nc (x.dropWhile akP)).bind λaz=>if named (x.takeWhile akP)=true then some (x.takeWhile akP,cu az,e) else none
def Pl (s:Bs):Option (Bs×List Attr×Bool×Bs):=
 (kO s).bind λx=>if [47,62].isPrefixOf x.2.2 then some (x.1,cu x.2.1,true,x.2.2.drop 2) else(iA [62] x.2.2).map λq=>(x.1,cu x.2.1,false,q)
def SA {p:UInt8->Bool} {x T:Bs} (hT:∀c q,T=c::q->p c=false):(x++T).takeWhile p=x.takeWhile p/\(x++T).dropWhile p=x.dropWhile p++T:=by
 induction x with
 |nil=>
  cases T with
  |nil=>simp
  |cons c q=>simp[hT c q rfl]
 |cons c x ih=>
 by_cases h:p c=true
 ·simp[h,ih.1,ih.2]
 simp[h]
def R9 {x T:Bs} (hT:Tl T):kO (60::(x++T))=if named (x.takeWhile akP)=true then(asA (x.dropWhile akP++T)).map λy=>(x.takeWhile akP,y.1,y.2) else none:=by
 unfold kO;have e:iA [60] (60::(x++T))=some (x++T):=gR [60] (x++T);rw[e];simp only[EF];obtain⟨e1,e2⟩:=SA (x:=x) (p:=akP) hT.low;by_cases hn:named (x.takeWhile akP)=true
 ·rw[P8 hn];have:l6 (x++T)=some (x.takeWhile akP,x.dropWhile akP++T):=by
   obtain⟨_,n2,n3⟩:=(mF _).1 hn;unfold l6;simp only[e1,e2];rw[Ev];rintro(h|h)
   ·exact n2 h
   omega
  rw[this];rfl
 rw[Ev hn];have:l6 (x++T)=none:=by
  unfold l6;simp only[e1,e2];rw[P8];apply Bf;intro h;simp only[Xd] at h;exact hn ((mF _).2 ⟨λc hc=>Rh.1 Xm c hc,h.1,sf⟩)
 rw[this];rfl
def R_ (m q:Bs) (hm:(62:UInt8)∉m):Pl (60::(m++62::q))=(Oa m).map λx=>(x.1,x.2.1,x.2.2,q):=by
 have step:∀(x T:Bs) (e:Bool),Tl T->(62:UInt8)∉x->(T=if e then 47::62::q else 62::q)->(e=false->x.getLast?≠some 47) ->
     Pl (60::(x++T))=((Nc (x.dropWhile akP)).bind λaz=>if named (x.takeWhile akP)=true then some (x.takeWhile akP,cu az,e) else none).map λx=>(x.1,x.2.1,x.2.2,q):=by
   intro x T e hT hx S2 TI
   unfold Pl
   rw[R9 hT]
   by_cases hn:named (x.takeWhile akP)=true
   · simp only[P8 hn]
     have T8:(62:UInt8)∉x.dropWhile akP:=λh=>hx ((Wa _).subset h)
     obtain⟨i1,i2⟩:=RG hT _ (x.dropWhile akP) (PW _) T8
     cases hr:Nc (x.dropWhile akP) with
     |some az=>
       rw[i1 az hr]
       cases e with
       |true=>simp only[Rc] at S2;subst S2;simp[List.isPrefixOf]
       |false=>simp only[jy,nX] at S2;subst S2;simp[List.isPrefixOf,iA]
     |none=>
     simp only[X6,Yh]
     cases ha:asA (x.dropWhile akP++T) with
     |none=>rfl
     |some y=>
     obtain⟨az,r⟩:=y
     obtain⟨r',k1,k2,k3⟩:=i2 az r ha
     have Vi:r'≠[]:=λh=>by rw[hr] at k3;exact absurd (k3 h) tM
     obtain⟨c,w,rfl⟩:∃c w,r'=c::w:=by
       cases r' with
       |nil=>exact absurd rfl Vi
       |cons c w=>exact⟨c,w,rfl⟩
     have hc:c≠62:=by rintro rfl;exact T8 (k2.subset tM)
     have hw:(62:UInt8)∉w:=λh=>T8 (k2.subset (by simp[h]))
     simp only[bT,EF,k1]
     have h1:¬[47,62].isPrefixOf (c::w++T)=true:=by
       intro h
       cases w with
       |cons d w=>simp[List.isPrefixOf] at h;exact hw (by simp[h.2])
       |nil=>
       cases e with
       |true=>simp only[Rc] at S2;subst S2;simp[List.isPrefixOf] at h
       |false=>
       simp only[jy,nX] at S2
       subst S2
       simp[List.isPrefixOf] at h
       have hs:[c] <:+ x:=k2.trans (Wa _)
       obtain⟨z,hz⟩:=hs
       apply TI rfl
       rw[<-hz,<-h];simp
     rw[Ev h1]
     have h2:iA [62] (c::w++T)=none:=by
       unfold iA
       rw[Ev (by simp[List.isPrefixOf,Ss hc])]
     rw[h2];rfl
   simp only[Ev hn]
   cases Nc (x.dropWhile akP)<;>rfl
 unfold Oa
 by_cases he:m.getLast?=some 47
 · have tY:m=m.dropLast++[47]:=by
     have Vi:m≠[]:=by rintro rfl;simp at he
     have h:=XN Vi
     rw[XH Vi] at he
     simp only[di] at he
     rw[he] at h;exact h.symm
   have:=step m.dropLast (47::62::q) true (.inr ⟨q,rfl⟩) (λh=>hm (by rw[tY];simp[h])) rfl tM
   simp only[he,Xh,Rc]
   rw[<-this]
   congr 2
   conv=>lhs;rw[tY]
   simp
 have hb:(m.getLast?==some 47)=false:=by simpa using he
 simp only[hb,jy,nX]
 exact step m (62::q) false (.inl ⟨q,rfl⟩) hm rfl (λ_=>he)
def QY:∀(n:Nat) (s:Bs) (l:List Attr) (r:Bs),s.length<=n->asA s=some (l,r)->r <:+ s:=by
 intro n;induction n with
 |zero=>
  intro s l r hn h;have:s=[]:=Rg.1 sf;subst this;rw[asA] at h;simp[iL] at h;obtain⟨rfl,rfl⟩:=h;exact WN _
 |succ n ih=>
 intro s l r hn h;rw[asA] at h;have h0:=jf isSp s;split at h
 ·split at h
  ·rename_i a q ha;have h1:=rD ha;obtain⟨⟨l',r'⟩,h2,h3⟩:=jF.1 h;simp only[eS] at h3;obtain⟨rfl,rfl⟩:=h3;have k1:=ih q l' r' sf h2;refine k1.trans (XJ ?_ (Wa isSp (l:=s)));unfold l7 at ha;obtain⟨⟨n1,r1⟩,g1,ha⟩:=yV.1 ha;obtain⟨r2,g2,ha⟩:=yV.1 ha;obtain⟨⟨v,r3⟩,g3,ha⟩:=yV.1 ha;obtain⟨r4,g4,ha⟩:=jF.1 ha;simp only[eS] at ha;obtain⟨rfl,rfl⟩:=ha;have tk:∀{p s r:Bs},iA p s=some r->r <:+ s:=by
    intro p s r h;unfold iA at h;split at h
    ·simp only[di] at h;rw[<-h];exact Wt _ _
    simp at h
   have tx:∀(n:Nat) (s t r:Bs),s.length<=n->bm true s=some (t,r)->r <:+ s:=by
    intro n;induction n with
    |zero=>
     intro s t r hn h;have:s=[]:=Rg.1 sf;subst this;rw[vW] at h;simp at h;obtain⟨_,rfl⟩:=h;exact WN _
    |succ n Up=>
    intro s t r hn h;cases s with
    |nil=>rw[vW] at h;simp at h;obtain⟨_,rfl⟩:=h;exact WN _
    |cons c q=>
    rw[bm] at h;split at h
    ·simp only[di,eS] at h;obtain⟨_,rfl⟩:=h;exact WN _
    split at h
    ·split at h
     ·rename_i e q' he;have bI:=nw he;obtain⟨⟨t',r'⟩,w1,w2⟩:=jF.1 h;simp only[eS] at w2;obtain⟨_,rfl⟩:=w2;exact(Up q' t' r' (by simp at bI hn;omega) w1).trans (Qs he)
     simp at h
    split at h
    ·simp at h
    obtain⟨⟨t',r'⟩,w1,w2⟩:=jF.1 h;simp only[eS] at w2;obtain⟨_,rfl⟩:=w2;exact(Up q t' r' (by simp at hn;omega) w1).trans (Xu _ _)
   obtain⟨e1,_⟩:=mE g1;refine(tk g4).trans ((tx _ _ _ _ (PW _) g3).trans ((tk g2).trans ?_));rw[e1];exact Ym _ _
  simp at h
 simp only[di,eS] at h;obtain⟨rfl,rfl⟩:=h;exact Wa _
def QZ {s:Bs} (hs:(62:UInt8)∉s):Pl s=none:=by
 unfold Pl
 cases h:kO s with
 |none=>rfl
 |some x=>
 obtain⟨nm,az,r⟩:=x
 unfold kO at h
 obtain⟨r1,h1,h⟩:=yV.1 h
 obtain⟨⟨n,r2⟩,h2,h⟩:=yV.1 h
 obtain⟨⟨l,r3⟩,h3,h⟩:=jF.1 h
 simp only[eS] at h
 obtain⟨rfl,rfl,rfl⟩:=h
 have hr:r3 <:+ s:=by
   refine(QY _ _ _ _ (PW _) h3).trans ?_
   obtain⟨e1,_⟩:=mE h2
   have e2:r1 <:+ s:=by
     unfold iA at h1
     split at h1
     · simp only[di] at h1;rw[<-h1];exact Wt _ _
     simp at h1
   refine XJ ?_ e2
   rw[e1];exact Ym _ _
 have Uq:(62:UInt8)∉r3:=λh=>hs (hr.subset h)
 simp only[EF]
 rw[Ev]
 · have:iA [62] r3=none:=by
     unfold iA
     rw[Ev]
     intro h
     obtain⟨z,rfl⟩:=EJ.1 h
     exact Uq tM
   rw[this];rfl
 intro h
 obtain⟨z,rfl⟩:=EJ.1 h
 exact Uq tM
def OX (d:Nat) (s:Bs):bG (d+1) s=(Pl s).bind λx=>if x.2.2.1 then some (.mk false x.1 x.2.1 [],x.2.2.2) else(dM (bG d) x.2.2.2).bind λy=>(ka x.1 y.2).map λq=>(.mk false x.1 x.2.1 y.1,q):=by
 rw[bG,Pl,Option.bind_assoc];congr 1;funext x;split
 ·simp
 cases iA [62] x.2.2<;>simp

def M8 (s:Bs):Option (List Bs):=
 match s with
 |[]=>some []
 |c::q=>
  if c=60 then match h:Nh [62] (c::q) with
   |some (a,b)=>(M8 b).map λl=>(a++[62])::l
   |none=>none
  else(M8 ((c::q).dropWhile λx=> !(x==60))).map λl=>((c::q).takeWhile λx=> !(x==60))::l
termination_by s.length
decreasing_by
 ·exact Qc tM h
 rename_i h;have:=jf (λx=> !(x==60)) q;simp[Vk,h];omega
def Ov (s:Bs):Bs:=(s.reverse.dropWhile isSp).reverse
def Tree.MZ (x:Tree) (ks:List Tree):Tree:= .mk x.text x.s x.attrs (x.kids++ks)
def Ni (o:List Tree) (m:Bs):Option (List Tree):=
 match o with
 |[]=>none
 |top::rest=>
  if m.head?≠some 60 then(MY false m).map λv=>top.MZ [.mk true v [] []]::rest
  else if [60,47].isPrefixOf m then match rest with
   |[]=>none
   |up::rest=>if Ov (m.drop 2).dropLast=top.s then some (up.MZ [top]::rest) else none
  else(Oa (m.drop 1).dropLast).bind λx=>if 8<(top::rest).length then none else
   if x.2.2 then some (top.MZ [.mk false x.1 x.2.1 []]::rest) else some (.mk false x.1 x.2.1 []::top::rest)
def Sa (o:List Tree):Option (List Tree):=match o with
 |[b]=>some b.kids
 |_=>none
def runs (o:List Tree) (s:Bs):Option (List Tree):=(M8 s).bind λl=>(l.foldlM Ni o).bind Sa
def N0:Tree:= .mk false [] [] []
def Oe (s:Bs):Option (List Tree):=runs [N0] s
def Qu (o:List Tree):runs o []=Sa o:=by unfold runs;rw[M8];rfl
def Pf {o:List Tree} {q a b:Bs} (h:Nh [62] (60::q)=some (a,b)):runs o (60::q)=(Ni o (a++[62])).bind λo'=>runs o' b:=by
 unfold runs;rw[M8,P8 rfl];split
 ·rename_i a' b' h';rw[h] at h';simp only[di,eS] at h';obtain⟨rfl,rfl⟩:=h';cases M8 b with
  |none=>cases Ni o (a++[62])<;>rfl
  |some l=>simp only[bT,EF,Xj];cases Ni o (a++[62])<;>rfl
 rename_i h';rw[h] at h';cases h'
def O0 {o:List Tree} {q:Bs} (h:Nh [62] (60::q)=none):runs o (60::q)=none:=by
 unfold runs;rw[M8,P8 rfl];split
 ·rename_i a' b' h';rw[h] at h';cases h'
 rfl
def RH {o:List Tree} {c:UInt8} {q:Bs} (h:c≠60):runs o (c::q)=(Ni o ((c::q).takeWhile λx=> !(x==60))).bind λo'=>runs o' ((c::q).dropWhile λx=> !(x==60)):=by
 unfold runs;rw[M8,Ev h];cases M8 ((c::q).dropWhile λx=> !(x==60)) with
 |none=>cases Ni o ((c::q).takeWhile λx=> !(x==60))<;>rfl
 |some l=>simp only[bT,EF,Xj];cases Ni o ((c::q).takeWhile λx=> !(x==60))<;>rfl
def OJ (x:Tree):x.MZ []=x:=by cases x;simp[Tree.MZ,Tree.text,Tree.s,Tree.attrs,Tree.kids]
def OK (x:Tree) (a b:List Tree):(x.MZ a).MZ b=x.MZ (a++b):=by simp[Tree.MZ,Tree.text,Tree.s,Tree.attrs,Tree.kids]
def Sb {nm:Bs} (h:named nm=true):∀c∈nm,isSp c=false:=λc hc=>by
 have:=((mF nm).1 h).1 c hc;simp only[akP,QH,dj,U_] at this;simp only[isSp,EI,SV];constructor<;>(rintro rfl;revert this;decide)
def RI {nm sp:Bs} (h:named nm=true) (hs:∀c∈sp,isSp c=true):Ov (nm++sp)=nm:=by
 unfold Ov;rw[Yu,(ata sp.reverse nm.reverse (by simpa using hs) (by
  intro c q hq;have hm:c∈nm.reverse:=by rw[hq];simp
  exact Sb h c (by simpa using hm))).2]
 simp
def Qv (w:Bs):∃sp,w=Ov w++sp/\∀c∈sp,isSp c=true:=by
 refine⟨(w.reverse.takeWhile isSp).reverse,?_,λc hc=> ?_⟩
 ·unfold Ov;rw[<-Yu,Vf,List.reverse_reverse]
 exact Rh.1 Xm c (by simpa using hc)
def RJ {nm w b:Bs} (hn:named nm=true) (hw:(62:UInt8)∉w):ka nm ([60,47]++(w++62::b))=if Ov w=nm then some b else none:=by
 by_cases h:Ov w=nm
 ·rw[P8 h];obtain⟨sp,e,hs⟩:=Qv w;rw[h] at e;subst e;unfold ka;rw[gR];simp only[EF];have hl:l6 (nm++sp++62::b)=some (nm,sp++62::b):=by
   rw[SS];refine mG hn ?_;intro c q hq;cases sp with
   |nil=>simp only[List.nil_append,Q5] at hq;rw[<-hq.1];rfl
   |cons d sp=>
   simp only[List.cons_append,Q5] at hq;have:=hs d tM;rw[hq.1] at this;simp only[isSp,Tu,S'] at this;rcases this with rfl|rfl<;>rfl
  rw[hl];simp only[EF,Rc];rw[(ata sp (62::b) hs (by intro c q hq;simp only[Q5] at hq;rw[<-hq.1];rfl)).2];exact gR [62] b
 rw[Ev h];cases hc:ka nm ([60,47]++(w++62::b)) with
 |none=>rfl
 |some q=>
 exfalso;apply h;unfold ka at hc;rw[gR] at hc;simp only[EF] at hc;obtain⟨⟨n,r⟩,h1,h2⟩:=yV.1 hc;split at h2
 ·rename_i QM;simp only at QM;subst QM;obtain⟨k1,k2,k3⟩:=OU.1 h1;have hr:r=w.drop n.length++62::b/\w=n++w.drop n.length:=by
   rcases Y4.1 k2 with⟨z,h6,h7⟩|⟨z,h6,h7⟩
   ·cases z with
    |nil=>simp only[SU,List.nil_append] at h6 h7;subst h6;simp[<-h7]
    |cons z0 z=>
     simp only[List.cons_append,Q5] at h7;exfalso;exact PG k1 (c:=62) rfl (by rw[h6,h7.1];simp)
   subst h6;simp[h7]
  obtain⟨e1,e2⟩:=hr;have hd:(w.drop n.length).dropWhile isSp=[]:=by
   have hT:Tl (62::b):= .inl ⟨b,rfl⟩;rw[e1] at h2;simp only at h2;rw[Pe hT] at h2;cases hx:(w.drop n.length).dropWhile isSp with
   |nil=>rfl
   |cons c z=>
   exfalso;rw[hx] at h2;unfold iA at h2;split at h2
   ·rename_i hp;simp[List.isPrefixOf] at hp;have:c∈w:=by
     rw[e2];have:c∈w.drop n.length:=(Wa isSp).subset (by rw[hx];simp);simp[this]
    rw[<-hp] at this;exact hw this
   simp at h2
  rw[e2];exact RI k1 (OV.1 hd)
 simp at h2
def P7 {el:Bs->Option (Tree×Bs)}:∀(n:Nat) (s:Bs) (ks:List Tree) (r:Bs),s.length<=n->dM el s=some (ks,r)->r.length<=s.length/\(r=[]\/∃q,r=60::47::q):=by
 intro n;induction n with
 |zero=>
  intro s l r hn h;have:s=[]:=Rg.1 sf;subst this;rw[dM] at h;simp at h;obtain⟨rfl,rfl⟩:=h;simp
 |succ n ih=>
 intro s l r hn h;cases s with
 |nil=>rw[dM] at h;simp at h;obtain⟨rfl,rfl⟩:=h;simp
 |cons c q=>
 rw[dM] at h;split at h
 ·rename_i hp;simp only[di,eS] at h;obtain⟨rfl,rfl⟩:=h;refine⟨PW _,.inr ?_⟩;obtain⟨z,hz⟩:=EJ.1 hp;exact⟨z,by rw[<-hz];rfl⟩
 split at h
 ·rename_i t r1 h1;split at h
  ·rename_i bI;obtain⟨⟨l',r'⟩,h2,h3⟩:=jF.1 h;simp only[eS] at h3;obtain⟨rfl,rfl⟩:=h3;obtain⟨e1,e2⟩:=ih r1 l' r' sf h2;exact⟨sf,e2⟩
  simp at h
 simp at h
def Qw {d:Nat} {s r:Bs} {t:Tree} (h:bG d s=some (t,r)):r.length<s.length:=by
 have h1:=l9 d s t r h;have h2:=t.gx;omega
def Qx {d:Nat} {q:Bs} (h:¬[60,47].isPrefixOf (60::q)=true):dM (bG d) (60::q)=(bG d (60::q)).bind λx=>(dM (bG d) x.2).map λy=>(x.1::y.1,y.2):=by
 rw[dM,Ev h,P8 rfl];cases he:bG d (60::q) with
 |none=>rfl
 |some x=>
 obtain⟨t,r⟩:=x;simp only[EF];rw[Yy (Qw he)]
def Qd {m nm:Bs} {az:List Attr} {e:Bool} (h:Oa m=some (nm,az,e)):named nm=true:=by
 unfold Oa at h;simp only at h;obtain⟨U0,_,h2⟩:=yV.1 h;by_cases h3:named ((if(m.getLast?==some 47)=true then m.dropLast else m).takeWhile akP)=true
 ·rw[P8 h3] at h2;simp only[di,eS] at h2;rw[<-h2.1];exact h3
 rw[Ev h3] at h2;cases h2
def RL {p s r:Bs} (h:iA p s=some r):s=p++r:=by
 unfold iA at h;split at h
 ·rename_i hp;obtain⟨q,rfl⟩:=EJ.1 hp;simp only[di] at h;subst h;simp
 simp at h
theorem RM : ∀ (n : Nat) (s : Bs),s.length <= n -> ∀ (d : Nat) (top : Tree) (rest : List Tree),rest.length + d = 8 ->
   runs (top :: rest) s = match dM (bG d) s with
     | none => none
     | some (ks,r) => runs (top.MZ ks :: rest) r := by
 intro n
 induction n with
 | zero =>
   intro s hn d top rest hd
   have : s = [] := Rg.1 sf
   subst this
   rw [dM]; simp only [OJ]
 | succ n ih =>
   intro s hn d top rest hd
   cases s with
   | nil => rw [dM]; simp only [OJ]
   | cons c q =>
     by_cases hc : c = 60
     · subst hc
       by_cases hp : [60,47].isPrefixOf (60 :: q) = true
       · rw [dM,P8 hp]; simp only [OJ]
       · rw [Qx hp]
         cases wJ : Nh [62] (60 :: q) with
         | none =>
           rw [O0 wJ]
           have yH := asV.1 wJ
           have : bG d (60 :: q) = none := by
             cases d with
             | zero => rfl
             | succ d => rw [OX,QZ yH]; rfl
           rw [this]; rfl
         | some x =>
           obtain ⟨a,b⟩ := x
           rw [Pf wJ]
           obtain ⟨e,ha⟩ := Nn wJ
           obtain ⟨m,rfl⟩ : ∃ m,a = 60 :: m := by
             cases a with
             | nil => simp at e
             | cons a0 m => simp only [List.cons_append,Q5] at e; exact ⟨m,by rw [<- e.1]⟩
           have hm : (62 : UInt8) ∉ m := λh => ha (by simp [h])
           have hq : q = m ++ 62 :: b := by simpa using e
           have UA : ¬ [60,47].isPrefixOf (60 :: m ++ [62]) = true := by
             intro h
             apply hp
             rw [hq]
             cases m with
             | nil => simp [List.isPrefixOf] at h
             | cons m0 m => simp [List.isPrefixOf] at h ⊢; exact h
           have mV : Ni (top :: rest) (60 :: m ++ [62]) = (Oa m).bind λx => if 8 < (top :: rest).length then none else
               if x.2.2 then some (top.MZ [.mk false x.1 x.2.1 []] :: rest) else some (.mk false x.1 x.2.1 [] :: top :: rest) := by
             unfold Ni
             simp only
             rw [Ev tM,Ev UA]
             simp
           rw [mV]
           have hb : b.length < (60 :: q).length := by rw [hq]; simp; omega
           cases d with
           | zero =>
             have : 8 < (top :: rest).length := by simp; omega
             simp only [P8 this,bG]
             cases Oa m <;> rfl
           | succ d =>
             have h8 : ¬ 8 < (top :: rest).length := by simp; omega
             simp only [Ev h8]
             rw [OX]
             have hh : Pl (60 :: q) = (Oa m).map λx => (x.1,x.2.1,x.2.2,b) := by rw [hq]; exact R_ m b hm
             rw [hh]
             cases TZ : Oa m with
             | none => rfl
             | some x =>
               obtain ⟨nm,az,en⟩ := x
               simp only [EF,bT]
               have QM : named nm = true := Qd TZ
               cases en with
               | true =>
                 simp only [Rc,EF]
                 rw [ih b (by simp at hn hb; omega) (d + 1) _ rest hd]
                 cases dM (bG (d + 1)) b with
                 | none => rfl
                 | some y => obtain ⟨ks,r⟩ := y; simp only [bT,OK,V6]
               | false =>
                 simp only [jy,nX,EF]
                 rw [ih b (by simp at hn hb; omega) d (.mk false nm az []) (top :: rest) (by simp; omega)]
                 cases hk : dM (bG d) b with
                 | none => rfl
                 | some y =>
                   obtain ⟨ks,r2⟩ := y
                   simp only [EF]
                   obtain ⟨II,T0⟩ := P7 _ _ _ _ (PW _) hk
                   rcases T0 with rfl | ⟨w0,rfl⟩
                   · rw [Qu]
                     have : ka nm [] = none := rfl
                     rw [this]; rfl
                   · cases Rs : Nh [62] (60 :: 47 :: w0) with
                     | none =>
                       rw [O0 Rs]
                       have yH := asV.1 Rs
                       have : ka nm (60 :: 47 :: w0) = none := by
                         cases hc : ka nm (60 :: 47 :: w0) with
                         | none => rfl
                         | some q' =>
                           exfalso
                           unfold ka at hc
                           obtain ⟨r1,g1,hc1⟩ := yV.1 hc
                           obtain ⟨⟨n1,r3⟩,g2,MH⟩ := yV.1 hc1
                           split at MH
                           · have e1 : r1 = w0 := by have := gR [60,47] w0; simp only [List.cons_append,List.nil_append] at this; rw [this] at g1; simpa using g1.symm
                             subst e1
                             obtain ⟨g3,_⟩ := mE g2
                             have hz := RL MH
                             have : (62 : UInt8) ∈ r3 := (Wa isSp).subset (by rw [hz]; simp)
                             exact yH (by rw [g3]; simp [this])
                           · simp at MH
                       rw [this]; rfl
                     | some x2 =>
                       obtain ⟨a2,b2⟩ := x2
                       rw [Pf Rs]
                       obtain ⟨e2,UB⟩ := Nn Rs
                       obtain ⟨w,rfl⟩ : ∃ w,a2 = 60 :: 47 :: w := by
                         cases a2 with
                         | nil => simp at e2
                         | cons a0 a2 =>
                           simp only [List.cons_append,Q5] at e2
                           cases a2 with
                           | nil => simp at e2
                           | cons a1 a2 => simp only [List.cons_append,Q5] at e2; exact ⟨a2,by rw [<- e2.1,<- e2.2.1]⟩
                       have hw : (62 : UInt8) ∉ w := λh => UB (by simp [h])
                       have zO : w0 = w ++ 62 :: b2 := by simpa using e2
                       have qT : ka nm (60 :: 47 :: w0) = if Ov w = nm then some b2 else none := by rw [zO]; exact RJ QM hw
                       have T9 : Ni ((Tree.mk false nm az []).MZ ks :: top :: rest) (60 :: 47 :: w ++ [62]) = if Ov w = nm then some (top.MZ [(Tree.mk false nm az []).MZ ks] :: rest) else none := by
                         unfold Ni
                         simp only
                         rw [Ev tM,P8 (by simp [List.isPrefixOf])]
                         simp [Tree.MZ,Tree.s]
                       rw [T9,qT]
                       by_cases ht : Ov w = nm
                       · simp only [P8 ht,EF,bT]
                         have nL : b2.length < (60 :: 47 :: w0).length := by rw [zO]; simp; omega
                         rw [ih b2 (by simp at hn hb nL II; omega) (d + 1) _ rest hd]
                         cases dM (bG (d + 1)) b2 with
                         | none => rfl
                         | some y =>
                           obtain ⟨U1,r⟩ := y
                           simp only [bT,OK,V6]
                           rfl
                       · simp only [Ev ht]; rfl
     · -- a text
       rw [RH hc]
       have OZ : (c :: q).takeWhile (λx => !(x == 60)) ++ (c :: q).dropWhile (λx => !(x == 60)) = c :: q := Vf
       have g_ : ∀ d ∈ (c :: q).takeWhile (λx => !(x == 60)),¬ yu false d := by
         intro d hd
         have := Rh.1 Xm d hd
         rintro (rfl | ⟨_,h⟩)
         · simp at this
         · cases h
       have Vi : (c :: q).takeWhile (λx => !(x == 60)) = c :: q.takeWhile (λx => !(x == 60)) := by simp [ou,hc]
       have mV : Ni (top :: rest) ((c :: q).takeWhile λx => !(x == 60)) = (MY false ((c :: q).takeWhile λx => !(x == 60))).map λv => top.MZ [.mk true v [] []] :: rest := by
         unfold Ni
         rw [Vi]
         simp only
         rw [P8 (by simp [hc])]
       rw [mV]
       have v_ : bm false (c :: q) = (MY false ((c :: q).takeWhile λx => !(x == 60))).map λt => (t,(c :: q).dropWhile λx => !(x == 60)) := by
         cases hd : (c :: q).dropWhile (λx => !(x == 60)) with
         | nil =>
           rw [hd,SU] at OZ
           rw [OZ] at g_ ⊢
           exact Qb g_
         | cons e r =>
           have he : e = 60 := by
             have := Xl (λx : UInt8 => !(x == 60)) (c :: q)
             rw [hd] at this; simpa using this
           subst he
           rw [hd] at OZ
           conv => lhs; rw [<- OZ]
           exact Oz (.inl rfl) g_ r
       rw [dM,Ev (by simp [List.isPrefixOf,Ss hc]),Ev hc,v_]
       cases MY false ((c :: q).takeWhile λx => !(x == 60)) with
       | none => rfl
       | some v =>
         simp only [bT,EF]
         have bI : ((c :: q).dropWhile λx => !(x == 60)).length < (c :: q).length := by
           have := VZ List.length OZ
           rw [ko,Vi] at this
           simp at this ⊢; omega
         rw [Yy bI,ih _ sf d _ rest hd]
         cases dM (bG d) ((c :: q).dropWhile λx => !(x == 60)) with
         | none => rfl
         | some y => obtain ⟨ks,r⟩ := y; simp only [bT,OK,V6]
theorem OC (s:Bs):Oe s=match dM (bG 8) s with
  |some (ks,[])=>some ks
  |_=>none:=by
 unfold Oe;rw[RM _ s (PW _) 8 N0 [] rfl];cases hk:dM (bG 8) s with
 |none=>rfl
 |some y=>
 obtain⟨ks,r⟩:=y;obtain⟨_,hr⟩:=P7 _ _ _ _ (PW _) hk;rcases hr with rfl|⟨q,rfl⟩
 ·simp only[Qu,Sa,Tree.MZ,Tree.kids,N0,List.nil_append]
 simp only;cases hc:Nh [62] (60::47::q) with
 |none=>rw[O0 hc]
 |some x=>
 obtain⟨a,b⟩:=x;rw[Pf hc];obtain⟨e,ha⟩:=Nn hc;have:Ni [N0.MZ ks] (a++[62])=none:=by
  cases a with
  |nil=>simp at e
  |cons a0 a=>
  simp only[List.cons_append,Q5] at e;cases a with
  |nil=>simp at e
  |cons a1 a=>
  simp only[List.cons_append,Q5] at e;unfold Ni;simp only;rw[Ev (by simp[<-e.1]),P8 (by simp[List.isPrefixOf,<-e.1,<-e.2.1])]
 rw[this];rfl
end Go.Am
