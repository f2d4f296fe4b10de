import Derived.Test.YtfinkeaikbmpgaaGreatDoorKAm33
import Derived.Test.YtfinkeaikbmpgaaGreatDoorKT21
import Derived.Test.YtfinkeaikbmpgaaGreatDoorKP2
import Derived.Laws.Externs
set_option linter.unusedSimpArgs false
set_option linter.unusedVariables false
set_option linter.unnecessarySimpa false
set_option linter.defProp false
/- THE ABSTRACT MACHINE, part 40: functions that are handed a row of data by a slice. -/
namespace Go.Am
open Go Go.RowKit
def df (sz:Nat) (xs:List IV):Hp:=bD Hp.none (.par 0) (.live ⟨sz,aB xs⟩)
def Qv {p:Prop} (h:p:=by simp[df];rfl):p:=h
def ig (P:Program) (G:Nat→Option (List IV)) (f:Nat) (args:List AV) (sz:Nat) (xs:List IV) (R:AV→List IV→Prop):Prop:=
 (∀l∈ah args,l= .par 0)∧ey P G f args (df sz xs) fun x H'=>∃nN,R x nN∧x.an=[]∧nN.length=xs.length∧H' (.par 0)= .live ⟨sz,aB nN⟩
def cT {S:St} {f:Nat} {args U6:List AV} {sz:Nat} {xs:List IV} {R:AV→List IV→Prop} {H:Hp} {k:AV→Hp→Prop} {u:Tw k} {l:Lb} (h:ig S.P S.G f U6 sz xs R)
  (ha:args=bu (ft l) U6) (hl:H l= .live ⟨sz,aB xs⟩) (hk:∀x nN,R x nN→x.an=[]→nN.length=xs.length→k x (bD H l (.live ⟨sz,aB nN⟩))):C7 S f args H k u:=by
 obtain⟨h1,h3⟩:=h;have aK:∀q r,df sz xs q= .live r→q= .par 0∧r=⟨sz,aB xs⟩:=by
  intro q r h;by_cases e:q= .par 0
  ·subst e;simp[df] at h;exact⟨rfl,h.symm⟩
  rw[df,aq _ _ e] at h;simp[Hp.none] at h
 refine .inr<| .inr ⟨⟨ft l,df sz xs,U6,_,h3.cX (fun q=>q= .par 0),ha,?_,?_,?_,?_,?_,?_,?_⟩⟩
 ·intro q r h;obtain⟨rfl,rfl⟩:=aK q r h;rw[dy];simp only[ft,ku,hl]
 ·intro q hq;by_cases e:q= .par 0
  ·subst e;exact⟨_,Qv⟩
  rw[df,aq _ _ e] at hq;simp[Hp.none] at hq
 ·rintro q q' ⟨r,h⟩ ⟨r',h'⟩ _;rw[(aK q r h).1,(aK q' r' h').1]
 ·intro q hq;rw[h1 q hq];simp[df]
 ·rintro q ⟨r,h⟩;rw[(aK q r h).1];rfl
 ·intro q r h c hc z hz;obtain⟨rfl,rfl⟩:=aK q r h;rw[bU hc] at hz;simp at hz
 rintro x H' ⟨H1,⟨nN,e1,e2,e4,e5⟩,rfl⟩;have hH:∀q r,eg (fun q=>q= .par 0) H1 q= .live r→q= .par 0∧r=⟨sz,aB nN⟩:=by
  intro q r h;obtain⟨g1,rfl⟩:=dH.1 h;rw[e5] at g1;cases g1;exact⟨rfl,rfl⟩
 have EY:eg (fun q=>q= .par 0) H1 (.par 0)= .live ⟨sz,aB nN⟩:=dH.2 ⟨e5,rfl⟩;refine⟨ft l,bD H l (.live ⟨sz,aB nN⟩),fun _ _ _=>rfl,?_,?_,?_,?_,?_,?_,?_,?_⟩
 ·intro q r h;by_cases e:q=l
  ·subst e;simp at h;refine .inr ⟨.par 0,_,EY,by simp[ft],?_⟩;rw[←h,dy]
  rw[aq _ _ e] at h;refine .inl ⟨h,?_⟩;rintro z ⟨r',hz⟩;rw[(aK z r' hz).1];simp only[ft,ku];exact yd e
 ·rintro q q' ⟨r,h⟩ ⟨r',h'⟩ _;rw[(hH q r h).1,(hH q' r' h').1]
 ·intro q hq;by_cases e:q=l
  ·subst e;simp
  rw[aq _ _ e];exact hq
 ·intro q hq;rw[e2] at hq;simp at hq
 ·intro q r h c hc z hz;obtain⟨rfl,rfl⟩:=hH q r h;rw[bU hc] at hz;simp at hz
 ·rintro q ⟨r,h⟩;obtain⟨rfl,rfl⟩:=hH q r h;exact .inl ⟨_,Qv⟩
 ·rintro q (hq|⟨l1,r1,c,g1,g2,g3⟩) _
  ·rw[e2] at hq;simp at hq
  obtain⟨rfl,rfl⟩:=hH l1 r1 g1;rw[bU g2] at g3;simp at g3
 rw[j8 _ _ e2];exact hk x nN e1 e2 e4
def al7 {P:Program} {G:Nat→Option (List IV)} {f:Nat} {n:Nat} {rs:List RO} {ac:AC} {args:List AV} {sz:Nat} {xs:List IV} {R:AV→List IV→Prop}
  (hF:aw P G f=some (n,rs,ac.bare)) (hn:args.length≤n) (ha:∀l∈ah args,l= .par 0)
  (hg:go ⟨P,G,n⟩ (fX rs fun x H'=>∃nN,R x nN∧x.an=[]∧nN.length=xs.length∧H' (.par 0)= .live ⟨sz,aB nN⟩) [.code ac] (jP args) (df sz xs)):ig P G f args sz xs R:=by
 refine⟨ha,WY hF hn ?_ ?_ hg⟩
 ·rintro l ⟨r,h⟩;by_cases e:l= .par 0
  ·subst e;rfl
  rw[df,aq _ _ e] at h;simp[Hp.none] at h
 intro l hl;rw[ha l hl];simp[df]
def ig.mono {P:Program} {G:Nat→Option (List IV)} {f:Nat} {args:List AV} {sz:Nat} {xs:List IV} {R R':AV→List IV→Prop} (h:ig P G f args sz xs R) (hq:∀x c,R x c→R' x c):ig P G f args sz xs R':=
 ⟨h.1,h.2.mono fun x H ⟨c,h1,h2⟩=>⟨c,hq _ _ h1,h2⟩⟩

def ey.GI {P:Program} {G:Nat→Option (List IV)} {f:Nat} {args:List AV} {H:Hp} {Q:AV→Hp→Prop} (h:ey P G f args H Q) (kp:AV→Lb→Prop) :
  ey P G f args H fun x H'=>∃H1,Q x H1∧H'=eg (kp x) H1:=by
 intro w A β vs hr hv;refine(h w A β vs hr hv).mono ?_;rintro e w' ⟨v,x,H1,β',rfl,hq,lz,hx,hm⟩;exact⟨v,x,eg (kp x) H1,β',rfl,⟨H1,hq,rfl⟩,lz.eg _,hx.eg _,fun l hl=>by rw[Ne,N9];exact hm l hl⟩
def tq (P:Program) (G:Nat→Option (List IV)) (sz f:Nat) (args:List AV) (xs ys:List IV):Prop:=
 (∀l∈ah args,l= .par 0)∧ey P G f args (df sz xs) fun x H'=>∃L,x= .sl L sz 0 ys.length∧H' L= .live ⟨sz,aB ys⟩
def mI {S:St} {f:Nat} {args U6:List AV} {sz:Nat} {xs ys:List IV} {H:Hp} {k:AV→Hp→Prop} {u:Tw k} {l N:Lb} (h:tq S.P S.G sz f U6 xs ys)
  (ha:args=bu (ft l) U6) (hl:H l= .live ⟨sz,aB xs⟩) (hN:H N= .unused) (Jc:N.fresh=true→l.fresh=true)
  (Jd:k (.sl N sz 0 ys.length) (bD (bD H l .dead) N (.live ⟨sz,aB ys⟩))) (FA:k (.sl l sz 0 ys.length) (bD (bD H l .dead) l (.live ⟨sz,aB ys⟩))):C7 S f args H k u:=by
 obtain⟨h1,h3⟩:=h;have aK:∀q r,df sz xs q= .live r→q= .par 0∧r=⟨sz,aB xs⟩:=by
  intro q r h;by_cases e:q= .par 0
  ·subst e;simp[df] at h;exact⟨rfl,h.symm⟩
  rw[df,aq _ _ e] at h;simp[Hp.none] at h
 have Lv:H l≠ .unused:=by rw[hl];simp
 have Mz:N≠l:=by rintro rfl;exact Lv hN
 refine .inr<| .inr ⟨⟨ft l,df sz xs,U6,_,h3.GI (fun x q=>q∈x.an),ha,?_,?_,?_,?_,?_,?_,?_⟩⟩
 ·intro q r h;obtain⟨rfl,rfl⟩:=aK q r h;rw[dy];simp only[ft,ku,hl]
 ·intro q hq;by_cases e:q= .par 0
  ·subst e;exact⟨_,Qv⟩
  rw[df,aq _ _ e] at hq;simp[Hp.none] at hq
 ·rintro q q' ⟨r,h⟩ ⟨r',h'⟩ _;rw[(aK q r h).1,(aK q' r' h').1]
 ·intro q hq;rw[h1 q hq];simp[df]
 ·rintro q ⟨r,h⟩;rw[(aK q r h).1];rfl
 ·intro q r h c hc z hz;obtain⟨rfl,rfl⟩:=aK q r h;rw[bU hc] at hz;simp at hz
 rintro x H' ⟨H1,⟨L,rfl,e5⟩,rfl⟩;obtain⟨L1,Je⟩:∃L1,L1=(if L= .par 0 then l else N):=⟨_,rfl⟩;have oN:∀q,q∈(AV.sl L sz 0 ys.length).an↔q=L:=fun q=>by simp[AV.an]
 have hH:∀q r,eg (fun q=>q∈(AV.sl L sz 0 ys.length).an) H1 q= .live r→q=L∧r=⟨sz,aB ys⟩:=by
  intro q r h;obtain⟨g1,g2⟩:=dH.1 h;rw[oN] at g2;subst g2;rw[e5] at g1;cases g1;exact⟨rfl,rfl⟩
 have EY:eg (fun q=>q∈(AV.sl L sz 0 ys.length).an) H1 L= .live ⟨sz,aB ys⟩:=dH.2 ⟨e5,(oN L).2 rfl⟩;have hρ:(fun q=>if q=L then L1 else q) L=L1:=Pk
 have GJ:∀q,H q≠ .unused→bD (bD H l .dead) L1 (.live ⟨sz,aB ys⟩) q≠ .unused:=by
  intro q hq;by_cases e:q=L1
  ·subst e;simp
  rw[aq _ _ e];by_cases e2:q=l
  ·subst e2;simp
  rw[aq _ _ e2];exact hq
 refine⟨fun q=>if q=L then L1 else q,bD (bD H l .dead) L1 (.live ⟨sz,aB ys⟩),?_,?_,?_,GJ,?_,?_,?_,?_,?_⟩
 ·rintro q ⟨r,g1⟩ ⟨r',g2⟩;have e1:=(aK q r g1).1;have e2:=(hH q r' g2).1;subst e1;subst e2;simp only[ku,Je,ft]
 ·intro q r h;by_cases e:q=L1
  ·subst e;simp at h;refine .inr ⟨L,_,EY,Pk,?_⟩;rw[←h,dy]
  rw[aq _ _ e] at h;by_cases e2:q=l
  ·subst e2;simp at h
  rw[aq _ _ e2] at h;refine .inl ⟨h,?_⟩;rintro z ⟨r',hz⟩;rw[(aK z r' hz).1];simp only[ft,ku];exact yd e2
 ·rintro q q' ⟨r,h⟩ ⟨r',h'⟩ _;rw[(hH q r h).1,(hH q' r' h').1]
 ·intro q hq;rw[oN] at hq;subst hq;simp
 ·intro q r h c hc z hz;obtain⟨rfl,rfl⟩:=hH q r h;rw[bU hc] at hz;simp at hz
 ·rintro q ⟨r,h⟩;obtain⟨rfl,rfl⟩:=hH q r h;by_cases e:q= .par 0
  ·subst e;exact .inl ⟨_,Qv⟩
  right;simp only[ku,Je,cY e];refine⟨hN,fun hf=> .inr ?_⟩;rintro z ⟨r',hz⟩;rw[(aK z r' hz).1];simp only[ft,ku];exact Jc hf
 ·rintro q (hq|⟨l1,r1,c,g1,g2,g3⟩) _
  ·rw[oN] at hq;subst hq;exact⟨_,EY⟩
  obtain⟨rfl,rfl⟩:=hH l1 r1 g1;rw[bU g2] at g3;simp at g3
 simp only[bJ,ku];rw[Je];split
 ·exact FA
 exact Jd
def Bg {S:St} {F:List Lb} {sz f:Nat} {args U6:List AV} {xs ys:List IV} {H:Hp} {k:AV→Hp→Prop} {u:Tw k} {l N:Lb} (h:tq S.P S.G sz f U6 xs ys)
  (ha:args=bu (ft l) U6) (hl:H l= .live ⟨sz,aB xs⟩) (hN:H N= .unused) (Jc:N.fresh=true→l.fresh=true) (h1:l.iQ∉F) (h2:N.iQ∉F)
  (Jd:k (.sl N sz 0 ys.length) (bD (bD H l .dead) N (.live ⟨sz,aB ys⟩))) (FA:k (.sl l sz 0 ys.length) (bD (bD H l .dead) l (.live ⟨sz,aB ys⟩))):DX S F f args H k u:=by
 refine⟨fun x H'=>(x= .sl N sz 0 ys.length∧H'=bD (bD H l .dead) N (.live ⟨sz,aB ys⟩))∨(x= .sl l sz 0 ys.length∧H'=bD (bD H l .dead) l (.live ⟨sz,aB ys⟩)),?_,⟨_,_,.inl ⟨rfl,rfl⟩⟩,?_⟩
 ·exact mI (k:=fun x H'=>(x= .sl N sz 0 ys.length∧H'=bD (bD H l .dead) N (.live ⟨sz,aB ys⟩))∨(x= .sl l sz 0 ys.length∧H'=bD (bD H l .dead) l (.live ⟨sz,aB ys⟩))) (u:= .mk) h ha hl hN Jc (.inl ⟨rfl,rfl⟩) (.inr ⟨rfl,rfl⟩)
 have key:∀q:Lb,q.iQ∈F→q≠l∧q≠N:=fun q hq=>⟨fun e=>h1 (e▸hq),fun e=>h2 (e▸hq)⟩;rintro x H' (⟨rfl,rfl⟩|⟨rfl,rfl⟩)
 ·refine⟨fun q hq=> ?_,Jd⟩;obtain⟨e1,e2⟩:=key q hq;rw[aq _ _ e2,aq _ _ e1]
 refine⟨fun q hq=> ?_,FA⟩;obtain⟨e1,e2⟩:=key q hq;rw[aq _ _ e1,aq _ _ e1]
open Classical in
def rJ {P:Program} {G:Nat→Option (List IV)} {sz f:Nat} {args:List AV} {ys:List IV} (h:tq P G sz f (.sl (.par 0) sz 0 0::args) [] ys) (h0:0<sz) (ha:ah args=[]) (hf:Flat ys) :
   au P G f (.nil0::args) (.list ys):=by
 refine⟨by simpa[ah,AV.an] using ha,by simp[AV.an],?_⟩
 obtain⟨_,h3⟩:=h
 intro w A β vs hr hv
 have aK:∀q r,df sz [] q= .live r→q= .par 0∧r=⟨sz,[]⟩:=by
   intro q r h
   by_cases e:q= .par 0
   · subst e;simp[df,aB] at h;exact⟨rfl,h.symm⟩
   rw[df,aq _ _ e] at h;simp[Hp.none] at h
 obtain⟨β1,Jf⟩:∃β1:Lb→Option Nat,β1=bD β (.par 0) none:=⟨_,rfl⟩
 have vV:β1 (.par 0)=none:=by rw[Jf];simp
 have GK:∀k,¬wU β1 (df sz []) k:=by
   rintro k ⟨l,⟨r,h⟩,hb⟩
   rw[(aK l r h).1,vV] at hb;cases hb
 have Kn:∀k,Im (b8 P G w A β Hp.none) β Hp.none k→Im (b8 P G w A β1 (df sz [])) β1 (df sz []) k:=fun k hk=>⟨hk.1,fun l ⟨r,hl⟩ hb=>by
   rw[(aK l r hl).1,vV] at hb;cases hb⟩
 have kp:∀ls:List Lb,(∀l∈ls,l≠ .par 0)→ND w w β β1 Hp.none (df sz []) (Im (b8 P G w A β Hp.none) β Hp.none) (Im (b8 P G w A β1 (df sz [])) β1 (df sz [])) ls:=fun ls lr=>
   { im := fun k hk hs => ⟨Kn k hk,hs,rfl⟩
     lb:=fun l hl ⟨r,sw⟩=>absurd (aK l r sw).1 (lr l hl)}
 have ju:aH (b8 P G w A β1 (df sz [])) β1 Env.any (df sz []) lB w:=
   { defers := rfl,size := rfl
     N8:=fun n=>by simp[Env.any,RV]
     rows:=fun l r h=>by
       obtain⟨rfl,rfl⟩:=aK l r h
       exact⟨h0,by simp,by rw[vV]⟩
     own:=fun l g ⟨r,h⟩ hb=>by rw[(aK l r h).1,vV] at hb;cases hb
     inj:=fun l l' g ⟨r,h⟩ _ hb=>by rw[(aK l r h).1,vV] at hb;cases hb
     eI:=fun n=>by simp[Env.any,AV.an]
     cH:=fun l r h=>by
       obtain⟨rfl,rfl⟩:=aK l r h
       simp
     frame:=⟨rfl,rfl,rfl,Nat.le_refl _,fun _ _ _=>rfl,fun _ _ h=>h⟩
     gA:=fun l hl=>⟨by obtain⟨r,h⟩:=hl;simp only[b8] at h;simp[h],fun _=>rfl⟩
     fr:=fun l g ⟨r,h⟩ _ hb=>by rw[(aK l r h).1,vV] at hb;cases hb
     W5:=fun g cs hg=>by
       obtain⟨k1,k2,k3⟩:=hr.W5 g cs hg
       exact⟨Kn g k1,k2,da.mono (kp [] (by simp)).toW4 k1 k2 k3⟩}
 have wW:br w β1 (df sz []) (Im (b8 P G w A β1 (df sz [])) β1 (df sz [])) (.sl (.par 0) sz 0 0::args) vs:=by
   simp only[br] at hv ⊢
   obtain⟨v,us,h1,h2,h4⟩:=hv
   refine⟨v,us,h1,?_,br.mono _ _ (kp _ (by rw[ha];simp)) h4⟩
   simp only[RV] at h2 ⊢
   obtain⟨ad,rfl⟩:=h2
   exact⟨ad,0,rfl,Nat.le_refl _,by simp[maxLen],by simp,fun _=> .inl rfl⟩
 refine(h3 w A β1 vs ju wW).mono ?_
 rintro e w' ⟨v,x,H1,β',rfl,⟨L,rfl,hL⟩,iS,hx,_⟩
 have gw:iU w w':=⟨iS.frame.os,iS.frame.tape,iS.frame.output,iS.frame.size,fun k hk=>iS.frame.block k hk (GK k)⟩
 refine⟨v,_,Hp.none,β,rfl,rfl,?_,?_,by simp[AV.an]⟩
 · exact { defers := rfl,size := rfl
           N8:=fun n=>by simp[Env.any,RV]
           rows:=fun l r h=>by simp[Hp.none] at h
           own:=fun l g ⟨r,h⟩=>by simp[Hp.none] at h
           inj:=fun l l' g ⟨r,h⟩=>by simp[Hp.none] at h
           eI:=fun n=>by simp[Env.any,AV.an]
           cH:=fun l r h=>by simp[Hp.none] at h
           frame:=⟨gw.os,gw.tape,gw.output,gw.size,fun k hk _=>gw.block k hk,fun k S hS=>iS.frame.bs k S hS⟩
           gA:=fun l ⟨r,h⟩=>by simp[b8,Hp.none] at h
           fr:=fun l g ⟨r,h⟩=>by simp[Hp.none] at h
           W5:=fun g cs hg=>by
             obtain⟨k1,k2,k3⟩:=hr.W5 g cs hg
             exact⟨k1,Nat.lt_of_lt_of_le k2 gw.size,da.mono (gw.nz β Hp.none _ []).toW4 k1 k2 k3⟩}
 have gm:0<sz:=h0
 have hk:W4 w' w' (Im (b8 P G w A β1 (df sz [])) β' H1) (Im (b8 P G w A β Hp.none) β Hp.none):=⟨fun k hk hs=>⟨⟨hk.1,fun l ⟨r,hl⟩=>by simp[Hp.none] at hl⟩,hs,rfl⟩⟩
 simp only[RV] at hx
 obtain⟨ad,c,rfl,g2,g3,g4,g5⟩:=hx
 simp only[RV,NN]
 refine⟨ad,c,rfl,g2,g3,?_⟩
 by_cases hn:ys.length=0
 · exact .inl hn
 right
 rcases g5 ⟨_,hL⟩ with h6|⟨g,Sz,e1,e2,e3,e4⟩
 · omega
 obtain⟨cur,e0,cap,k1,k2,k3,k4,k5⟩:=(iS.rows L _ hL).block e1
 have hg:w.heap.size≤g:=(iS.own L g ⟨_,hL⟩ e1).resolve_left (GK g)
 refine⟨g,0*sz,sz,e2,⟨.inr hg,fun l ⟨r,hl⟩=>by simp[Hp.none] at hl⟩,(Array.getElem?_eq_some_iff.1 k1).1,gm,ajy _ _ _ (fun k y hy=> ?_)⟩
 rw[eH]
 have qT:y.cells.length=sz:=by
   have:=(iS.rows L _ hL).2.1 (y.cells.map IV.dQ) (by
     simp only[aB]
     exact List.mem_map_of_mem (f:=fun y:IV=>y.cells.map IV.dQ) (List.mem_of_getElem? hy))
   simpa using this
 refine⟨qT.symm,Xz _ _ _ (fun j z hz=> ?_)⟩
 obtain⟨u,q1,q2⟩:=k5 k j (y.cells.map IV.dQ) z.dQ (by simp[aB,hy]) (by simp[hz])
 refine⟨u,?_,pX hk (hf y (List.mem_of_getElem? hy) z (List.mem_of_getElem? hz)) q2⟩
 rw[cell_of_row w' g _ cur e0 (0,0) k1,←q1]
 congr 1
 change 0*sz+k*sz+j=k*sz+j
 omega
def pA {P:Program} {G:Nat→Option (List IV)} {f:Nat} {n:Nat} {rs:List RO} {ac:AC} {args:List AV} {sz:Nat} {xs ys:List IV}
  (hF:aw P G f=some (n,rs,ac.bare)) (hn:args.length≤n) (ha:∀l∈ah args,l= .par 0)
  (hg:go ⟨P,G,n⟩ (fX rs fun x H'=>∃L,x= .sl L sz 0 ys.length∧H' L= .live ⟨sz,aB ys⟩) [.code ac] (jP args) (df sz xs)):tq P G sz f args xs ys:=by
 refine⟨ha,WY hF hn ?_ ?_ hg⟩
 ·rintro l ⟨r,h⟩;by_cases e:l= .par 0
  ·subst e;rfl
  rw[df,aq _ _ e] at h;simp[Hp.none] at h
 intro l hl;rw[ha l hl];simp[df]
end Go.Am

namespace Go.Am
open Go Go.RowKit
structure WE (ls:List Lb) (u:Lb→Bool) (ps:List (Nat×AV)) (rs:List (Lb×Row)) (env:Env) (H:Hp) (m:List (Lb×Lb)):Prop where
 nf:∀l:Lb,l.entry=true→H l≠ .unused→l∈ls∨u l=true
 e:k_ (dn m) env ps
 r:tc (dn m) H rs
 inj:(ls.map (dn m)).Nodup
 fr:∀l∈ls,(l.fresh=true→(dn m l).fresh=true)∧(l.entry=true→dn m l=l)
def WE.wk {ls:List Lb} {u:Lb→Bool} {ps:List (Nat×AV)} {rs:List (Lb×Row)} {env:Env} {H:Hp} {m:List (Lb×Lb)} (h:WE ls u ps rs env H m) (lr:rs.map Prod.fst=ls) (hp:∀l∈ah (ps.map Prod.snd),l∈ls)
  (hr:∀q∈rs,∀cs∈q.2.els,∀l∈ah cs,l∈ls):Wk (dn m) env H (o9 ps) (ie u rs):=by
 have sw:∀l,live (ie u rs) l→l∈ls:=fun l ⟨r,h⟩=>by rw[←lr];exact pb.2 ⟨_,fy (cL.1 h),rfl⟩
 refine⟨h.e.we,fun l r hl=>nr h.r (fy (cL.1 hl)),fun l l' h1 h2 e=>gi h.inj l (sw l h1) l' (sw l' h2) e,mu fun l hl=>jb (.inl (by rw[lr];exact hp l hl)),fun l r hl cs bV q hq=> ?_,
  fun l hf=>⟨fun hu=> ?_,fun hl=>(h.fr l (sw l hl)).2 hf⟩,fun l hl hf=>(h.fr l (sw l hl)).1 hf⟩
 ·exact jb (.inl (by rw[lr];exact hr _ (fy (cL.1 hl)) cs bV q hq))
 exact jb (by rw[lr];exact h.nf l hf hu)
def gb {σ:Type} {S:St} {Q:gI} {c:AC} {k:List It} {env:Env} {H:Hp} (ls:σ→List Lb) (u:σ→Lb→Bool) (ps:σ→List (Nat×AV)) (rs:σ→List (Lb×Row)) (μ:σ→Nat) (s0:σ)
  (lr:∀s,(rs s).map Prod.fst=ls s) (hp:∀s,∀l∈ah ((ps s).map Prod.snd),l∈ls s) (hr:∀s,∀q∈rs s,∀cs∈q.2.els,∀l∈ah cs,l∈ls s) (h0:∃m,WE (ls s0) (u s0) (ps s0) (rs s0) env H m)
  (round:∀s,go S (kM S Q k (fun env H s=>∃m,WE (ls s) (u s) (ps s) (rs s) env H m) μ (μ s)) [.code c] (o9 (ps s)) (ie (u s) (rs s))):lI S Q c k env H:=
 j7 (fun s=>o9 (ps s)) (fun s=>ie (u s) (rs s)) _ (fun _ _ s ⟨m,h⟩=>⟨_,h.wk (lr s) (hp s) (hr s)⟩) μ s0 h0 round

structure uR where
 row:(Nat→Lb)→Nat→Option Row
 nat:∀(lab:Nat→Lb) (ρ:Lb→Lb) (p:Nat),row (fun i=>ρ (lab i)) p=(row lab p).map (dO ρ)
 an:∀(lab:Nat→Lb) (p:Nat) (r:Row),row lab p=some r→∀cs∈r.els,∀q∈ah cs,∃p',(row lab p').isSome=true∧q=lab p'
def uR.ok (R:uR) (p:Nat):Prop:=(R.row Lb.par p).isSome=true
def uR.Ec (R:uR) (lab:Nat→Lb) (p:Nat):(R.row lab p).isSome=true↔R.ok p:=by
 have h:=R.nat Lb.par (fun q=>match q with| .par i=>lab i|q=>q) p;simp only at h;unfold uR.ok;rw[show R.row lab p=_ from h];simp
structure Ed (lab:Nat→Lb) (R:uR) (H:Hp):Prop where
 row:∀p r,R.row lab p=some r→H (lab p)= .live r
 inj:∀p q,R.ok p→R.ok q→lab p=lab q→p=q
def Ed.live {lab:Nat→Lb} {R:uR} {H:Hp} (h:Ed lab R H) {p:Nat} (hp:R.ok p):Am.live H (lab p):=by
 obtain⟨r,hr⟩:=He.1 ((R.Ec lab p).2 hp);exact⟨r,h.row p r hr⟩
open Classical in
noncomputable def Lw (lab:Nat→Lb) (R:uR) (H:Hp):Hp:=fun q=>
 if h:∃p,R.ok p∧lab p=q then(match R.row lab (Classical.choose h) with|some r=> .live r|none=> .dead) else H q
def R5 {lab:Nat→Lb} {R:uR} (hi:∀p q,R.ok p→R.ok q→lab p=lab q→p=q) (H:Hp) {p:Nat} {r:Row} (hp:R.row lab p=some r):Lw lab R H (lab p)= .live r:=by
 have j4:R.ok p:=(R.Ec lab p).1 (by rw[hp];rfl);have h:∃p',R.ok p'∧lab p'=lab p:=⟨p,j4,rfl⟩;have hc:=ON h;have e:Classical.choose h=p:=hi _ _ hc.1 j4 hc.2;unfold Lw;rw[OM h,e,hp]
def Qa {lab:Nat→Lb} {R:uR} (H:Hp) {q:Lb} (h:∀p,R.ok p→lab p≠q):Lw lab R H q=H q:=by
 unfold Lw;rw[dif_neg (by rintro⟨p,h1,h2⟩;exact h p h1 h2)]
def PF {lab:Nat→Lb} {R:uR} (hi:∀p q,R.ok p→R.ok q→lab p=lab q→p=q) {H:Hp} {q:Lb} {r:Row} (h:Lw lab R H q= .live r) :
  (∃p,R.ok p∧lab p=q∧R.row lab p=some r)∨((∀p,R.ok p→lab p≠q)∧H q= .live r):=by
 by_cases e:∃p,R.ok p∧lab p=q
 ·obtain⟨p,h1,rfl⟩:=e;obtain⟨r',hr⟩:=He.1 ((R.Ec lab p).2 h1);rw[R5 hi H hr] at h;cases h;exact .inl ⟨p,h1,rfl,hr⟩
 have e':∀p,R.ok p→lab p≠q:=fun p h1 h2=>e ⟨p,h1,h2⟩;rw[Qa H e'] at h;exact .inr ⟨e',h⟩
def Ed.R6 {lab:Nat→Lb} {R:uR} (hi:∀p q,R.ok p→R.ok q→lab p=lab q→p=q) (H:Hp):Ed lab R (Lw lab R H):=⟨fun _ _ hp=>R5 hi H hp,hi⟩
def acW:∀p q:Nat,Lb.par p=Lb.par q→p=q:=fun p q h=>by cases h;rfl
noncomputable def Lx (R:uR):Hp:=Lw Lb.par R Hp.none
def Xv (R:uR):Ed Lb.par R (Lx R):= .R6 (fun p q _ _ h=>acW p q h) _
def XI {R:uR} {q:Lb} {r:Row} (h:Lx R q= .live r):∃p,R.ok p∧Lb.par p=q∧R.row Lb.par p=some r:=by
 rcases PF (fun p q _ _ h=>acW p q h) h with h|⟨_,h⟩
 ·exact h
 simp[Hp.none] at h
def aeF {R:uR} {q:Lb} (h:Lx R q≠ .unused):∃p,R.ok p∧q= .par p:=by
 by_cases e:∃p,R.ok p∧Lb.par p=q
 ·obtain⟨p,h1,h2⟩:=e;exact⟨p,h1,h2.symm⟩
 refine absurd ?_ h;unfold Lx;rw[Qa Hp.none fun p h1 h2=>e ⟨p,h1,h2⟩];rfl
def ey.ahJ {T:Type} {P:Program} {G:Nat→Option (List IV)} {f:Nat} {args:List AV} {H:Hp} {Q:T→AV→Hp→Prop} (h:ey P G f args H fun x H'=>∃t,Q t x H') (kp:T→Lb→Prop) :
  ey P G f args H fun x H'=>∃t H1,Q t x H1∧H'=eg (kp t) H1:=by
 intro w A β vs hr hv;refine(h w A β vs hr hv).mono ?_;rintro e w' ⟨v,x,H1,β',rfl,⟨t,hq⟩,lz,hx,hm⟩;exact⟨v,x,eg (kp t) H1,β',rfl,⟨t,H1,hq,rfl⟩,lz.eg _,hx.eg _,fun l hl=>by rw[Ne,N9];exact hm l hl⟩
def Jg (P:Program) (G:Nat→Option (List IV)) (f:Nat) (args:List AV) (R:uR) (fx:List Nat) (Q:((Nat→Lb)→AV)→uR→Prop):Prop:=
 (∀l∈ah args,∃p,R.ok p∧l= .par p)∧ey P G f args (Lx R) fun x H'=>∃t:((Nat→Lb)→AV)×uR×(Nat→Lb),
  Q t.1 t.2.1∧(∀ρ,bJ ρ (t.1 t.2.2)=t.1 fun i=>ρ (t.2.2 i))∧(∀l∈x.an,∃p,t.2.1.ok p∧l=t.2.2 p)∧x=t.1 t.2.2∧Ed t.2.2 t.2.1 H'∧∀p∈fx,t.2.2 p= .par p
def S1 (lab:Nat→Lb):Lb→Lb:=fun q=>match q with
 | .par i=>lab i
 |q=>q
def Qr {p:Prop} (h:p:=by simp[bu,bJ,S1]):p:=h
open Classical in
def WV {S:St} {f:Nat} {args U6:List AV} {R:uR} {fx:List Nat} {Q:((Nat→Lb)→AV)→uR→Prop} {H:Hp} {k:AV→Hp→Prop} {u:Tw k} {lab:Nat→Lb} (N:Lb→Lb) (h:Jg S.P S.G f U6 R fx Q)
  (ha:args=bu (S1 lab) U6) (hl:Ed lab R H) (hN:∀l,H (N l)= .unused) (hNi:∀l l',N l=N l'→l=l') (Jc:∀l,(N l).fresh=true→l.fresh=true∨∀p,R.ok p→(lab p).fresh=true) (Lt:∀p∈fx,R.ok p)
  (hk:∀X R2 U9 H2,Q X R2→Ed U9 R2 H2→(∀p∈fx,U9 p=lab p)→(∀p,R2.ok p→(∃p0,R.ok p0∧U9 p=lab p0)∨∃l,U9 p=N l) →
   (∀q,(∀p,R.ok p→q≠lab p)→(∀l,q≠N l)→H2 q=H q)→(∀q,H q≠ .unused→H2 q≠ .unused)→(∀l,(∀p,R2.ok p→U9 p≠N l)→H2 (N l)= .unused)→k (X U9) H2):C7 S f args H k u:=by
 obtain⟨h1,h3⟩:=h;refine .inr<| .inr ⟨⟨S1 lab,Lx R,U6,_,h3.ahJ (fun t q=>∃p,t.2.1.ok p∧t.2.2 p=q),ha,?_,?_,?_,?_,?_,?_,?_⟩⟩
 ·intro q r hq;obtain⟨p,h4,rfl,h5⟩:=XI hq;refine hl.row p _ ?_;have:=R.nat Lb.par (S1 lab) p;simp only[S1] at this;rw[show R.row lab p=_ from this,h5];rfl
 ·intro q hq;obtain⟨p,h4,rfl⟩:=aeF hq;exact(Xv R).live h4
 ·rintro q q' ⟨r,hq⟩ ⟨r',oX⟩ e;obtain⟨p,h4,rfl,_⟩:=XI hq;obtain⟨p',FI,rfl,_⟩:=XI oX;rw[hl.inj p p' h4 FI e]
 ·intro q hq;obtain⟨p,h4,rfl⟩:=h1 q hq;obtain⟨r,hr⟩:=(Xv R).live h4;rw[hr];simp
 ·rintro q ⟨r,hq⟩;obtain⟨p,_,rfl,_⟩:=XI hq;rfl
 ·intro q r hq cs bV z hz;obtain⟨p,h4,rfl,h5⟩:=XI hq;obtain⟨p',h6,rfl⟩:=R.an Lb.par p r h5 cs bV z hz;obtain⟨r',hr⟩:=(Xv R).live ((R.Ec _ _).1 h6);rw[hr];simp
 rintro x H' ⟨⟨X,R2,akL⟩,H1,⟨e1,e2,e3,rfl,e5,e6⟩,rfl⟩;simp only at e1 e2 e3 e5 e6 ⊢;have hH:∀q,Am.live (eg (fun q=>∃p,R2.ok p∧akL p=q) H1) q→∃p,R2.ok p∧akL p=q:=by
  rintro q ⟨r,hq⟩;exact(dH.1 hq).2
 have EY:∀p r,R2.row akL p=some r→eg (fun q=>∃p,R2.ok p∧akL p=q) H1 (akL p)= .live r:=fun p r hp=>
  dH.2 ⟨e5.row p r hp,p,(R2.Ec akL p).1 (by rw[hp];rfl),rfl⟩
 obtain⟨ρ',hρ⟩:∃ρ':Lb→Lb,ρ'=fun q=>if Am.live (Lx R) q then S1 lab q else N q:=⟨_,rfl⟩;have qB:∀q,Am.live (Lx R) q→∃p,R.ok p∧q= .par p:=by
  rintro q ⟨r,hq⟩;obtain⟨p,h4,rfl,_⟩:=XI hq;exact⟨p,h4,rfl⟩
 have aeG:∀p,R.ok p→ρ' (.par p)=lab p:=fun p hp=>by rw[hρ];simp only[(Xv R).live hp,if_true,S1]
 have YC:∀q,(∃p,R.ok p∧q= .par p∧ρ' q=lab p)∨(¬Am.live (Lx R) q∧ρ' q=N q):=by
  intro q;by_cases e:Am.live (Lx R) q
  ·obtain⟨p,h4,rfl⟩:=qB q e;exact .inl ⟨p,h4,rfl,aeG p h4⟩
  exact .inr ⟨e,by rw[hρ];simp only[e,if_false]⟩
 have Mz:∀l p,R.ok p→N l≠lab p:=fun l p hp e=>by
  obtain⟨r,hr⟩:=hl.live hp;have:=hN l;rw[e,hr] at this;cases this
 have ahK:∀q q',ρ' q=ρ' q'→q=q':=by
  intro q q' e;rcases YC q with⟨p,g1,rfl,g2⟩|⟨g1,g2⟩
  ·rcases YC q' with⟨p',g1',rfl,g2'⟩|⟨g1',g2'⟩
   ·rw[g2,g2'] at e;rw[hl.inj p p' g1 g1' e]
   rw[g2,g2'] at e;exact absurd e.symm (Mz _ p g1)
  rcases YC q' with⟨p',g1',rfl,g2'⟩|⟨g1',g2'⟩
  ·rw[g2,g2'] at e;exact absurd e (Mz _ p' g1')
  rw[g2,g2'] at e;exact hNi _ _ e
 obtain⟨U9,Ye⟩:∃U9:Nat→Lb,U9=fun i=>ρ' (akL i):=⟨_,rfl⟩;have acX:∀p q,R2.ok p→R2.ok q→U9 p=U9 q→p=q:=fun p q hp hq e=>by
  rw[Ye] at e;exact e5.inj p q hp hq (ahK _ _ e)
 obtain⟨Hd,hHd⟩:∃Hd:Hp,Hd=fun q=>if ∃p,R.ok p∧lab p=q then Slot.dead else H q:=⟨_,rfl⟩;have aiu:∀l,Hd (N l)= .unused:=fun l=>by
  rw[hHd];simp only;rw[if_neg (by rintro⟨p,g1,g2⟩;exact Mz l p g1 g2.symm)];exact hN l
 have ahL:∀p r,R2.row akL p=some r→R2.row U9 p=some (dO ρ' r):=fun p r hp=>by
  rw[Ye,R2.nat akL ρ' p,hp];rfl
 have GJ:∀q,Hd q≠ .unused→Lw U9 R2 Hd q≠ .unused:=by
  intro q hq;by_cases e:∃p,R2.ok p∧U9 p=q
  ·obtain⟨p,g1,rfl⟩:=e;obtain⟨r,hr⟩:=(Ed.R6 acX Hd).live g1;rw[hr];simp
  rw[Qa Hd fun p g1 g2=>e ⟨p,g1,g2⟩];exact hq
 have ags:∀q,H q≠ .unused→Hd q≠ .unused:=by
  intro q hq;rw[hHd];simp only;split
  ·simp
  exact hq
 have agt:∀p,R2.ok p→Lw U9 R2 Hd (U9 p)≠ .unused:=fun p hp=>by
  obtain⟨r,hr⟩:=(Ed.R6 acX Hd).live hp;rw[hr];simp
 refine⟨ρ',Lw U9 R2 Hd,?_,?_,?_,fun q hq=>GJ q (ags q hq),?_,?_,?_,?_,?_⟩
 ·intro q g1 g2;obtain⟨p,h4,rfl⟩:=qB q g1;rw[aeG p h4];rfl
 ·intro q r hq;rcases PF acX hq with⟨p,g1,rfl,g2⟩|⟨g1,g2⟩
  ·right;obtain⟨r0,I_⟩:=Option.isSome_iff_exists.1 ((R2.Ec akL p).2 g1);have:=ahL p r0 I_;rw[g2] at this;simp only[Option.some.injEq] at this;exact⟨akL p,r0,EY p r0 I_,by rw[Ye],this⟩
  left;rw[hHd] at g2;simp only at g2;split at g2
  ·cases g2
  rename_i FQ;refine⟨g2,fun l sw e=> ?_⟩;obtain⟨p,h4,rfl⟩:=qB l sw;exact FQ ⟨p,h4,e⟩
 ·intro q q' _ _ e;exact ahK _ _ e
 ·intro q hq;obtain⟨p,g1,rfl⟩:=e3 q hq;have:=agt p g1;rw[Ye] at this;rw[Ye];exact this
 ·intro q r hq cs bV z hz;obtain⟨g0,p,g1,rfl⟩:=dH.1 hq;obtain⟨r0,I_⟩:=Option.isSome_iff_exists.1 ((R2.Ec akL p).2 g1);have:=e5.row p r0 I_;rw[g0] at this;cases this;obtain⟨p',h6,rfl⟩:=R2.an akL p _ I_ cs bV z hz;have:=agt p' ((R2.Ec akL p').1 h6);rw[Ye] at this;rw[Ye];exact this
 ·intro q hq;obtain⟨p,g1,rfl⟩:=hH q hq;rcases YC (akL p) with⟨p',g2,g3,g4⟩|⟨g2,g3⟩
  ·left;rw[g3];exact(Xv R).live g2
  right;rw[g3];refine⟨hN _,fun hf=> ?_⟩;rcases Jc _ hf with hf|hf
  ·exact .inl hf
  right;intro z hz;obtain⟨p',h4,rfl⟩:=qB z hz;exact hf p' h4
 ·rintro q hq _;have key:∃p,R2.ok p∧akL p=q:=by
   rcases hq with hq|⟨l1,r1,cs,g1,g2,g3⟩
   ·obtain⟨p,g1,rfl⟩:=e3 q hq;exact⟨p,g1,rfl⟩
   obtain⟨g0,p,g4,rfl⟩:=dH.1 g1;obtain⟨r0,I_⟩:=Option.isSome_iff_exists.1 ((R2.Ec akL p).2 g4);have:=e5.row p r0 I_;rw[g0] at this;cases this;obtain⟨p',h6,rfl⟩:=R2.an akL p _ I_ cs g2 q g3;exact⟨p',(R2.Ec akL p').1 h6,rfl⟩
  obtain⟨p,g1,rfl⟩:=key;obtain⟨r0,I_⟩:=Option.isSome_iff_exists.1 ((R2.Ec akL p).2 g1);exact⟨r0,EY p r0 I_⟩
 rw[e2 ρ'];have:=hk X R2 U9 (Lw U9 R2 Hd) e1 (.R6 acX Hd) ?_ ?_ ?_ (fun q hq=>GJ q (ags q hq)) ?_
 ·rw[Ye] at this;rw[Ye];exact this
 ·intro p hp;rw[Ye];simp only;rw[e6 p hp];exact aeG p (Lt p hp)
 ·intro p hp;rw[Ye];simp only;rcases YC (akL p) with⟨p',g2,g3,g4⟩|⟨g2,g3⟩
  ·exact .inl ⟨p',g2,g4⟩
  exact .inr ⟨_,g3⟩
 ·intro q g1 g2;rw[Qa Hd,hHd]
  ·simp only;rw[if_neg (by rintro⟨p,g3,g4⟩;exact g1 p g3 g4.symm)]
  intro p hp e;rw[Ye] at e;simp only at e;rcases YC (akL p) with⟨p',g3,g4,g5⟩|⟨g3,g4⟩
  ·exact g1 p' g3 (e.symm.trans g5)
  exact g2 _ (e.symm.trans g4)
 intro l FQ;rw[Qa Hd FQ];exact aiu l
def VM {P:Program} {G:Nat→Option (List IV)} {f:Nat} {n:Nat} {rs:List RO} {ac:AC} {args:List AV} {R:uR} {fx:List Nat} {Q:((Nat→Lb)→AV)→uR→Prop}
  (hF:aw P G f=some (n,rs,ac.bare)) (hn:args.length≤n) (ha:∀l∈ah args,∃p,R.ok p∧l= .par p)
  (hg:go ⟨P,G,n⟩ (fX rs fun x H'=>∃t:((Nat→Lb)→AV)×uR×(Nat→Lb),
   Q t.1 t.2.1∧(∀ρ,bJ ρ (t.1 t.2.2)=t.1 fun i=>ρ (t.2.2 i))∧(∀l∈x.an,∃p,t.2.1.ok p∧l=t.2.2 p)∧x=t.1 t.2.2∧Ed t.2.2 t.2.1 H'∧∀p∈fx,t.2.2 p= .par p) [.code ac] (jP args) (Lx R)):Jg P G f args R fx Q:=by
 refine⟨ha,WY hF hn ?_ ?_ hg⟩
 ·rintro l ⟨r,h⟩;obtain⟨p,_,rfl,_⟩:=XI h;rfl
 intro l hl;obtain⟨p,h4,rfl⟩:=ha l hl;obtain⟨r,hr⟩:=(Xv R).live h4;rw[hr];simp
def Jg.mono {P:Program} {G:Nat→Option (List IV)} {f:Nat} {args:List AV} {R:uR} {fx:List Nat} {Q Q':((Nat→Lb)→AV)→uR→Prop} (h:Jg P G f args R fx Q) (hq:∀X R,Q X R→Q' X R):Jg P G f args R fx Q':=
 ⟨h.1,h.2.mono fun x H ⟨t,h1,h2⟩=>⟨t,hq _ _ h1,h2⟩⟩
end Go.Am

namespace Go.Am
open Go Go.RowKit
open Classical in
noncomputable def PM (labC lab:Nat→Lb) (R:uR) (m:List (Lb×Lb)):Lb→Lb:=fun q=>
 if h:∃p,R.ok p∧labC p=q then lab (Classical.choose h) else dn m q
def On {labC lab:Nat→Lb} {R:uR} {m:List (Lb×Lb)} (hi:∀p q,R.ok p→R.ok q→labC p=labC q→p=q) {p:Nat} (hp:R.ok p):PM labC lab R m (labC p)=lab p:=by
 have h:∃p',R.ok p'∧labC p'=labC p:=⟨p,hp,rfl⟩;have hc:=ON h;unfold PM;rw[OM h,hi _ _ hc.1 hp hc.2]
def OE {labC lab:Nat→Lb} {R:uR} {m:List (Lb×Lb)} {q:Lb} (h:∀p,R.ok p→labC p≠q):PM labC lab R m q=dn m q:=by
 unfold PM;rw[dif_neg (by rintro⟨p,h1,h2⟩;exact h p h1 h2)]
structure WH (labC:Nat→Lb) (R:uR) (ls:List Lb) (u:Lb→Bool) (ps:List (Nat×AV)) (rs:List (Lb×Row)) (env:Env) (H:Hp) (lab:Nat→Lb) (m:List (Lb×Lb)):Prop where
 at':Ed lab R H
 nf:∀l:Lb,l.entry=true→H l≠ .unused→(∃p,R.ok p∧labC p=l)∨l∈ls∨u l=true
 e:k_ (PM labC lab R m) env ps
 r:∀q∈rs,H (dn m q.1)= .live (dO (PM labC lab R m) q.2)
 inj:(ls.map (dn m)).Nodup
 ap:∀l∈ls,∀p,R.ok p→lab p≠dn m l
 fr:∀l∈ls,(l.fresh=true→(dn m l).fresh=true)∧(l.entry=true→dn m l=l)
 fp:∀p,R.ok p→((labC p).fresh=true→(lab p).fresh=true)∧((labC p).entry=true→lab p=labC p)
def WH.wk {labC:Nat→Lb} {R:uR} {ls:List Lb} {u:Lb→Bool} {ps:List (Nat×AV)} {rs:List (Lb×Row)} {env:Env} {H:Hp} {lab:Nat→Lb} {m:List (Lb×Lb)} (h:WH labC R ls u ps rs env H lab m)
  (hi:∀p q,R.ok p→R.ok q→labC p=labC q→p=q) (lr:rs.map Prod.fst=ls) (hC:∀l∈ls,∀p,R.ok p→labC p≠l) (hp:∀l∈ah (ps.map Prod.snd),l∈ls∨∃p,R.ok p∧labC p=l)
  (hr:∀q∈rs,∀cs∈q.2.els,∀l∈ah cs,l∈ls∨∃p,R.ok p∧labC p=l):Wk (PM labC lab R m) env H (o9 ps) (Lw labC R (ie u rs)):=by
 have sw:∀l,live (Lw labC R (ie u rs)) l→(∃p,R.ok p∧labC p=l)∨((∀p,R.ok p→labC p≠l)∧l∈ls):=by
  rintro l ⟨r,hl⟩;rcases PF hi hl with⟨p,h1,h2,_⟩|⟨h1,h2⟩
  ·exact .inl ⟨p,h1,h2⟩
  exact .inr ⟨h1,by rw[←lr];exact pb.2 ⟨_,fy (cL.1 h2),rfl⟩⟩
 have Tz:∀l,(l∈ls∨∃p,R.ok p∧labC p=l)→Lw labC R (ie u rs) l≠ .unused:=by
  intro l hl;by_cases e:∃p,R.ok p∧labC p=l
  ·obtain⟨p,h1,rfl⟩:=e;obtain⟨r,hr⟩:=(Ed.R6 hi (ie u rs)).live h1;rw[hr];simp
  rw[Qa _ fun p h1 h2=>e ⟨p,h1,h2⟩];rcases hl with hl|hl
  ·exact jb (.inl (by rw[lr];exact hl))
  exact absurd hl e
 refine⟨h.e.we,?_,?_,mu fun l hl=>Tz l (hp l hl),?_,?_,?_⟩
 ·intro l r hl;rcases PF hi hl with⟨p,h1,rfl,h2⟩|⟨h1,h2⟩
  ·rw[On hi h1];have:=R.nat labC (PM labC lab R m) p;have e:R.row (fun i=>PM labC lab R m (labC i)) p=R.row lab p:=by
    have h0:=R.nat Lb.par (S1 (fun i=>PM labC lab R m (labC i))) p;have Ur:=R.nat Lb.par (S1 lab) p;simp only[S1] at h0 Ur;rw[h0,Ur];cases pT:R.row Lb.par p with
    |none=>rfl
    |some r0=>
    simp only[bT,di,dO,Row.mk.injEq,tk];refine yp fun cs bV=>NZ cs fun z hz=> ?_;obtain⟨p',h6,rfl⟩:=R.an Lb.par p r0 pT cs bV z hz;simp only[S1];exact On hi ((R.Ec _ _).1 h6)
   rw[e,h2] at this;exact h.at'.row p _ this
  rw[OE h1];exact h.r _ (fy (cL.1 h2))
 ·intro l l' g1 g2 e;rcases sw l g1 with⟨p,h1,rfl⟩|⟨h1,wL⟩<;>rcases sw l' g2 with⟨p',h2,rfl⟩|⟨h2,H6⟩
  ·rw[On hi h1,On hi h2] at e;rw[h.at'.inj p p' h1 h2 e]
  ·rw[On hi h1,OE h2] at e;exact absurd e (h.ap _ H6 p h1)
  ·rw[OE h1,On hi h2] at e;exact absurd e.symm (h.ap _ wL p' h2)
  rw[OE h1,OE h2] at e;exact gi h.inj l wL l' H6 e
 ·intro l r hl cs bV q hq;rcases PF hi hl with⟨p,h1,rfl,h2⟩|⟨h1,h2⟩
  ·obtain⟨p',h6,rfl⟩:=R.an labC p r h2 cs bV q hq;exact Tz _ (.inr ⟨p',(R.Ec _ _).1 h6,rfl⟩)
  exact Tz q (hr _ (fy (cL.1 h2)) cs bV q hq)
 ·intro l hf;refine⟨fun hu=> ?_,fun hl=> ?_⟩
  ·rcases h.nf l hf hu with⟨p,h1,h2⟩|h1|h1
   ·exact Tz l (.inr ⟨p,h1,h2⟩)
   ·exact Tz l (.inl h1)
   by_cases e:∃p,R.ok p∧labC p=l
   ·exact Tz l (.inr e)
   rw[Qa _ fun p h1 h2=>e ⟨p,h1,h2⟩];exact jb (.inr h1)
  rcases sw l hl with⟨p,h1,rfl⟩|⟨h1,h2⟩
  ·rw[On hi h1];exact(h.fp p h1).2 hf
  rw[OE h1];exact(h.fr l h2).2 hf
 intro l hl hf;rcases sw l hl with⟨p,h1,rfl⟩|⟨h1,h2⟩
 ·rw[On hi h1];exact(h.fp p h1).1 hf
 rw[OE h1];exact(h.fr l h2).1 hf
def SJ {σ:Type} {S:St} {Q:gI} {c:AC} {k:List It} {env:Env} {H:Hp} (labC:Nat→Lb) (R:σ→uR) (ls:List Lb) (u:Lb→Bool) (ps:σ→List (Nat×AV)) (rs:σ→List (Lb×Row)) (μ:σ→Nat) (s0:σ)
  (hi:∀s p q,(R s).ok p→(R s).ok q→labC p=labC q→p=q) (lr:∀s,(rs s).map Prod.fst=ls) (hC:∀s,∀l∈ls,∀p,(R s).ok p→labC p≠l) (hp:∀s,∀l∈ah ((ps s).map Prod.snd),l∈ls∨∃p,(R s).ok p∧labC p=l)
  (hr:∀s,∀q∈rs s,∀cs∈q.2.els,∀l∈ah cs,l∈ls∨∃p,(R s).ok p∧labC p=l) (h0:∃lab m,WH labC (R s0) ls u (ps s0) (rs s0) env H lab m)
  (round:∀s,go S (kM S Q k (fun env H s=>∃lab m,WH labC (R s) ls u (ps s) (rs s) env H lab m) μ (μ s)) [.code c] (o9 (ps s)) (Lw labC (R s) (ie u (rs s)))):lI S Q c k env H:=
 j7 (fun s=>o9 (ps s)) (fun s=>Lw labC (R s) (ie u (rs s))) _ (fun _ _ s ⟨lab,m,h⟩=>⟨_,h.wk (hi s) (lr s) (hC s) (hp s) (hr s)⟩) μ s0 h0 round
end Go.Am

namespace Go.Am
open Go Go.RowKit
def p2 (a b:Nat):Nat:=2^a*(2*b+1)
theorem Wh:∀{a b c d:Nat},p2 a b=p2 c d→a=c∧b=d
 |0,b,0,d,h=>by simp[p2] at h;omega
 |0,b,c+1,d,h=>by
  simp only[p2,OZ,Nat.pow_zero,M8] at h;have:2^c*2*(2*d+1)=2*(2^c*(2*d+1)):=by rw[kr (2^c) 2,N5]
  omega
 |a+1,b,0,d,h=>by
  simp only[p2,OZ,Nat.pow_zero,M8] at h;have:2^a*2*(2*b+1)=2*(2^a*(2*b+1)):=by rw[kr (2^a) 2,N5]
  omega
 |a+1,b,c+1,d,h=>by
  have h2:p2 a b=p2 c d:=by
   simp only[p2,OZ] at h ⊢;have e1:2^a*2*(2*b+1)=2*(2^a*(2*b+1)):=(by rw[kr (2^a) 2,N5]);have e2:2^c*2*(2*d+1)=2*(2^c*(2*d+1)):=(by rw[kr (2^c) 2,N5]);omega
  have:=Wh h2;omega
def Lb.enc:Lb→Nat
 | .loc n=>p2 0 n
 | .par n=>p2 1 n
 | .gen n=>p2 2 n
 | .nest l i j=>p2 3 (p2 l.enc (p2 i j))
theorem Lb.acY:∀l l':Lb,l.enc=l'.enc→l=l'
 | .loc n,.loc m,h=>by rw[(Wh h).2]
 | .par n,.par m,h=>by rw[(Wh h).2]
 | .gen n,.gen m,h=>by rw[(Wh h).2]
 | .nest l i j,.nest l' i' j',h=>by
  have h1:=Wh (Wh h).2;have h2:=Wh h1.2;rw[Lb.acY l l' h1.1,h2.1,h2.2]
 | .loc n,.par m,h=>by have:=(Wh h).1;omega
 | .loc n,.gen m,h=>by have:=(Wh h).1;omega
 | .loc n,.nest _ _ _,h=>by have:=(Wh h).1;omega
 | .par n,.loc m,h=>by have:=(Wh h).1;omega
 | .par n,.gen m,h=>by have:=(Wh h).1;omega
 | .par n,.nest _ _ _,h=>by have:=(Wh h).1;omega
 | .gen n,.loc m,h=>by have:=(Wh h).1;omega
 | .gen n,.par m,h=>by have:=(Wh h).1;omega
 | .gen n,.nest _ _ _,h=>by have:=(Wh h).1;omega
 | .nest _ _ _,.loc m,h=>by have:=(Wh h).1;omega
 | .nest _ _ _,.par m,h=>by have:=(Wh h).1;omega
 | .nest _ _ _,.gen m,h=>by have:=(Wh h).1;omega
def NW (c:Nat) (l:Lb):Lb:= .nest (.loc c) l.enc 1
def P5 {p:Prop} (h:p:=by simp[NW]):p:=h
def aeH (c:Nat):∀l l',NW c l=NW c l'→l=l':=fun l l' h=>Lb.acY _ _ (by simpa[NW] using h)
def apr (c:Nat) (l:Lb):(NW c l).fresh=true:=rfl
def NC (c:Nat) (l:Lb):Lb:= .nest l c 2
def PO {p:Prop} (h:p:=by simp[NC]):p:=h
def Yo (c:Nat):∀l l',NC c l=NC c l'→l=l':=fun l l' h=>by simpa[NC] using h
def adx (sz:Nat) (xs:List IV):uR where
 row _ p:=if p=0 then some ⟨sz,aB xs⟩ else none
 nat lab ρ p:=by by_cases h:p=0<;>simp[h,dy]
 an lab p r h cs bV q hq:=by
  by_cases h0:p=0
  ·simp[h0] at h;subst h;rw[bU bV] at hq;simp at hq
  simp[h0] at h
def Y7 {sz:Nat} {xs:List IV} {p:Nat}:(adx sz xs).ok p↔p=0:=by
 unfold uR.ok adx;by_cases h:p=0<;>simp[h]
def aeI:uR where
 row _ _:=none
 nat _ _ _:=rfl
 an _ _ _ h:=by cases h
def Y8 {p:Nat}:¬aeI.ok p:=by simp[uR.ok,aeI]
def agU:Lx aeI=Hp.none:=by
 funext q;exact Qa _ fun p hp=>absurd hp Y8
abbrev aa4 (P:Program) (G:Nat→Option (List IV)) (f:Nat) (args:List AV) (sz:Nat) (xs:List IV):Prop:=
 Jg P G f args aeI [] fun X R2=>X=(fun lab=> .sl (lab 0) sz 0 xs.length)∧R2=adx sz xs
def aaI {P:Program} {G:Nat→Option (List IV)} {f:Nat} {n:Nat} {rs:List RO} {ac:AC} {args:List AV} {sz:Nat} {xs:List IV}
  (hF:aw P G f=some (n,rs,ac.bare)) (hn:args.length≤n) (ha:ah args=[])
  (hg:go ⟨P,G,n⟩ (fX rs fun x H'=>∃L,x= .sl L sz 0 xs.length∧H' L= .live ⟨sz,aB xs⟩) [.code ac] (jP args) Hp.none):aa4 P G f args sz xs:=by
 refine⟨by rw[ha];simp,?_⟩;rw[agU];refine(WY hF hn (by intro l ⟨r,h⟩;simp[Hp.none] at h) (by rw[ha];simp) hg).mono ?_;rintro x H ⟨L,hx,hL⟩;refine⟨⟨fun lab=> .sl (lab 0) sz 0 xs.length,adx sz xs,fun _=>L⟩,⟨rfl,rfl⟩,fun ρ=>rfl,fun l hl=>⟨0,Y7.2 rfl,?_⟩,hx,⟨fun p r hr=> ?_,fun p q hp hq _=>(Y7.1 hp).trans (Y7.1 hq).symm⟩,Pk⟩
 ·rw[hx] at hl;simpa[AV.an] using hl
 simp only[adx] at hr;by_cases h:p=0
 ·simp[h] at hr;subst hr;exact hL
 simp[h] at hr

section
variable {K:Kx} {β:Lb→Option Nat} {env:Env} {H:Hp} {a:Act} {w:World}
def aH.trim (hr:aH K β env H a w) {l:Lb} {sz:Nat} {els:List (List AV)} (k:Nat) (hl:H l= .live ⟨sz,els⟩):aH K β env (bD H l (.live ⟨sz,els.take k⟩)) a w:=by
 cases hb:β l with
 |none=>
  have:=(hr.rows l _ hl).2.2;simp only[hb] at this;subst this;simp only[List.take_nil];rw[RB hl];exact hr
 |some g=>
 refine hr.R7 hl g hb ?_ ?_ ?_ ?_
 ·intro cur e cap k1 k2 k4;rw[tp];omega
 ·exact fun cs bV=>(hr.rows l _ hl).2.1 cs (ec bV)
 ·exact fun cs bV=>hr.cH l _ hl cs (ec bV)
 intro i j cs x hi hj;rw[oe] at hi;split at hi
 ·exact .inr ⟨cs,hi,hj⟩
 simp at hi
end
def Z9 {P:Program} {G:Nat→Option (List IV)} {f:Nat} {n:Nat} {rs:List RO} {ac:AC} {args:List AV} {sz:Nat} {xs ys:List IV}
  (hF:aw P G f=some (n,rs,ac.bare)) (hn:args.length≤n) (ha:∀l∈ah args,l= .par 0)
  (hg:go ⟨P,G,n⟩ (fX rs fun x H'=>∃L c els,(x= .sl L sz 0 ys.length∨x= .slk L sz 0 ys.length c)∧H' L= .live ⟨sz,aB ys++els⟩) [.code ac] (jP args) (df sz xs)):tq P G sz f args xs ys:=by
 refine⟨ha,?_⟩;have h0:=WY hF hn ?_ ?_ hg
 ·intro w A β vs hr hv;refine(h0 w A β vs hr hv).mono ?_;rintro e w' ⟨v,x,H1,β',rfl,⟨L,c,els,hx,hL⟩,lz,wT,hm⟩;have ht:=lz.trim ys.length hL;rw[show(aB ys++els).take ys.length=aB ys by rw[←lQ ys,List.take_left]] at ht;have aK:∀q,live (bD H1 L (.live ⟨sz,aB ys⟩)) q→live H1 q:=by
   rintro q ⟨r,hq⟩;by_cases e:q=L
   ·subst e;exact⟨_,hL⟩
   rw[aq _ _ e] at hq;exact⟨r,hq⟩
  refine⟨v,.sl L sz 0 ys.length,_,β',rfl,⟨L,rfl,Pk⟩,ht,?_,Pr⟩;simp only[RV];rcases hx with rfl|rfl
  ·simp only[RV] at wT;obtain⟨ad,c,g1,g2,g3,g4,g5⟩:=wT;exact⟨ad,c,g1,g2,g3,g4,fun hl=>g5 (aK _ hl)⟩
  simp only[RV] at wT;obtain⟨ad,g1,g2,g3,g4,g5⟩:=wT;exact⟨ad,c,g1,g2,g3,fun h=>g4 tM,fun hl=>g5 (aK _ hl)⟩
 ·rintro l ⟨r,h⟩;by_cases e:l= .par 0
  ·subst e;rfl
  rw[df,aq _ _ e] at h;simp[Hp.none] at h
 intro l hl;rw[ha l hl];simp[df]
def Y9 {S:St} {f:Nat} {fn:Func} (hf:S.P.funcs[f]?=some fn) (yA:(fn.name== "runtime.NumGoroutine")=false) (hb:fn.body.isNone=true)
  (hn:Extern.findNext fn=none) {tS tR e:TypeId} (he:Extern.find fn=some (Extern.SlicesOverlaps.overlaps #[tS,tS] #[tR])) (ht:S.P.underlying tS=some (.slice e)) {size:Nat} (hz:∀w,(Go.sizeOf e).run S.P w= .ok size w)
  {vs:List IV} (hv:vs≠[]) {l:Lb} {sz i n c:Nat} {r:Row} {H:Hp} (hl:H l= .live r) (h0:0<n):sZ S f [.list vs,.slk l sz i n c] H (.bool false):=by
 intro K β env a w ws hS ju hws;subst hS
 match ws,hws with
 |[u,v],h=>
  simp only[br] at h;obtain⟨_,_,e0,h1,_,_,e2,h3,e4⟩:=h;cases e0;cases e2;cases e4;simp only[RV,NN] at h1 h3;obtain⟨ad,c1,rfl,g1,g2,g3⟩:=h1;obtain⟨ad2,rfl,k1,k2,k3,k4⟩:=h3;have Hl:vs.length≠0:=fun e=>hv (ye.1 e);rcases g3 with g3|⟨b,o,s2,rfl,g4,g5,g6,g7⟩
  ·exact absurd g3 Hl
  rcases k4 ⟨_,hl⟩ with k4|⟨g,Sz,q1,rfl,q3,q4⟩
  ·omega
  have pT:=ju.rows l r hl;obtain⟨cur,ee,cap,p1,p2,p3,p4,p5⟩:=pT.block q1;obtain⟨y,Hh,rfl⟩:∃y Hh,vs=y::Hh:=by cases vs with|nil=>exact absurd rfl hv|cons y q=>exact⟨y,q,rfl⟩
  simp only[bH] at g7;have kG:∃z,w.cell? ⟨b,o,none⟩=some z:=by
   have:=g7.1;rw[eH] at this;obtain⟨hs,hc⟩:=this;cases bV:y.cells with
   |nil=>rw[bV] at hs;simp at hs;omega
   |cons c0 cr=>
   rw[bV] at hc;simp only[bK] at hc;obtain⟨⟨z,hz,_⟩,_⟩:=hc;exact⟨z,hz⟩
  obtain⟨z,ln⟩:=kG;obtain⟨cb,eb,fb,ahM⟩:∃cb eb fb,w.heap[b]?=some (.cells cb eb fb):=by
   unfold World.cell? at ln;simp only at ln;split at ln
   ·rename_i cb eb fb hb;exact⟨cb,eb,fb,hb⟩
   cases ln
  have hcb:cb.size≠0:=by
   intro e;unfold World.cell? at ln;simp only[ahM] at ln;simp at ln;have:cb=#[]:=Array.eq_empty_of_size_eq_zero e
   subst this;simp at ln
  have Vi:b≠g:=by
   rintro rfl;exact g4.2 l ⟨_,hl⟩ q1
  have K0:(b !=g)=true:=by simpa using Vi
  have aiv:(b==g)=false:=by simpa using Vi
  refine⟨.bool false,w,?_,Below.refl _ _,PT,Pr⟩;rw[run_callFunc_extern hf yA hb hn he];have ahN:(Extern.SlicesOverlaps.overlaps #[tS,tS] #[tR] #[.slice (some ⟨b,o,none⟩) (y::Hh).length c1,.slice (some ⟨g,i*sz,none⟩) n c]).run K.P w= .ok (.bool false) w:=by
   unfold Extern.SlicesOverlaps.overlaps
   rw[show ∀(p:Option Addr) (k d:Nat) (q:Option Addr) (k' d':Nat) (h1:Option Addr→Nat→Nat→Option Addr→Nat→Nat→Sem Value) (h2:Array Value→Sem Value),Extern.SlicesOverlaps.overlaps.match_4 (fun _=>Sem Value) #[.slice p k d,.slice q k' d'] h1 h2=h1 p k d q k' d' from fun _ _ _ _ _ _ _ _=>rfl]
   have hsa:w.shape? b=some (eb,cb.size):=(by simp[World.shape?,ahM]);have hsb:w.shape? g=some (ee,cur.size):=(by simp[World.shape?,p1]);have hfz:∀off,w.frozen? ⟨g,off,none⟩=false:=fun off=>(by simp[World.frozen?,p1]);obtain⟨kB,hkB⟩:∃kB,cb.size=kB+1:=⟨cb.size - 1,tM⟩;by_cases h0:(y::Hh).length=0∨n=0∨size=0
   ·simp[run_underlying ht,hz,h0];rcases h0 with h0|h0|h0
    ·simp at h0
    ·omega
    simp[h0]
   have u7:size≠0:=fun e=>h0 (.inr (.inr e));have wq:n≠0:=tM
   cases hfa:w.frozen? ⟨b,o,none⟩<;>cases KL:w.frozen? ⟨b,cb.size,none⟩ <;>
    simp[run_underlying ht,hz,h0,K0,aiv,frozen,noView,viewAt,mayBeOne,stringish,shape,Sem.run,hsa,hsb,hfz,hkB,hfa,u7,wq]<;>rw[hkB] at KL<;>simp[KL]
  rw[ahN];rfl

structure Bn where
 n0:Nat
 nodes:List Node
 fs:List Int
 az:List Int
def Bn.at (b:Bn) (i:Nat):List Attr:=match b.nodes[i]? with|some x=>x.attrs|none=>[]
def Bn.kd (b:Bn) (i:Nat):List Int:=match b.nodes[i]? with|some x=>x.kids|none=>[]
def Bn.SK {b:Bn} {i:Nat} {x:Node} (h:b.nodes[i]?=some x):b.at i=x.attrs:=by simp[Bn.at,h]
def Bn.Ru {b:Bn} {i:Nat} {x:Node} (h:b.nodes[i]?=some x):b.kd i=x.kids:=by simp[Bn.kd,h]
def NI (n0:Nat) (lab:Nat→Lb) (i:Nat) (x:Node):List AV:=
 [.bool x.text,.str x.s,if i<n0 then .sl (lab (4+2*i)) 2 0 x.attrs.length else .list (cD x.attrs),.int .i64 x.parent,if i<n0 then .sl (lab (5+2*i)) 1 0 x.kids.length else .list (x.kids.map xX)]
def Ps (b:Bn) (lab:Nat→Lb) (p:Nat):Option Row:=
 if p=0 then some ⟨3,[[.sl (lab 1) 5 0 b.nodes.length,.sl (lab 2) 1 0 b.fs.length,.sl (lab 3) 1 0 b.az.length]]⟩
 else if p=1 then some ⟨5,b.nodes.mapIdx (NI b.n0 lab)⟩
 else if p=2 then some ⟨1,aB (b.fs.map xX)⟩
 else if p=3 then some ⟨1,aB (b.az.map xX)⟩
 else if p<4+2*b.n0 then(if p%2=0 then some ⟨2,aB (cD (b.at ((p - 4)/2)))⟩ else some ⟨1,aB ((b.kd ((p - 5)/2)).map xX)⟩)
 else none
def RR (n0:Nat) (lab:Nat→Lb) (ρ:Lb→Lb) (i:Nat) (x:Node):bu ρ (NI n0 lab i x)=NI n0 (fun i=>ρ (lab i)) i x:=by
 unfold NI;by_cases h:i<n0<;>simp[bu,bJ,h]
def RS {n0:Nat} {lab:Nat→Lb} {i:Nat} {x:Node} {q:Lb} (h:q∈ah (NI n0 lab i x)):i<n0∧(q=lab (4+2*i)∨q=lab (5+2*i)):=by
 unfold NI at h;by_cases hi:i<n0
 ·simpa[ah,AV.an,hi] using h
 simp[ah,AV.an,hi] at h
def Od {b:Bn} {lab:Nat→Lb} {p:Nat}:(Ps b lab p).isSome=true↔p<4+2*b.n0:=by
 unfold Ps;by_cases h0:p=0
 ·simp[h0];omega
 by_cases h1:p=1
 ·simp[h1];omega
 by_cases h2:p=2
 ·simp[h2];omega
 by_cases h3:p=3
 ·simp[h3];omega
 by_cases h4:p<4+2*b.n0
 ·by_cases h5:p%2=0<;>simp[h0,h1,h2,h3,h4,h5]
 simp[h0,h1,h2,h3,h4]
def Ut (b:Bn):uR where
 row:=Ps b
 nat lab ρ p:=by
  unfold Ps;by_cases h0:p=0
  ·simp[h0,dO,bu,bJ]
  by_cases h1:p=1
  ·simp only[h1,cY (show ¬(1:Nat)=0 by decide),ku,bT,di,dO,Row.mk.injEq,tk];refine fe fun i=> ?_;simp only[cn,yW,Option.map_map];congr 1;funext x;exact(RR _ _ _ _ _).symm
  by_cases h2:p=2
  ·simp[h2,dy]
  by_cases h3:p=3
  ·simp[h3,dy]
  by_cases h4:p<4+2*b.n0
  ·by_cases h5:p%2=0<;>simp[h0,h1,h2,h3,h4,h5,dy]
  simp[h0,h1,h2,h3,h4]
 an lab p r hr cs bV q hq:=by
  unfold Ps at hr;by_cases h0:p=0
  ·simp[h0] at hr;subst hr;simp only[bY] at bV;subst bV;simp[ah,AV.an] at hq;rcases hq with rfl|rfl|rfl
   ·exact⟨1,Od.2 tM,rfl⟩
   ·exact⟨2,Od.2 tM,rfl⟩
   exact⟨3,Od.2 tM,rfl⟩
  by_cases h1:p=1
  ·simp[h1] at hr;subst hr;simp only at bV;obtain⟨i,hi⟩:=yl bV;rw[yW] at hi;obtain⟨x,_,rfl⟩:=bR.1 hi;obtain⟨h5,h6⟩:=RS hq;rcases h6 with rfl|rfl
   ·exact⟨4+2*i,Od.2 tM,rfl⟩
   exact⟨5+2*i,Od.2 tM,rfl⟩
  have key:∀(sz:Nat) (xs:List IV),r=⟨sz,aB xs⟩→False:=by
   rintro sz xs rfl;rw[bU bV] at hq;simp at hq
  exfalso;by_cases h2:p=2
  ·simp[h2] at hr;exact key _ _ hr.symm
  by_cases h3:p=3
  ·simp[h3] at hr;exact key _ _ hr.symm
  by_cases h4:p<4+2*b.n0
  ·by_cases h5:p%2=0
   ·simp[h0,h1,h2,h3,h4,h5] at hr;exact key _ _ hr.symm
   simp[h0,h1,h2,h3,h4,h5] at hr;exact key _ _ hr.symm
  simp[h0,h1,h2,h3,h4] at hr
def OO {b:Bn} {p:Nat}:(Ut b).ok p↔p<4+2*b.n0:=Od
def Qd {p:Prop} (h:p:=by simp[ah,AV.an,OO,Tree.av];omega):p:=h
def Pt {b:Bn} {lab:Nat→Lb} {i:Nat} (h:i<b.n0):Ps b lab (4+2*i)=some ⟨2,aB (cD (b.at i))⟩:=by
 unfold Ps;rw[cY tM,cY tM,cY tM,cY tM,eE tM,eE tM,show(4+2*i - 4)/2=i by omega]
def Pu {b:Bn} {lab:Nat→Lb} {i:Nat} (h:i<b.n0):Ps b lab (5+2*i)=some ⟨1,aB ((b.kd i).map xX)⟩:=by
 unfold Ps;rw[cY tM,cY tM,cY tM,cY tM,eE tM,cY tM,show(5+2*i - 5)/2=i by omega]
abbrev Oi (lab:Nat→Lb) (b:Bn) (H:Hp):Prop:=Ed lab (Ut b) H
section
variable {lab:Nat→Lb} {b:Bn} {H H2:Hp}
def Oi.s (h:Oi lab b H):H (lab 0)= .live ⟨3,[[.sl (lab 1) 5 0 b.nodes.length,.sl (lab 2) 1 0 b.fs.length,.sl (lab 3) 1 0 b.az.length]]⟩:=h.row 0 _ rfl
def Oi.n (h:Oi lab b H):H (lab 1)= .live ⟨5,b.nodes.mapIdx (NI b.n0 lab)⟩:=h.row 1 _ rfl
def Oi.f (h:Oi lab b H):H (lab 2)= .live ⟨1,aB (b.fs.map xX)⟩:=h.row 2 _ rfl
def Oi.a (h:Oi lab b H):H (lab 3)= .live ⟨1,aB (b.az.map xX)⟩:=h.row 3 _ rfl
def Oi.at' (h:Oi lab b H) {i:Nat} {x:Node} (hi:i<b.n0) (hx:b.nodes[i]?=some x):H (lab (4+2*i))= .live ⟨2,aB (cD x.attrs)⟩:=by
 have:=h.row _ _ (Pt hi)
 rwa[Bn.SK hx] at this
def Oi.kd (h:Oi lab b H) {i:Nat} {x:Node} (hi:i<b.n0) (hx:b.nodes[i]?=some x):H (lab (5+2*i))= .live ⟨1,aB (x.kids.map xX)⟩:=by
 have:=h.row _ _ (Pu hi)
 rwa[Bn.Ru hx] at this
def Oi.ne (h:Oi lab b H) {p q:Nat} (hp:p<4+2*b.n0) (hq:q<4+2*b.n0) (e:p≠q):lab p≠lab q:=fun e2=>e (h.inj p q (OO.2 hp) (OO.2 hq) e2)
def Bn.set (b:Bn) (i:Nat) (y:Node):Bn:={b with nodes:=b.nodes.set i y}
def Qx {p:Prop} (h:p:=by simp[Bn.set]):p:=h
def Bn.put (b:Bn) (y:Node):Bn:={b with nodes:=b.nodes++[y]}
def Bn.TR (b:Bn) (i:Nat) (y:Node) (lab:Nat→Lb):(b.set i y).nodes.mapIdx (NI (b.set i y).n0 lab)=(b.nodes.mapIdx (NI b.n0 lab)).set i (NI b.n0 lab i y):=by
 refine fe fun j=> ?_;simp only[Bn.set,yW,JC,pz];by_cases e:i=j
 ·subst e;by_cases hl:i<b.nodes.length<;>simp[hl]
 simp[e]
def Bn.TS (b:Bn) (y:Node) (lab:Nat→Lb):(b.put y).nodes.mapIdx (NI (b.put y).n0 lab)=b.nodes.mapIdx (NI b.n0 lab)++[NI b.n0 lab b.nodes.length y]:=by
 simp[Bn.put,O0]
def Oi.lists (h:Oi lab b H) {p:Nat} (h4:4≤p) (hp:p<4+2*b.n0):∃i,i<b.n0∧(p=4+2*i∨p=5+2*i):=by
 by_cases e:p%2=0
 ·exact⟨(p - 4)/2,tM,tM⟩
 exact⟨(p - 5)/2,tM,tM⟩
def Oi.mk' {lab:Nat→Lb} {b:Bn} {H:Hp} (hi:∀p q,p<4+2*b.n0→q<4+2*b.n0→lab p=lab q→p=q)
  (h0:H (lab 0)= .live ⟨3,[[.sl (lab 1) 5 0 b.nodes.length,.sl (lab 2) 1 0 b.fs.length,.sl (lab 3) 1 0 b.az.length]]⟩) (h1:H (lab 1)= .live ⟨5,b.nodes.mapIdx (NI b.n0 lab)⟩)
  (h2:H (lab 2)= .live ⟨1,aB (b.fs.map xX)⟩) (h3:H (lab 3)= .live ⟨1,aB (b.az.map xX)⟩)
  (h4:∀i,i<b.n0→H (lab (4+2*i))= .live ⟨2,aB (cD (b.at i))⟩) (h5:∀i,i<b.n0→H (lab (5+2*i))= .live ⟨1,aB ((b.kd i).map xX)⟩):Oi lab b H:=by
 refine⟨fun p r hp=> ?_,fun p q hp hq=>hi p q (OO.1 hp) (OO.1 hq)⟩;have bI:p<4+2*b.n0:=Od.1 (show(Ps b lab p).isSome=true by change Ps b lab p=some r at hp;rw[hp];rfl);change Ps b lab p=some r at hp;by_cases e0:p=0
 ·subst e0;cases hp;exact h0
 by_cases e1:p=1
 ·subst e1;cases hp;exact h1
 by_cases e2:p=2
 ·subst e2;cases hp;exact h2
 by_cases e3:p=3
 ·subst e3;cases hp;exact h3
 by_cases e:p%2=0
 ·obtain⟨i,rfl⟩:∃i,p=4+2*i:=⟨(p - 4)/2,tM⟩;rw[Pt tM] at hp;cases hp;exact h4 i tM
 obtain⟨i,rfl⟩:∃i,p=5+2*i:=⟨(p - 5)/2,tM⟩;rw[Pu tM] at hp;cases hp;exact h5 i tM
def Bn.Th (b:Bn) {i:Nat} {x y:Node} (hx:b.nodes[i]?=some x) (j:Nat):(b.set i y).at j=if j=i then y.attrs else b.at j:=by
 have hl:=(bd.1 hx).1;simp only[Bn.at,Bn.set,JC];by_cases e:i=j
 ·subst e;simp[hl]
 simp[e,yd e]
def Bn.Ti (b:Bn) {i:Nat} {x y:Node} (hx:b.nodes[i]?=some x) (j:Nat):(b.set i y).kd j=if j=i then y.kids else b.kd j:=by
 have hl:=(bd.1 hx).1;simp only[Bn.kd,Bn.set,JC];by_cases e:i=j
 ·subst e;simp[hl]
 simp[e,yd e]
def Oi.ahO (h:Oi lab b H) {i:Nat} {x:Node} {s:Bs} (hx:b.nodes[i]?=some x)
  (h1:H2 (lab 1)= .live ⟨5,(b.nodes.mapIdx (NI b.n0 lab)).set i (NI b.n0 lab i {x with s:=s})⟩) (h2:∀q,q≠lab 1→H2 q=H q):Oi lab (b.set i {x with s:=s}) H2:=by
 have Vi:∀p,p<4+2*b.n0→p≠1→lab p≠lab 1:=fun p hp e=>h.ne hp tM e;refine Oi.mk' (fun p q hp hq=>h.inj p q (OO.2 hp) (OO.2 hq)) ?_ ?_ ?_ ?_ ?_ ?_
 ·rw[h2 _ (Vi 0 tM tM),h.s];simp[Bn.set]
 ·rw[h1,Bn.TR]
 ·rw[h2 _ (Vi 2 tM tM),h.f];rfl
 ·rw[h2 _ (Vi 3 tM tM),h.a];rfl
 ·intro j hj;change j<b.n0 at hj;rw[h2 _ (Vi _ tM tM),h.row _ _ (Pt hj),b.Th hx];split
  ·rename_i e;subst e;rw[Bn.SK hx]
  rfl
 intro j hj;change j<b.n0 at hj;rw[h2 _ (Vi _ tM tM),h.row _ _ (Pu hj),b.Ti hx];split
 ·rename_i e;subst e;rw[Bn.Ru hx]
 rfl
def Oi.afQ (h:Oi lab b H) {i:Nat} {x:Node} {ys:List Int} {N:Lb} (hi:i<b.n0) (hx:b.nodes[i]?=some x) (hN:N=lab (5+2*i)∨∀p,p<4+2*b.n0→lab p≠N)
  (h1:H2 (lab 1)= .live ⟨5,(b.nodes.mapIdx (NI b.n0 lab)).set i [.bool x.text,.str x.s,.sl (lab (4+2*i)) 2 0 x.attrs.length,.int .i64 x.parent,.sl N 1 0 ys.length]⟩)
  (h2:H2 N= .live ⟨1,aB (ys.map xX)⟩) (h3:∀q,q≠lab 1→q≠N→q≠lab (5+2*i)→H2 q=H q) :
  Oi (fun p=>if p=5+2*i then N else lab p) (b.set i {x with kids:=ys}) H2:=by
 have Vi:∀p,p<4+2*b.n0→p≠1→lab p≠lab 1:=fun p hp e=>h.ne hp tM e;have Ry:∀p,p<4+2*b.n0→p≠5+2*i→lab p≠lab (5+2*i):=fun p hp e=>h.ne hp tM e;have Ra:∀p,p<4+2*b.n0→p≠5+2*i→lab p≠N:=fun p hp e=>by
  rcases hN with rfl|hN
  ·exact Ry p hp e
  exact hN p hp
 have j0:∀p,p<4+2*b.n0→p≠1→p≠5+2*i→H2 (lab p)=H (lab p):=fun p hp e1 e2=>h3 _ (Vi p hp e1) (Ra p hp e2) (Ry p hp e2);have hj:∀p,p≠5+2*i→(if p=5+2*i then N else lab p)=lab p:=fun p e=>cY e;refine Oi.mk' ?_ ?_ ?_ ?_ ?_ ?_ ?_
 ·intro p q hp hq e;change p<4+2*b.n0 at hp;change q<4+2*b.n0 at hq;by_cases e1:p=5+2*i<;>by_cases e2:q=5+2*i
  ·rw[e1,e2]
  ·rw[eE e1,cY e2] at e;exact absurd e.symm (Ra q hq e2)
  ·rw[cY e1,eE e2] at e;exact absurd e (Ra p hp e1)
  rw[cY e1,cY e2] at e;exact h.inj p q (OO.2 hp) (OO.2 hq) e
 ·simp only[hj 0 tM,hj 1 tM,hj 2 tM,hj 3 tM];rw[j0 0 tM tM tM,h.s];simp[Bn.set]
 ·simp only[hj 1 tM];rw[h1,Bn.TR];congr 2;refine fe fun j=> ?_;simp only[JC,pz,yW];by_cases e:i=j
  ·subst e;simp only[ku];congr 1;simp[NI,hi,hj (4+2*i) tM]
  simp only[e,nX];congr 1;funext z;simp only[NI];rw[cY (show ¬4+2*j=5+2*i by omega),cY (show ¬5+2*j=5+2*i by omega)]
 ·simp only[hj 2 tM];rw[j0 2 tM tM tM,h.f];rfl
 ·simp only[hj 3 tM];rw[j0 3 tM tM tM,h.a];rfl
 ·intro j FE;change j<b.n0 at FE;simp only[hj (4+2*j) tM];rw[j0 _ tM tM tM,h.row _ _ (Pt FE),b.Th hx];split
  ·rename_i e;subst e;rw[Bn.SK hx]
  rfl
 intro j FE;change j<b.n0 at FE;rw[b.Ti hx];by_cases e:j=i
 ·subst e;simp only[ku];exact h2
 simp only[hj (5+2*j) tM,e,nX];rw[j0 _ tM tM tM,h.row _ _ (Pu FE)]
def Oi.eh (h:Oi lab b H) {i:Nat} {x:Node} {ys:List Attr} {N:Lb} (hi:i<b.n0) (hx:b.nodes[i]?=some x) (hN:N=lab (4+2*i)∨∀p,p<4+2*b.n0→lab p≠N)
  (h1:H2 (lab 1)= .live ⟨5,(b.nodes.mapIdx (NI b.n0 lab)).set i [.bool x.text,.str x.s,.sl N 2 0 ys.length,.int .i64 x.parent,.sl (lab (5+2*i)) 1 0 x.kids.length]⟩)
  (h2:H2 N= .live ⟨2,aB (cD ys)⟩) (h3:∀q,q≠lab 1→q≠N→q≠lab (4+2*i)→H2 q=H q) :
  Oi (fun p=>if p=4+2*i then N else lab p) (b.set i {x with attrs:=ys}) H2:=by
 have Vi:∀p,p<4+2*b.n0→p≠1→lab p≠lab 1:=fun p hp e=>h.ne hp tM e;have Ry:∀p,p<4+2*b.n0→p≠4+2*i→lab p≠lab (4+2*i):=fun p hp e=>h.ne hp tM e;have Ra:∀p,p<4+2*b.n0→p≠4+2*i→lab p≠N:=fun p hp e=>by
  rcases hN with rfl|hN
  ·exact Ry p hp e
  exact hN p hp
 have j0:∀p,p<4+2*b.n0→p≠1→p≠4+2*i→H2 (lab p)=H (lab p):=fun p hp e1 e2=>h3 _ (Vi p hp e1) (Ra p hp e2) (Ry p hp e2);have hj:∀p,p≠4+2*i→(if p=4+2*i then N else lab p)=lab p:=fun p e=>cY e;refine Oi.mk' ?_ ?_ ?_ ?_ ?_ ?_ ?_
 ·intro p q hp hq e;change p<4+2*b.n0 at hp;change q<4+2*b.n0 at hq;by_cases e1:p=4+2*i<;>by_cases e2:q=4+2*i
  ·rw[e1,e2]
  ·rw[eE e1,cY e2] at e;exact absurd e.symm (Ra q hq e2)
  ·rw[cY e1,eE e2] at e;exact absurd e (Ra p hp e1)
  rw[cY e1,cY e2] at e;exact h.inj p q (OO.2 hp) (OO.2 hq) e
 ·simp only[hj 0 tM,hj 1 tM,hj 2 tM,hj 3 tM];rw[j0 0 tM tM tM,h.s];simp[Bn.set]
 ·simp only[hj 1 tM];rw[h1,Bn.TR];congr 2;refine fe fun j=> ?_;simp only[JC,pz,yW];by_cases e:i=j
  ·subst e;simp only[ku];congr 1;simp[NI,hi,hj (5+2*i) tM]
  simp only[e,nX];congr 1;funext z;simp only[NI];rw[cY (show ¬4+2*j=4+2*i by omega),cY (show ¬5+2*j=4+2*i by omega)]
 ·simp only[hj 2 tM];rw[j0 2 tM tM tM,h.f];rfl
 ·simp only[hj 3 tM];rw[j0 3 tM tM tM,h.a];rfl
 ·intro j FE;change j<b.n0 at FE;rw[b.Th hx];by_cases e:j=i
  ·subst e;simp only[ku];exact h2
  simp only[hj (4+2*j) tM,e,nX];rw[j0 _ tM tM tM,h.row _ _ (Pt FE)]
 intro j FE;change j<b.n0 at FE;simp only[hj (5+2*j) tM];rw[j0 _ tM tM tM,h.row _ _ (Pu FE),b.Ti hx];split
 ·rename_i e;subst e;rw[Bn.Ru hx]
 rfl
def Oi.push (h:Oi lab b H) {y:Node} {N:Lb} (hn:b.n0≤b.nodes.length) (hN:N=lab 1∨∀p,p<4+2*b.n0→lab p≠N)
  (h0:H2 (lab 0)= .live ⟨3,[[.sl N 5 0 (b.nodes.length+1),.sl (lab 2) 1 0 b.fs.length,.sl (lab 3) 1 0 b.az.length]]⟩)
  (h1:H2 N= .live ⟨5,b.nodes.mapIdx (NI b.n0 lab)++[[.bool y.text,.str y.s,.list (cD y.attrs),.int .i64 y.parent,.list (y.kids.map xX)]]⟩) (h3:∀q,q≠lab 0→q≠lab 1→q≠N→H2 q=H q) :
  Oi (fun p=>if p=1 then N else lab p) (b.put y) H2:=by
 have Ra:∀p,p<4+2*b.n0→p≠1→lab p≠N:=fun p hp e=>by
  rcases hN with rfl|hN
  ·exact h.ne hp tM e
  exact hN p hp
 have j0:∀p,p<4+2*b.n0→p≠0→p≠1→H2 (lab p)=H (lab p):=fun p hp e0 e1=>h3 _ (h.ne hp tM e0) (h.ne hp tM e1) (Ra p hp e1);have hj:∀p,p≠1→(if p=1 then N else lab p)=lab p:=fun p e=>cY e;have hlen:(b.put y).nodes.length=b.nodes.length+1:=by simp[Bn.put]
 have TT:∀j,j<b.n0→(b.put y).nodes[j]?=b.nodes[j]?:=fun j hj=>by simp only[Bn.put];rw[bB tM]
 refine Oi.mk' ?_ ?_ ?_ ?_ ?_ ?_ ?_
 ·intro p q hp hq e;change p<4+2*b.n0 at hp;change q<4+2*b.n0 at hq;by_cases e1:p=1<;>by_cases e2:q=1
  ·rw[e1,e2]
  ·rw[eE e1,cY e2] at e;exact absurd e.symm (Ra q hq e2)
  ·rw[cY e1,eE e2] at e;exact absurd e (Ra p hp e1)
  rw[cY e1,cY e2] at e;exact h.inj p q (OO.2 hp) (OO.2 hq) e
 ·simp only[hj 0 tM,ku,hj 2 tM,hj 3 tM,hlen];exact h0
 ·show H2 N=_;rw[h1,Bn.TS];have w5:NI b.n0 (fun p=>if p=1 then N else lab p)=NI b.n0 lab:=by
   funext j z;simp only[NI];rw[cY (show ¬4+2*j=1 by omega),cY (show ¬5+2*j=1 by omega)]
  rw[w5];simp[NI,show ¬b.nodes.length<b.n0 by omega]
 ·simp only[hj 2 tM];rw[j0 2 tM tM tM,h.f];rfl
 ·simp only[hj 3 tM];rw[j0 3 tM tM tM,h.a];rfl
 ·intro j FE;change j<b.n0 at FE;simp only[hj (4+2*j) tM];rw[j0 _ tM tM tM,h.row _ _ (Pt FE)];simp only[Bn.at,TT j FE]
 intro j FE;change j<b.n0 at FE;simp only[hj (5+2*j) tM];rw[j0 _ tM tM tM,h.row _ _ (Pu FE)];simp only[Bn.kd,TT j FE]
def Oi.aiw (h:Oi lab b H) {i:Nat} {x:Node} {ys:List Int} (hi:b.n0≤i) (hx:b.nodes[i]?=some x)
  (h1:H2 (lab 1)= .live ⟨5,(b.nodes.mapIdx (NI b.n0 lab)).set i [.bool x.text,.str x.s,.list (cD x.attrs),.int .i64 x.parent,.list (ys.map xX)]⟩) (h2:∀q,q≠lab 1→H2 q=H q):Oi lab (b.set i {x with kids:=ys}) H2:=by
 have Vi:∀p,p<4+2*b.n0→p≠1→lab p≠lab 1:=fun p hp e=>h.ne hp tM e;refine Oi.mk' (fun p q hp hq=>h.inj p q (OO.2 hp) (OO.2 hq)) ?_ ?_ ?_ ?_ ?_ ?_
 ·rw[h2 _ (Vi 0 tM tM),h.s];simp[Bn.set]
 ·rw[h1,Bn.TR];simp[NI,show ¬i<b.n0 by omega]
 ·rw[h2 _ (Vi 2 tM tM),h.f];rfl
 ·rw[h2 _ (Vi 3 tM tM),h.a];rfl
 ·intro j hj;change j<b.n0 at hj;rw[h2 _ (Vi _ tM tM),h.row _ _ (Pt hj),b.Th hx,cY tM]
 intro j hj;change j<b.n0 at hj;rw[h2 _ (Vi _ tM tM),h.row _ _ (Pu hj),b.Ti hx,cY tM]
def Oi.aix (h:Oi lab b H) {fs:List Int} (hl:fs.length=b.fs.length) (h1:H2 (lab 2)= .live ⟨1,aB (fs.map xX)⟩) (h2:∀q,q≠lab 2→H2 q=H q):Oi lab {b with fs:=fs} H2:=by
 have Vi:∀p,p<4+2*b.n0→p≠2→lab p≠lab 2:=fun p hp e=>h.ne hp tM e;refine Oi.mk' (fun p q hp hq=>h.inj p q (OO.2 hp) (OO.2 hq)) ?_ ?_ ?_ ?_ ?_ ?_
 ·rw[h2 _ (Vi 0 tM tM),h.s];simp[hl]
 ·rw[h2 _ (Vi 1 tM tM),h.n]
 ·exact h1
 ·rw[h2 _ (Vi 3 tM tM),h.a]
 ·intro j hj;change j<b.n0 at hj;rw[h2 _ (Vi _ tM tM),h.row _ _ (Pt hj)];rfl
 intro j hj;change j<b.n0 at hj;rw[h2 _ (Vi _ tM tM),h.row _ _ (Pu hj)];rfl
def Oi.ahP (h:Oi lab b H) {az:List Int} (hl:az.length=b.az.length) (h1:H2 (lab 3)= .live ⟨1,aB (az.map xX)⟩) (h2:∀q,q≠lab 3→H2 q=H q):Oi lab {b with az:=az} H2:=by
 have Vi:∀p,p<4+2*b.n0→p≠3→lab p≠lab 3:=fun p hp e=>h.ne hp tM e;refine Oi.mk' (fun p q hp hq=>h.inj p q (OO.2 hp) (OO.2 hq)) ?_ ?_ ?_ ?_ ?_ ?_
 ·rw[h2 _ (Vi 0 tM tM),h.s];simp[hl]
 ·rw[h2 _ (Vi 1 tM tM),h.n]
 ·rw[h2 _ (Vi 2 tM tM),h.f]
 ·exact h1
 ·intro j hj;change j<b.n0 at hj;rw[h2 _ (Vi _ tM tM),h.row _ _ (Pt hj)];rfl
 intro j hj;change j<b.n0 at hj;rw[h2 _ (Vi _ tM tM),h.row _ _ (Pu hj)];rfl
def Oi.get (h:Oi lab b H) {i:Nat} {x:Node} (hx:b.nodes[i]?=some x):(b.nodes.mapIdx (NI b.n0 lab))[i]?=some (NI b.n0 lab i x):=by
 rw[yW,hx];rfl
end
end Go.Am
