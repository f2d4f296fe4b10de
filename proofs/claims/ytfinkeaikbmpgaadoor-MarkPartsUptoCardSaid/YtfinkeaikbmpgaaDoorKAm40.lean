import Derived.Test.YtfinkeaikbmpgaaDoorKT1
import Derived.Test.YtfinkeaikbmpgaaDoorKT26
import Derived.Laws.Externs
import Derived.Test.YtfinkeaikbmpgaaDoorKT21
set_option linter.unusedSimpArgs false
set_option linter.unusedVariables false
set_option linter.unnecessarySimpa false
set_option linter.defProp false
/- THE ABSTRACT MACHINE, part 40: functions that are handed a row of data by a slice. -/
namespace Go.Am
open Go Go.RowKit
def df (sz:Nat) (xs:List IV):Hp:=bD Hp.none (.par 0) (.live ⟨sz,aB xs⟩)
def ig (P:Program) (G:Nat→Option (List IV)) (f:Nat) (args:List AV) (sz:Nat) (xs:List IV) (R:AV→List IV→Prop):Prop:=
 (∀l∈ah args,l= .par 0)∧ey P G f args (df sz xs) fun x H'=>∃nN,R x nN∧x.an=[]∧nN.length=xs.length∧H' (.par 0)= .live ⟨sz,aB nN⟩
def cT {S:St} {f:Nat} {args cb:List AV} {sz:Nat} {xs:List IV} {R:AV→List IV→Prop} {H:Hp} {k:AV→Hp→Prop} {u:Tw k} {l:Lb} (h:ig S.P S.G f cb sz xs R)
  (ha:args=bu (ft l) cb) (hl:H l= .live ⟨sz,aB xs⟩) (hk:∀x nN,R x nN→x.an=[]→nN.length=xs.length→k x (bD H l (.live ⟨sz,aB nN⟩))):C7 S f args H k u:=by
 obtain⟨h1,h3⟩:=h;have aK:∀q r,df sz xs q= .live r→q= .par 0∧r=⟨sz,aB xs⟩:=by
  intro q r h;by_cases e:q= .par 0
  ·subst e;simp[df] at h;exact⟨rfl,h.symm⟩
  rw[df,aq _ _ e] at h;simp[Hp.none] at h
 refine .inr<| .inr ⟨⟨ft l,df sz xs,cb,_,h3.cX (fun q=>q= .par 0),ha,?_,?_,?_,?_,?_,?_,?_⟩⟩
 ·intro q r h;obtain⟨rfl,rfl⟩:=aK q r h;rw[dy];simp only[ft,Vp,hl]
 ·intro q hq;by_cases e:q= .par 0
  ·subst e;exact⟨_,by simp[df];rfl⟩
  rw[df,aq _ _ e] at hq;simp[Hp.none] at hq
 ·rintro q q' ⟨r,h⟩ ⟨r',h'⟩ _;rw[(aK q r h).1,(aK q' r' h').1]
 ·intro q hq;rw[h1 q hq];simp[df]
 ·rintro q ⟨r,h⟩;rw[(aK q r h).1];rfl
 ·intro q r h c hc z hz;obtain⟨rfl,rfl⟩:=aK q r h;rw[bU hc] at hz;simp at hz
 rintro x H' ⟨H1,⟨nN,e1,e2,e4,e5⟩,rfl⟩;have hH:∀q r,eg (fun q=>q= .par 0) H1 q= .live r→q= .par 0∧r=⟨sz,aB nN⟩:=by
  intro q r h;obtain⟨g1,rfl⟩:=dH.1 h;rw[e5] at g1;cases g1;exact⟨rfl,rfl⟩
 have EY:eg (fun q=>q= .par 0) H1 (.par 0)= .live ⟨sz,aB nN⟩:=dH.2 ⟨e5,rfl⟩;refine⟨ft l,bD H l (.live ⟨sz,aB nN⟩),fun _ _ _=>rfl,?_,?_,?_,?_,?_,?_,?_,?_⟩
 ·intro q r h;by_cases e:q=l
  ·subst e;simp at h;refine .inr ⟨.par 0,_,EY,by simp[ft],?_⟩;rw[←h,dy]
  rw[aq _ _ e] at h;refine .inl ⟨h,?_⟩;rintro z ⟨r',hz⟩;rw[(aK z r' hz).1];simp only[ft,Vp];exact V7 e
 ·rintro q q' ⟨r,h⟩ ⟨r',h'⟩ _;rw[(hH q r h).1,(hH q' r' h').1]
 ·intro q hq;by_cases e:q=l
  ·subst e;simp
  rw[aq _ _ e];exact hq
 ·intro q hq;rw[e2] at hq;simp at hq
 ·intro q r h c hc z hz;obtain⟨rfl,rfl⟩:=hH q r h;rw[bU hc] at hz;simp at hz
 ·rintro q ⟨r,h⟩;obtain⟨rfl,rfl⟩:=hH q r h;exact .inl ⟨_,by simp[df];rfl⟩
 ·rintro q (hq|⟨l1,r1,c,g1,g2,g3⟩) _
  ·rw[e2] at hq;simp at hq
  obtain⟨rfl,rfl⟩:=hH l1 r1 g1;rw[bU g2] at g3;simp at g3
 rw[j8 _ _ e2];exact hk x nN e1 e2 e4
def gS {P:Program} {G:Nat→Option (List IV)} {f:Nat} {n:Nat} {rs:List RO} {ac:AC} {args:List AV} {sz:Nat} {xs:List IV} {R:AV→List IV→Prop}
  (hF:aw P G f=some (n,rs,ac.bare)) (hn:args.length≤n) (ha:∀l∈ah args,l= .par 0)
  (hg:go ⟨P,G,n⟩ (fX rs fun x H'=>∃nN,R x nN∧x.an=[]∧nN.length=xs.length∧H' (.par 0)= .live ⟨sz,aB nN⟩) [.code ac] (jP args) (df sz xs)):ig P G f args sz xs R:=by
 refine⟨ha,hO hF hn ?_ ?_ hg⟩
 ·rintro l ⟨r,h⟩;by_cases e:l= .par 0
  ·subst e;rfl
  rw[df,aq _ _ e] at h;simp[Hp.none] at h
 intro l hl;rw[ha l hl];simp[df]
def ig.mono {P:Program} {G:Nat→Option (List IV)} {f:Nat} {args:List AV} {sz:Nat} {xs:List IV} {R R':AV→List IV→Prop} (h:ig P G f args sz xs R) (hq:∀x c,R x c→R' x c):ig P G f args sz xs R':=
 ⟨h.1,h.2.mono fun x H ⟨c,h1,h2⟩=>⟨c,hq _ _ h1,h2⟩⟩

def ey.GI {P:Program} {G:Nat→Option (List IV)} {f:Nat} {args:List AV} {H:Hp} {Q:AV→Hp→Prop} (h:ey P G f args H Q) (kp:AV→Lb→Prop) :
  ey P G f args H fun x H'=>∃H1,Q x H1∧H'=eg (kp x) H1:=by
 intro w A β vs hr hv;refine(h w A β vs hr hv).mono ?_;rintro e w' ⟨v,x,H1,β',rfl,hq,lz,hx,hm⟩;exact⟨v,x,eg (kp x) H1,β',rfl,⟨H1,hq,rfl⟩,lz.eg _,hx.eg _,fun l hl=>by rw[Ne,N9];exact hm l hl⟩
def tq (P:Program) (G:Nat→Option (List IV)) (sz f:Nat) (args:List AV) (xs ys:List IV):Prop:=
 (∀l∈ah args,l= .par 0)∧ey P G f args (df sz xs) fun x H'=>∃L,x= .sl L sz 0 ys.length∧H' L= .live ⟨sz,aB ys⟩
def mI {S:St} {f:Nat} {args cb:List AV} {sz:Nat} {xs ys:List IV} {H:Hp} {k:AV→Hp→Prop} {u:Tw k} {l N:Lb} (h:tq S.P S.G sz f cb xs ys)
  (ha:args=bu (ft l) cb) (hl:H l= .live ⟨sz,aB xs⟩) (hN:H N= .unused) (Jc:N.fresh=true→l.fresh=true)
  (Jd:k (.sl N sz 0 ys.length) (bD (bD H l .dead) N (.live ⟨sz,aB ys⟩))) (FA:k (.sl l sz 0 ys.length) (bD (bD H l .dead) l (.live ⟨sz,aB ys⟩))):C7 S f args H k u:=by
 obtain⟨h1,h3⟩:=h;have aK:∀q r,df sz xs q= .live r→q= .par 0∧r=⟨sz,aB xs⟩:=by
  intro q r h;by_cases e:q= .par 0
  ·subst e;simp[df] at h;exact⟨rfl,h.symm⟩
  rw[df,aq _ _ e] at h;simp[Hp.none] at h
 have Lv:H l≠ .unused:=by rw[hl];simp
 have Mz:N≠l:=by rintro rfl;exact Lv hN
 refine .inr<| .inr ⟨⟨ft l,df sz xs,cb,_,h3.GI (fun x q=>q∈x.an),ha,?_,?_,?_,?_,?_,?_,?_⟩⟩
 ·intro q r h;obtain⟨rfl,rfl⟩:=aK q r h;rw[dy];simp only[ft,Vp,hl]
 ·intro q hq;by_cases e:q= .par 0
  ·subst e;exact⟨_,by simp[df];rfl⟩
  rw[df,aq _ _ e] at hq;simp[Hp.none] at hq
 ·rintro q q' ⟨r,h⟩ ⟨r',h'⟩ _;rw[(aK q r h).1,(aK q' r' h').1]
 ·intro q hq;rw[h1 q hq];simp[df]
 ·rintro q ⟨r,h⟩;rw[(aK q r h).1];rfl
 ·intro q r h c hc z hz;obtain⟨rfl,rfl⟩:=aK q r h;rw[bU hc] at hz;simp at hz
 rintro x H' ⟨H1,⟨L,rfl,e5⟩,rfl⟩;obtain⟨L1,Je⟩:∃L1,L1=(if L= .par 0 then l else N):=⟨_,rfl⟩;have oN:∀q,q∈(AV.sl L sz 0 ys.length).an↔q=L:=fun q=>by simp[AV.an]
 have hH:∀q r,eg (fun q=>q∈(AV.sl L sz 0 ys.length).an) H1 q= .live r→q=L∧r=⟨sz,aB ys⟩:=by
  intro q r h;obtain⟨g1,g2⟩:=dH.1 h;rw[oN] at g2;subst g2;rw[e5] at g1;cases g1;exact⟨rfl,rfl⟩
 have EY:eg (fun q=>q∈(AV.sl L sz 0 ys.length).an) H1 L= .live ⟨sz,aB ys⟩:=dH.2 ⟨e5,(oN L).2 rfl⟩;have hρ:(fun q=>if q=L then L1 else q) L=L1:=by simp
 have GJ:∀q,H q≠ .unused→bD (bD H l .dead) L1 (.live ⟨sz,aB ys⟩) q≠ .unused:=by
  intro q hq;by_cases e:q=L1
  ·subst e;simp
  rw[aq _ _ e];by_cases e2:q=l
  ·subst e2;simp
  rw[aq _ _ e2];exact hq
 refine⟨fun q=>if q=L then L1 else q,bD (bD H l .dead) L1 (.live ⟨sz,aB ys⟩),?_,?_,?_,GJ,?_,?_,?_,?_,?_⟩
 ·rintro q ⟨r,g1⟩ ⟨r',g2⟩;have e1:=(aK q r g1).1;have e2:=(hH q r' g2).1;subst e1;subst e2;simp only[Vp,Je,ft]
 ·intro q r h;by_cases e:q=L1
  ·subst e;simp at h;refine .inr ⟨L,_,EY,by simp,?_⟩;rw[←h,dy]
  rw[aq _ _ e] at h;by_cases e2:q=l
  ·subst e2;simp at h
  rw[aq _ _ e2] at h;refine .inl ⟨h,?_⟩;rintro z ⟨r',hz⟩;rw[(aK z r' hz).1];simp only[ft,Vp];exact V7 e2
 ·rintro q q' ⟨r,h⟩ ⟨r',h'⟩ _;rw[(hH q r h).1,(hH q' r' h').1]
 ·intro q hq;rw[oN] at hq;subst hq;simp
 ·intro q r h c hc z hz;obtain⟨rfl,rfl⟩:=hH q r h;rw[bU hc] at hz;simp at hz
 ·rintro q ⟨r,h⟩;obtain⟨rfl,rfl⟩:=hH q r h;by_cases e:q= .par 0
  ·subst e;exact .inl ⟨_,by simp[df];rfl⟩
  right;simp only[Vp,Je,U8 e];refine⟨hN,fun hf=> .inr ?_⟩;rintro z ⟨r',hz⟩;rw[(aK z r' hz).1];simp only[ft,Vp];exact Jc hf
 ·rintro q (hq|⟨l1,r1,c,g1,g2,g3⟩) _
  ·rw[oN] at hq;subst hq;exact⟨_,EY⟩
  obtain⟨rfl,rfl⟩:=hH l1 r1 g1;rw[bU g2] at g3;simp at g3
 simp only[bJ,Vp];rw[Je];split
 ·exact FA
 exact Jd
def Bg {S:St} {F:List Lb} {sz f:Nat} {args cb:List AV} {xs ys:List IV} {H:Hp} {k:AV→Hp→Prop} {u:Tw k} {l N:Lb} (h:tq S.P S.G sz f cb xs ys)
  (ha:args=bu (ft l) cb) (hl:H l= .live ⟨sz,aB xs⟩) (hN:H N= .unused) (Jc:N.fresh=true→l.fresh=true) (h1:l.iQ∉F) (h2:N.iQ∉F)
  (Jd:k (.sl N sz 0 ys.length) (bD (bD H l .dead) N (.live ⟨sz,aB ys⟩))) (FA:k (.sl l sz 0 ys.length) (bD (bD H l .dead) l (.live ⟨sz,aB ys⟩))):DX S F f args H k u:=by
 refine⟨fun x H'=>(x= .sl N sz 0 ys.length∧H'=bD (bD H l .dead) N (.live ⟨sz,aB ys⟩))∨(x= .sl l sz 0 ys.length∧H'=bD (bD H l .dead) l (.live ⟨sz,aB ys⟩)),?_,⟨_,_,.inl ⟨rfl,rfl⟩⟩,?_⟩
 ·exact mI (k:=fun x H'=>(x= .sl N sz 0 ys.length∧H'=bD (bD H l .dead) N (.live ⟨sz,aB ys⟩))∨(x= .sl l sz 0 ys.length∧H'=bD (bD H l .dead) l (.live ⟨sz,aB ys⟩))) (u:= .mk) h ha hl hN Jc (.inl ⟨rfl,rfl⟩) (.inr ⟨rfl,rfl⟩)
 have key:∀q:Lb,q.iQ∈F→q≠l∧q≠N:=fun q hq=>⟨fun e=>h1 (e▸hq),fun e=>h2 (e▸hq)⟩;rintro x H' (⟨rfl,rfl⟩|⟨rfl,rfl⟩)
 ·refine⟨fun q hq=> ?_,Jd⟩;obtain⟨e1,e2⟩:=key q hq;rw[aq _ _ e2,aq _ _ e1]
 refine⟨fun q hq=> ?_,FA⟩;obtain⟨e1,e2⟩:=key q hq;rw[aq _ _ e1,aq _ _ e1]
open Classical in
def rJ {P:Program} {G:Nat→Option (List IV)} {sz f:Nat} {args:List AV} {ys:List IV} (h:tq P G sz f (.sl (.par 0) sz 0 0::args) [] ys) (h0:0<sz) (ha:ah args=[]) (hf:Flat ys) :
   au P G f (.nil0::args) (.list ys):=by
 refine⟨by simpa[ah,AV.an] using ha,by simp[AV.an],?_⟩
 obtain⟨_,h3⟩:=h
 intro w A β vs hr hv
 have aK:∀q r,df sz [] q= .live r→q= .par 0∧r=⟨sz,[]⟩:=by
   intro q r h
   by_cases e:q= .par 0
   · subst e;simp[df,aB] at h;exact⟨rfl,h.symm⟩
   rw[df,aq _ _ e] at h;simp[Hp.none] at h
 obtain⟨β1,Jf⟩:∃β1:Lb→Option Nat,β1=bD β (.par 0) none:=⟨_,rfl⟩
 have vV:β1 (.par 0)=none:=by rw[Jf];simp
 have GK:∀k,¬wU β1 (df sz []) k:=by
   rintro k ⟨l,⟨r,h⟩,hb⟩
   rw[(aK l r h).1,vV] at hb;cases hb
 have Kn:∀k,Im (b8 P G w A β Hp.none) β Hp.none k→Im (b8 P G w A β1 (df sz [])) β1 (df sz []) k:=fun k hk=>⟨hk.1,fun l ⟨r,hl⟩ hb=>by
   rw[(aK l r hl).1,vV] at hb;cases hb⟩
 have kp:∀ls:List Lb,(∀l∈ls,l≠ .par 0)→ND w w β β1 Hp.none (df sz []) (Im (b8 P G w A β Hp.none) β Hp.none) (Im (b8 P G w A β1 (df sz [])) β1 (df sz [])) ls:=fun ls lr=>
   { im := fun k hk hs => ⟨Kn k hk,hs,rfl⟩
     lb:=fun l hl ⟨r,sw⟩=>absurd (aK l r sw).1 (lr l hl)}
 have ju:aH (b8 P G w A β1 (df sz [])) β1 Env.any (df sz []) lB w:=
   { defers := rfl,size := rfl
     N8:=fun n=>by simp[Env.any,RV]
     rows:=fun l r h=>by
       obtain⟨rfl,rfl⟩:=aK l r h
       exact⟨h0,by simp,by rw[vV]⟩
     own:=fun l g ⟨r,h⟩ hb=>by rw[(aK l r h).1,vV] at hb;cases hb
     inj:=fun l l' g ⟨r,h⟩ _ hb=>by rw[(aK l r h).1,vV] at hb;cases hb
     eI:=fun n=>by simp[Env.any,AV.an]
     cH:=fun l r h=>by
       obtain⟨rfl,rfl⟩:=aK l r h
       simp
     frame:=⟨rfl,rfl,rfl,Nat.le_refl _,fun _ _ _=>rfl,fun _ _ h=>h⟩
     gA:=fun l hl=>⟨by obtain⟨r,h⟩:=hl;simp only[b8] at h;simp[h],fun _=>rfl⟩
     fr:=fun l g ⟨r,h⟩ _ hb=>by rw[(aK l r h).1,vV] at hb;cases hb
     fo:=fun g cs hg=>by
       obtain⟨k1,k2,k3⟩:=hr.fo g cs hg
       exact⟨Kn g k1,k2,da.mono (kp [] (by simp)).tofv k1 k2 k3⟩}
 have wW:br w β1 (df sz []) (Im (b8 P G w A β1 (df sz [])) β1 (df sz [])) (.sl (.par 0) sz 0 0::args) vs:=by
   simp only[br] at hv ⊢
   obtain⟨v,us,h1,h2,h4⟩:=hv
   refine⟨v,us,h1,?_,br.mono _ _ (kp _ (by rw[ha];simp)) h4⟩
   simp only[RV] at h2 ⊢
   obtain⟨ad,rfl⟩:=h2
   exact⟨ad,0,rfl,Nat.le_refl _,by simp[maxLen],by simp,fun _=> .inl rfl⟩
 refine(h3 w A β1 vs ju wW).mono ?_
 rintro e w' ⟨v,x,H1,β',rfl,⟨L,rfl,hL⟩,iS,hx,_⟩
 have gw:iU w w':=⟨iS.frame.os,iS.frame.tape,iS.frame.output,iS.frame.size,fun k hk=>iS.frame.block k hk (GK k)⟩
 refine⟨v,_,Hp.none,β,rfl,rfl,?_,?_,by simp[AV.an]⟩
 · exact { defers := rfl,size := rfl
           N8:=fun n=>by simp[Env.any,RV]
           rows:=fun l r h=>by simp[Hp.none] at h
           own:=fun l g ⟨r,h⟩=>by simp[Hp.none] at h
           inj:=fun l l' g ⟨r,h⟩=>by simp[Hp.none] at h
           eI:=fun n=>by simp[Env.any,AV.an]
           cH:=fun l r h=>by simp[Hp.none] at h
           frame:=⟨gw.os,gw.tape,gw.output,gw.size,fun k hk _=>gw.block k hk,fun k S hS=>iS.frame.bs k S hS⟩
           gA:=fun l ⟨r,h⟩=>by simp[b8,Hp.none] at h
           fr:=fun l g ⟨r,h⟩=>by simp[Hp.none] at h
           fo:=fun g cs hg=>by
             obtain⟨k1,k2,k3⟩:=hr.fo g cs hg
             exact⟨k1,Nat.lt_of_lt_of_le k2 gw.size,da.mono (gw.nz β Hp.none _ []).tofv k1 k2 k3⟩}
 have gm:0<sz:=h0
 have hk:fv w' w' (Im (b8 P G w A β1 (df sz [])) β' H1) (Im (b8 P G w A β Hp.none) β Hp.none):=⟨fun k hk hs=>⟨⟨hk.1,fun l ⟨r,hl⟩=>by simp[Hp.none] at hl⟩,hs,rfl⟩⟩
 simp only[RV] at hx
 obtain⟨ad,c,rfl,g2,g3,g4,g5⟩:=hx
 simp only[RV,NN]
 refine⟨ad,c,rfl,g2,g3,?_⟩
 by_cases hn:ys.length=0
 · exact .inl hn
 right
 rcases g5 ⟨_,hL⟩ with h6|⟨g,Sz,e1,e2,e3,e4⟩
 · omega
 obtain⟨cur,e0,cap,k1,k2,k3,k4,k5⟩:=(iS.rows L _ hL).block e1
 have hg:w.heap.size≤g:=(iS.own L g ⟨_,hL⟩ e1).resolve_left (GK g)
 refine⟨g,0*sz,sz,e2,⟨.inr hg,fun l ⟨r,hl⟩=>by simp[Hp.none] at hl⟩,(Array.getElem?_eq_some_iff.1 k1).1,gm,gN _ _ _ (fun k y hy=> ?_)⟩
 rw[eH]
 have qT:y.cells.length=sz:=by
   have:=(iS.rows L _ hL).2.1 (y.cells.map IV.dQ) (by
     simp only[aB]
     exact List.mem_map_of_mem (f:=fun y:IV=>y.cells.map IV.dQ) (List.mem_of_getElem? hy))
   simpa using this
 refine⟨qT.symm,gL _ _ _ (fun j z hz=> ?_)⟩
 obtain⟨u,q1,q2⟩:=k5 k j (y.cells.map IV.dQ) z.dQ (by simp[aB,hy]) (by simp[hz])
 refine⟨u,?_,pX hk (hf y (List.mem_of_getElem? hy) z (List.mem_of_getElem? hz)) q2⟩
 rw[cell_of_row w' g _ cur e0 (0,0) k1,←q1]
 congr 1
 change 0*sz+k*sz+j=k*sz+j
 omega
def pA {P:Program} {G:Nat→Option (List IV)} {f:Nat} {n:Nat} {rs:List RO} {ac:AC} {args:List AV} {sz:Nat} {xs ys:List IV}
  (hF:aw P G f=some (n,rs,ac.bare)) (hn:args.length≤n) (ha:∀l∈ah args,l= .par 0)
  (hg:go ⟨P,G,n⟩ (fX rs fun x H'=>∃L,x= .sl L sz 0 ys.length∧H' L= .live ⟨sz,aB ys⟩) [.code ac] (jP args) (df sz xs)):tq P G sz f args xs ys:=by
 refine⟨ha,hO hF hn ?_ ?_ hg⟩
 ·rintro l ⟨r,h⟩;by_cases e:l= .par 0
  ·subst e;rfl
  rw[df,aq _ _ e] at h;simp[Hp.none] at h
 intro l hl;rw[ha l hl];simp[df]
end Go.Am

namespace Go.Am
open Go Go.RowKit
structure WE (ls:List Lb) (u:Lb→Bool) (ps:List (Nat×AV)) (rs:List (Lb×Row)) (env:Env) (H:Hp) (m:List (Lb×Lb)):Prop where
 nf:∀l:Lb,l.entry=true→H l≠ .unused→l∈ls∨u l=true
 e:k_ (dn m) env ps
 r:tc (dn m) H rs
 inj:(ls.map (dn m)).Nodup
 fr:∀l∈ls,(l.fresh=true→(dn m l).fresh=true)∧(l.entry=true→dn m l=l)
def WE.wk {ls:List Lb} {u:Lb→Bool} {ps:List (Nat×AV)} {rs:List (Lb×Row)} {env:Env} {H:Hp} {m:List (Lb×Lb)} (h:WE ls u ps rs env H m) (lr:rs.map Prod.fst=ls) (hp:∀l∈ah (ps.map Prod.snd),l∈ls)
  (hr:∀q∈rs,∀cs∈q.2.els,∀l∈ah cs,l∈ls):Wk (dn m) env H (o9 ps) (ie u rs):=by
 have sw:∀l,live (ie u rs) l→l∈ls:=fun l ⟨r,h⟩=>by rw[←lr];exact VC.2 ⟨_,fy (cL.1 h),rfl⟩
 refine⟨h.e.we,fun l r hl=>nr h.r (fy (cL.1 hl)),fun l l' h1 h2 e=>gi h.inj l (sw l h1) l' (sw l' h2) e,mu fun l hl=>jb (.inl (by rw[lr];exact hp l hl)),fun l r hl cs bV q hq=> ?_,
  fun l hf=>⟨fun hu=> ?_,fun hl=>(h.fr l (sw l hl)).2 hf⟩,fun l hl hf=>(h.fr l (sw l hl)).1 hf⟩
 ·exact jb (.inl (by rw[lr];exact hr _ (fy (cL.1 hl)) cs bV q hq))
 exact jb (by rw[lr];exact h.nf l hf hu)
def gb {σ:Type} {S:St} {Q:gI} {c:AC} {k:List It} {env:Env} {H:Hp} (ls:σ→List Lb) (u:σ→Lb→Bool) (ps:σ→List (Nat×AV)) (rs:σ→List (Lb×Row)) (μ:σ→Nat) (s0:σ)
  (lr:∀s,(rs s).map Prod.fst=ls s) (hp:∀s,∀l∈ah ((ps s).map Prod.snd),l∈ls s) (hr:∀s,∀q∈rs s,∀cs∈q.2.els,∀l∈ah cs,l∈ls s) (h0:∃m,WE (ls s0) (u s0) (ps s0) (rs s0) env H m)
  (round:∀s,go S (kM S Q k (fun env H s=>∃m,WE (ls s) (u s) (ps s) (rs s) env H m) μ (μ s)) [.code c] (o9 (ps s)) (ie (u s) (rs s))):lI S Q c k env H:=
 j7 (fun s=>o9 (ps s)) (fun s=>ie (u s) (rs s)) _ (fun _ _ s ⟨m,h⟩=>⟨_,h.wk (lr s) (hp s) (hr s)⟩) μ s0 h0 round

structure uR where
 row:(Nat→Lb)→Nat→Option Row
 nat:∀(lab:Nat→Lb) (ρ:Lb→Lb) (p:Nat),row (fun i=>ρ (lab i)) p=(row lab p).map (dO ρ)
 an:∀(lab:Nat→Lb) (p:Nat) (r:Row),row lab p=some r→∀cs∈r.els,∀q∈ah cs,∃p',(row lab p').isSome=true∧q=lab p'
def uR.ok (R:uR) (p:Nat):Prop:=(R.row Lb.par p).isSome=true
def uR.Ec (R:uR) (lab:Nat→Lb) (p:Nat):(R.row lab p).isSome=true↔R.ok p:=by
 have h:=R.nat Lb.par (fun q=>match q with| .par i=>lab i|q=>q) p;simp only at h;unfold uR.ok;rw[show R.row lab p=_ from h];simp
structure Ed (lab:Nat→Lb) (R:uR) (H:Hp):Prop where
 row:∀p r,R.row lab p=some r→H (lab p)= .live r
 inj:∀p q,R.ok p→R.ok q→lab p=lab q→p=q
def Ed.live {lab:Nat→Lb} {R:uR} {H:Hp} (h:Ed lab R H) {p:Nat} (hp:R.ok p):Am.live H (lab p):=by
 obtain⟨r,hr⟩:=WI.1 ((R.Ec lab p).2 hp);exact⟨r,h.row p r hr⟩
open Classical in
noncomputable def Lw (lab:Nat→Lb) (R:uR) (H:Hp):Hp:=fun q=>
 if h:∃p,R.ok p∧lab p=q then(match R.row lab (Classical.choose h) with|some r=> .live r|none=> .dead) else H q
def R5 {lab:Nat→Lb} {R:uR} (hi:∀p q,R.ok p→R.ok q→lab p=lab q→p=q) (H:Hp) {p:Nat} {r:Row} (hp:R.row lab p=some r):Lw lab R H (lab p)= .live r:=by
 have j4:R.ok p:=(R.Ec lab p).1 (by rw[hp];rfl);have h:∃p',R.ok p'∧lab p'=lab p:=⟨p,j4,rfl⟩;have hc:=X9 h;have e:Classical.choose h=p:=hi _ _ hc.1 j4 hc.2;unfold Lw;rw[XM h,e,hp]
def Qa {lab:Nat→Lb} {R:uR} (H:Hp) {q:Lb} (h:∀p,R.ok p→lab p≠q):Lw lab R H q=H q:=by
 unfold Lw;rw[dif_neg (by rintro⟨p,h1,h2⟩;exact h p h1 h2)]
def PF {lab:Nat→Lb} {R:uR} (hi:∀p q,R.ok p→R.ok q→lab p=lab q→p=q) {H:Hp} {q:Lb} {r:Row} (h:Lw lab R H q= .live r) :
  (∃p,R.ok p∧lab p=q∧R.row lab p=some r)∨((∀p,R.ok p→lab p≠q)∧H q= .live r):=by
 by_cases e:∃p,R.ok p∧lab p=q
 ·obtain⟨p,h1,rfl⟩:=e;obtain⟨r',hr⟩:=WI.1 ((R.Ec lab p).2 h1);rw[R5 hi H hr] at h;cases h;exact .inl ⟨p,h1,rfl,hr⟩
 have e':∀p,R.ok p→lab p≠q:=fun p h1 h2=>e ⟨p,h1,h2⟩;rw[Qa H e'] at h;exact .inr ⟨e',h⟩
def Ed.R6 {lab:Nat→Lb} {R:uR} (hi:∀p q,R.ok p→R.ok q→lab p=lab q→p=q) (H:Hp):Ed lab R (Lw lab R H):=⟨fun _ _ hp=>R5 hi H hp,hi⟩
noncomputable def Lx (R:uR):Hp:=Lw Lb.par R Hp.none
def Jg (P:Program) (G:Nat→Option (List IV)) (f:Nat) (args:List AV) (R:uR) (fx:List Nat) (Q:((Nat→Lb)→AV)→uR→Prop):Prop:=
 (∀l∈ah args,∃p,R.ok p∧l= .par p)∧ey P G f args (Lx R) fun x H'=>∃t:((Nat→Lb)→AV)×uR×(Nat→Lb),
  Q t.1 t.2.1∧(∀ρ,bJ ρ (t.1 t.2.2)=t.1 fun i=>ρ (t.2.2 i))∧(∀l∈x.an,∃p,t.2.1.ok p∧l=t.2.2 p)∧x=t.1 t.2.2∧Ed t.2.2 t.2.1 H'∧∀p∈fx,t.2.2 p= .par p
def S1 (lab:Nat→Lb):Lb→Lb:=fun q=>match q with
 | .par i=>lab i
 |q=>q
def Jg.mono {P:Program} {G:Nat→Option (List IV)} {f:Nat} {args:List AV} {R:uR} {fx:List Nat} {Q Q':((Nat→Lb)→AV)→uR→Prop} (h:Jg P G f args R fx Q) (hq:∀X R,Q X R→Q' X R):Jg P G f args R fx Q':=
 ⟨h.1,h.2.mono fun x H ⟨t,h1,h2⟩=>⟨t,hq _ _ h1,h2⟩⟩
end Go.Am

namespace Go.Am
open Go Go.RowKit
section
variable {S:St} {env:Env} {H:Hp}
def aH.R7 {K:Kx} {β:Lb→Option Nat} {a:Act} {w:World} (hr:aH K β env H a w) {l:Lb} {sz:Nat} {els QX:List (List AV)} (hl:H l= .live ⟨sz,els⟩) (g:Nat) (hb:β l=some g)
   (hlen:∀cur e cap,w.heap[g]?=some (.cells cur e (0,0))→cur.size=cap*sz→els.length≤cap→QX.length≤cap) (bV:∀cs∈QX,cs.length=sz) (hm:∀cs∈QX,∀q∈ah cs,H q≠ .unused)
   (hc:∀(i j:Nat) cs x,QX[i]?=some cs→cs[j]?=some x→x= .any∨∃wy,els[i]?=some wy∧wy[j]?=some x):aH K β env (bD H l (.live ⟨sz,QX⟩)) a w:=by
 obtain⟨cur,e0,cap,k1,k2,k3,k4,k5⟩:=(hr.rows l _ hl).block hb
 have vf:=hr.setRow l (r':=⟨sz,QX⟩) (cur':=cur) (cap:=cap) hl hb k1 rfl rfl k2 k3 (hlen cur e0 cap k1 k2 k4) bV hm (by
   intro i j cs x hi hj
   rcases hc i j cs x hi hj with rfl|⟨wy,h1,h2⟩
   · have CQ:j<sz:=by
       have:=bV cs (U_ hi)
       have:=(U9.1 hj).1
       omega
     have oI:i<QX.length:=(U9.1 hi).1
     have zD:=hlen cur e0 cap k1 k2 k4
     have:i*sz+j<cur.size:=by
       rw[k2]
       have:=Vu sz (show i+1≤cap by omega)
       rw[VD] at this
       simp only at this ⊢
       omega
     exact⟨cur[i*sz+j],V1 this,by simp[RV]⟩
   exact k5 i j wy x h1 h2)
 rw[setRow_self w g cur e0 (0,0) k1] at vf
 exact vf
def RB {l:Lb} {r:Row} (h:H l= .live r):bD H l (.live r)=H:=by
 funext q;by_cases e:q=l
 ·subst e;simp[h]
 rw[aq _ _ e]
def Qr {l:Lb} {sz:Nat} {els:List (List AV)} (k:Nat) (hl:H l= .live ⟨sz,els⟩):nQ S env H env (bD H l (.live ⟨sz,els.take k⟩)):=by
 intro K β a w hS hf hr;cases hb:β l with
 |none=>
  have:=(hr.rows l _ hl).2.2;simp only[hb] at this;subst this;simp only[List.take_nil];rw[RB hl];exact⟨β,hr⟩
 |some g=>
 refine⟨β,hr.R7 hl g hb ?_ ?_ ?_ ?_⟩
 ·intro cur e cap k1 k2 k4;rw[V0];omega
 ·exact fun cs bV=>(hr.rows l _ hl).2.1 cs (VK bV)
 ·exact fun cs bV=>hr.cH l _ hl cs (VK bV)
 intro i j cs x hi hj;rw[Vs] at hi;split at hi
 ·exact .inr ⟨cs,hi,hj⟩
 simp at hi
end

section
variable {H:Hp} {l:Lb} {sz b d n c i m:Nat} {els news:List (List AV)} {xs:List IV}
end
def Flat.part {xs:List IV} (h:Flat xs) (i k:Nat):Flat ((xs.drop i).take k):=fun y hy=>h y (Ws (VK hy))

def MY (v:Bool) (s:Bs):Option Bs:=match bm v s with
 |some (t,[])=>some t
 |_=>none
abbrev yu (v:Bool) (c:UInt8):Prop:=c=60∨(c=34∧v=true)
theorem OS {c:UInt8}:∀(p x r:Bs),c∉p→p.isPrefixOf (x++c::r)=p.isPrefixOf x
 |[],x,r,_=>by simp[List.isPrefixOf]
 |d::p,[],r,h=>by
  simp only[Vg,Xd] at h;simp[List.isPrefixOf,V7 h.1]
 |d::p,y::x,r,h=>by
  simp only[Vg,Xd] at h;simp only[Vb,List.isPrefixOf];rw[OS p x r h.2]
def R8 {c:UInt8} (hc:c=60∨c=34) (x r:Bs):og (x++c::r)=(og x).map fun y=>(y.1,y.2++c::r):=by
 have h:∀p∈[qH,rC,kD,jc],c∉p:=by
  rcases hc with rfl|rfl<;>decide
 have hl:∀p:Bs,p.isPrefixOf x=true→(x++c::r).drop p.length=x.drop p.length++c::r:=fun p hp=>by
  obtain⟨q,rfl⟩:=Vt.1 hp;simp
 unfold og;rw[OS qH x r (h _ (by simp)),OS rC x r (h _ (by simp)),OS kD x r (h _ (by simp)),OS jc x r (h _ (by simp))];split
 ·rename_i hp;have:=hl _ hp;simp only[qH,Vo,VR] at this;simp[this]
 split
 ·rename_i hp;have:=hl _ hp;simp only[rC,Vo,VR] at this;simp[this]
 split
 ·rename_i hp;have:=hl _ hp;simp only[kD,Vo,VR] at this;simp[this]
 split
 ·rename_i hp;have:=hl _ hp;simp only[jc,Vo,VR] at this;simp[this]
 rfl
def vW (v:Bool):bm v []=some ([],[]):=by rw[bm]
def tr {v:Bool} {c:UInt8} (hc:yu v c) (r:Bs):bm v (c::r)=some ([],c::r):=by rw[bm,Vd hc]
def O7 {v:Bool}:∀(n:Nat) (x t r:Bs),x.length≤n→(∀c∈x,¬yu v c)→bm v x=some (t,r)→r=[]:=by
 intro n;induction n with
 |zero=>
  intro x t r hn _ h;have:x=[]:=Vv.1 (by omega);subst this;rw[bm] at h;simp at h;exact h.2
 |succ n ih=>
 intro x t r hn hs h;cases x with
 |nil=>rw[bm] at h;simp at h;exact h.2
 |cons c q=>
 rw[bm,U8 (hs c (by simp))] at h;split at h
 ·split at h
  ·rename_i e q' he;have bI:=nw he;obtain⟨⟨t',r'⟩,h1,h2⟩:=oA.1 h;simp only[U6] at h2;obtain⟨rfl,rfl⟩:=h2;refine ih q' t' r' (by simp at bI hn;omega) (fun d hd=>hs d ?_) h1;have:q' <:+ c::q:=by
    unfold og at he;split at he
    ·simp only[di,U6] at he;rw[←he.2];exact Wt _ _
    split at he
    ·simp only[di,U6] at he;rw[←he.2];exact Wt _ _
    split at he
    ·simp only[di,U6] at he;rw[←he.2];exact Wt _ _
    split at he
    ·simp only[di,U6] at he;rw[←he.2];exact Wt _ _
    simp at he
   exact this.subset hd
  simp at h
 split at h
 ·simp at h
 obtain⟨⟨t',r'⟩,h1,h2⟩:=oA.1 h;simp only[U6] at h2;obtain⟨rfl,rfl⟩:=h2;exact ih q t' r' (by simp at hn;omega) (fun d hd=>hs d (by simp[hd])) h1
def Qs {s q:Bs} {e:UInt8} (he:og s=some (e,q)):q <:+ s:=by
 unfold og at he;split at he
 ·simp only[di,U6] at he;rw[←he.2];exact Wt _ _
 split at he
 ·simp only[di,U6] at he;rw[←he.2];exact Wt _ _
 split at he
 ·simp only[di,U6] at he;rw[←he.2];exact Wt _ _
 split at he
 ·simp only[di,U6] at he;rw[←he.2];exact Wt _ _
 simp at he
def RC {v:Bool} {c:UInt8} (hc:yu v c):∀(n:Nat) (x r:Bs),x.length≤n→(∀d∈x,¬yu v d)→bm v (x++c::r)=(bm v x).map fun y=>(y.1,y.2++c::r):=by
 have KD:c=60∨c=34:=hc.imp id And.left;intro n;induction n with
 |zero=>
  intro x r hn _;have:x=[]:=Vv.1 (by omega);subst this;rw[VH,tr hc,vW];rfl
 |succ n ih=>
 intro x r hn hs;cases x with
 |nil=>rw[VH,tr hc,vW];rfl
 |cons d q=>
 have hd:=hs d (by simp);have hq:∀e∈q,¬yu v e:=fun e he=>hs e (by simp[he]);rw[Vb]
 conv=>lhs;rw[bm,U8 hd]
 conv=>rhs;rw[bm,U8 hd]
 split
 ·rename_i qv;have e1:=R8 KD (d::q) r;rw[Vb] at e1;cases he:og (d::q) with
  |none=>
   rw[he] at e1;split
   ·rename_i e q' h;rw[e1] at h;cases h
   rfl
  |some y=>
  obtain⟨e,q'⟩:=y;rw[he] at e1;have bI:=nw he;split
  ·rename_i e2 q2 h;rw[e1] at h;simp only[Vf,di,U6] at h;obtain⟨rfl,rfl⟩:=h;rw[ih q' r (by simp at bI hn;omega) (fun z hz=>hs z ((Qs he).subset hz))];cases bm v q'<;>rfl
  rename_i h;rw[e1] at h;cases h
 split
 ·rfl
 rw[ih q r (by simp at hn;omega) hq];cases bm v q<;>rfl
def Oz {v:Bool} {c:UInt8} (hc:yu v c) {x:Bs} (hs:∀d∈x,¬yu v d) (r:Bs):bm v (x++c::r)=(MY v x).map fun t=>(t,c::r):=by
 rw[RC hc _ x r (Va _) hs];unfold MY;cases h:bm v x with
 |none=>rfl
 |some y=>
 obtain⟨t,q⟩:=y;have:=O7 _ x t q (Va _) hs h;subst this;rfl
def Qb {v:Bool} {x:Bs} (hs:∀d∈x,¬yu v d):bm v x=(MY v x).map fun t=>(t,[]):=by
 unfold MY;cases h:bm v x with
 |none=>rfl
 |some y=>
 obtain⟨t,q⟩:=y;have:=O7 _ x t q (Va _) hs h;subst this;rfl
def RD {v:Bool}:∀(n:Nat) (x t:Bs),x.length≤n→MY v x=some t→(62:UInt8)∉x∧(60:UInt8)∉x:=by
 intro n;induction n with
 |zero=>
  intro x t hn _;have:x=[]:=Vv.1 (by omega);subst this;simp
 |succ n ih=>
 intro x t hn h;cases x with
 |nil=>simp
 |cons c q=>
 unfold MY at h;split at h
 ·rename_i t' he;rw[bm] at he;split at he
  ·simp at he
  rename_i g_;split at he
  ·rename_i qv;split at he
   ·rename_i e q' tw;obtain⟨⟨t2,r2⟩,h1,h2⟩:=oA.1 he;simp only[U6] at h2;obtain⟨_,rfl⟩:=h2;have bI:=nw tw;have:=ih q' t2 (by simp at bI hn;omega) (by unfold MY;rw[h1]);have hw:∃w:Bs,c::q=w++q'∧(62:UInt8)∉w∧(60:UInt8)∉w:=by
     have key:∀p:Bs,p.isPrefixOf (c::q)=true→(62:UInt8)∉p→(60:UInt8)∉p→∀k,k=p.length→∃w:Bs,c::q=w++(c::q).drop k∧(62:UInt8)∉w∧(60:UInt8)∉w:=fun p hp h1 h2 k hk=>by
      obtain⟨z,hz⟩:=Vt.1 hp;exact⟨p,by rw[←hz,hk];simp,h1,h2⟩
     unfold og at tw;split at tw
     ·rename_i hp;simp only[di,U6] at tw;rw[←tw.2];exact key qH hp (by decide) (by decide) _ rfl
     split at tw
     ·rename_i hp;simp only[di,U6] at tw;rw[←tw.2];exact key rC hp (by decide) (by decide) _ rfl
     split at tw
     ·rename_i hp;simp only[di,U6] at tw;rw[←tw.2];exact key kD hp (by decide) (by decide) _ rfl
     split at tw
     ·rename_i hp;simp only[di,U6] at tw;rw[←tw.2];exact key jc hp (by decide) (by decide) _ rfl
     simp at tw
    obtain⟨w,e1,e2,e3⟩:=hw;rw[e1];simp only[Vi,Xd];exact⟨⟨e2,this.1⟩,e3,this.2⟩
   simp at he
  split at he
  ·simp at he
  rename_i yH;obtain⟨⟨t2,r2⟩,h1,h2⟩:=oA.1 he;simp only[U6] at h2;obtain⟨_,rfl⟩:=h2;have:=ih q t2 (by simp at hn;omega) (by unfold MY;rw[h1]);simp only[Vg,Xd];exact⟨⟨fun e=>yH (.inl e.symm),this.1⟩,fun e=>g_ (.inl e.symm),this.2⟩
 simp at h

def Nh (p:Bs):Bs→Option (Bs×Bs)
 |[]=>none
 |c::r=>if p.isPrefixOf (c::r) then some ([],(c::r).drop p.length) else(Nh p r).map fun x=>(c::x.1,x.2)
theorem NO {p:Bs}:∀{s a b:Bs},Nh p s=some (a,b)→s=a++p++b
 |[],a,b,h=>by simp[Nh] at h
 |c::r,a,b,h=>by
  unfold Nh at h;split at h
  ·rename_i hp;obtain⟨q,hq⟩:=Vt.1 hp;simp only[di,U6] at h;obtain⟨rfl,rfl⟩:=h;rw[←hq];simp
  obtain⟨⟨a',b'⟩,h1,h2⟩:=oA.1 h;simp only[U6] at h2;obtain⟨rfl,rfl⟩:=h2;rw[NO h1];simp
def Qc {p s a b:Bs} (hp:0<p.length) (h:Nh p s=some (a,b)):b.length<s.length:=by
 rw[NO h];simp;omega
theorem O8 {c:UInt8} {p:Bs}:∀(a b:Bs),c∉a→Nh (c::p) (a++(c::p)++b)=some (a,b)
 |[],b,_=>by
  simp only[VH,Vb,Nh];rw[Vd (by rw[←Vb,Vt];exact⟨b,rfl⟩)];simp
 |d::a,b,h=>by
  simp only[Vg,Xd] at h;simp only[Vb,Nh];rw[U8 (by simp[List.isPrefixOf,h.1])];have:=O8 (c:=c) (p:=p) a b h.2;simp only[Vb,VP] at this ⊢;rw[this];rfl
theorem NC {c:UInt8}:∀{s:Bs},Nh [c] s=none↔c∉s
 |[]=>by simp[Nh]
 |d::r=>by
  unfold Nh;by_cases e:c=d
  ·subst e;simp[List.isPrefixOf]
  rw[U8 (by simp[List.isPrefixOf,e])];simp[NC (s:=r),e]
theorem Nn {c:UInt8}:∀{s a b:Bs},Nh [c] s=some (a,b)→s=a++c::b∧c∉a
 |[],a,b,h=>by simp[Nh] at h
 |d::r,a,b,h=>by
  unfold Nh at h;split at h
  ·rename_i hp;simp only[di,U6] at h;obtain⟨rfl,rfl⟩:=h;simp[List.isPrefixOf] at hp;subst hp;simp
  rename_i hp;obtain⟨⟨a',b'⟩,h1,h2⟩:=oA.1 h;simp only[U6] at h2;obtain⟨rfl,rfl⟩:=h2;obtain⟨e1,e2⟩:=Nn h1;refine⟨by rw[e1];rfl,?_⟩;simp only[Vg,Xd];exact⟨fun e=>hp (by simp[List.isPrefixOf,e]),e2⟩
def Rr {c:UInt8} {a b:Bs} (h:c∉a):Nh [c] (a++c::b)=some (a,b):=by
 have:=O8 (c:=c) (p:=[]) a b h;simpa using this
def Tl (T:Bs):Prop:=(∃q,T=62::q)∨∃q,T=47::62::q
def Tl.low {T:Bs} (h:Tl T):∀c q,T=c::q→bz c=false:=by
 rintro c q rfl;rcases h with⟨_,h⟩|⟨_,h⟩<;>(simp only[Vj] at h;rw[h.1];rfl)
def Tl.head {T:Bs} (h:Tl T):∃c q,T=c::q∧(c=62∨c=47):=by
 rcases h with⟨q,rfl⟩|⟨q,rfl⟩
 ·exact⟨_,_,rfl,.inl rfl⟩
 exact⟨_,_,rfl,.inr rfl⟩
def Qt {v:Bool}:∀(n:Nat) (x q:Bs),x.length≤n→(∀d∈x,¬yu v d)→(v=true→(34:UInt8)∉x)→bm v (x++62::q)=none:=by
 intro n;induction n with
 |zero=>
  intro x q hn _ _;have:x=[]:=Vv.1 (by omega);subst this;rw[VH,bm,U8 (by simp),U8 (by decide),Vd (by simp)]
 |succ n ih=>
 intro x q hn hs hv;cases x with
 |nil=>rw[VH,bm,U8 (by simp),U8 (by decide),Vd (by simp)]
 |cons d x=>
 rw[Vb,bm,U8 (hs d (by simp))];split
 ·split
  ·rename_i e r he;have bI:=nw he;have yN:∀p:Bs,(62:UInt8)∉p→p.isPrefixOf (d::(x++62::q))=true→∃y,d::x=p++y:=fun p hp h=>by
    rw[←Vb,OS p (d::x) q hp] at h;obtain⟨y,hy⟩:=Vt.1 h;exact⟨y,hy.symm⟩
   have key:∃p y,d::x=p++y∧r=y++62::q:=by
    have h0:∀(p:Bs) (k:Nat),k=p.length→(62:UInt8)∉p→p.isPrefixOf (d::(x++62::q))=true→(d::(x++62::q)).drop k=r→∃p y,d::x=p++y∧r=y++62::q:=fun p k hk hp h hr=>by
     obtain⟨y,hy⟩:=yN p hp h;refine⟨p,y,hy,?_⟩;rw[←hr,←Vb,hy,hk];simp
    unfold og at he;split at he
    ·rename_i hp;simp only[di,U6] at he;exact h0 qH 4 rfl (by decide) hp he.2
    split at he
    ·rename_i hp;simp only[di,U6] at he;exact h0 rC 4 rfl (by decide) hp he.2
    split at he
    ·rename_i hp;simp only[di,U6] at he;exact h0 kD 5 rfl (by decide) hp he.2
    split at he
    ·rename_i hp;simp only[di,U6] at he;exact h0 jc 6 rfl (by decide) hp he.2
    simp at he
   obtain⟨p,y,e1,rfl⟩:=key;have hl:y.length≤n:=by
    simp at bI hn;omega
   rw[ih y q hl (fun z hz=>hs z (by rw[e1];simp[hz])) (fun wW hz=>hv wW (by rw[e1];simp[hz]))];rfl
  rfl
 split
 ·rfl
 rw[ih x q (by simp at hn;omega) (fun z hz=>hs z (by simp[hz])) (fun wW hz=>hv wW (by simp[hz]))];rfl
def Nj (s:Bs):Option (Attr×Bs):=
 (Nh [61,34] s).bind fun x=>(Nh [34] x.2).bind fun y=>(MY true y.1).bind fun v=>if named x.1=true then some (⟨x.1,v⟩,y.2) else none
def OT {s r:Bs} {a:Attr} (h:Nj s=some (a,r)):r.length<s.length:=by
 unfold Nj at h;obtain⟨⟨n,x⟩,h1,h⟩:=U5.1 h;obtain⟨⟨y,z⟩,h2,h⟩:=U5.1 h;obtain⟨v,h3,h⟩:=U5.1 h;split at h
 ·simp only[di,U6] at h;obtain⟨_,rfl⟩:=h;have:=Qc (by simp) h1;have:=Qc (by simp) h2;simp only at *;omega
 simp at h
def OU {s n r:Bs}:l6 s=some (n,r)↔named n=true∧s=n++r∧∀c q,r=c::q→bz c=false:=by
 constructor
 ·intro h;obtain⟨e,fO⟩:=mE h;unfold l6 at h;simp only at h;split at h
  ·simp at h
  rename_i hn;simp only[di,U6] at h;obtain⟨rfl,rfl⟩:=h;refine⟨(mF _).2 ⟨fun c hc=> ?_,fO,by omega⟩,e,?_⟩
  ·exact Vx.1 Xm c hc
  intro c q hq;have:=Xl bz s;rw[hq] at this;simpa using this
 rintro⟨h1,rfl,h2⟩;exact mG h1 h2
def PG {n:Bs} (hn:named n=true) {c:UInt8} (hc:bz c=false):c∉n:=fun h=>by
 have:=((mF n).1 hn).1 c h;rw[hc] at this;cases this
def RE {s T : Bs} (hT : Tl T) (hs : (62 : UInt8) ∉ s) : l7 (s ++ T) = (Nj s).map fun x => (x.1,x.2 ++ T) := by
 have val : ∀ y : Bs,(62 : UInt8) ∉ y → ((bm true (y ++ T)).bind fun z => (iA [34] z.2).map fun q => (z.1,q)) = (Nh [34] y).bind fun w => (MY true w.1).map fun v => (v,w.2 ++ T) := by
   intro y hy
   cases GO : Nh [34] y with
   | none =>
     rw [NC] at GO
     simp only [W5]
     cases tv : Nh [60] y with
     | some w =>
       obtain ⟨a,b⟩ := w
       obtain ⟨rfl,h1⟩ := Nn tv
       have g_ : ∀ d ∈ a,¬ yu true d := by
         rintro d hd (rfl | ⟨rfl,_⟩)
         · exact h1 hd
         · exact GO (by simp [hd])
       rw [show a ++ 60 :: b ++ T = a ++ 60 :: (b ++ T) by simp,Oz (.inl rfl) g_]
       cases MY true a with
       | none => rfl
       | some t => simp [iA,List.isPrefixOf]
     | none =>
       rw [NC] at tv
       have g_ : ∀ d ∈ y,¬ yu true d := by
         rintro d hd (rfl | ⟨rfl,_⟩)
         · exact tv hd
         · exact GO hd
       rcases hT with ⟨q,rfl⟩ | ⟨q,rfl⟩
       · rw [Qt _ y q (Va _) g_ (fun _ => GO)]; rfl
       · rw [show y ++ 47 :: 62 :: q = (y ++ [47]) ++ 62 :: q by simp,Qt _ (y ++ [47]) q (Va _) (by
           intro d hd
           simp only [Vi,Vm] at hd
           rcases hd with hd | rfl
           · exact g_ d hd
           · simp) (fun _ h => by simp only [Vi,Vm] at h; rcases h with h | h; exact GO h; cases h)]; rfl
   | some w =>
     obtain ⟨a,b⟩ := w
     obtain ⟨rfl,h1⟩ := Nn GO
     simp only [U7]
     cases tv : Nh [60] a with
     | some w =>
       obtain ⟨a1,b1⟩ := w
       obtain ⟨rfl,h2⟩ := Nn tv
       have g_ : ∀ d ∈ a1,¬ yu true d := by
         rintro d hd (rfl | ⟨rfl,_⟩)
         · exact h2 hd
         · exact h1 (by simp [hd])
       rw [show a1 ++ 60 :: b1 ++ 34 :: b ++ T = a1 ++ 60 :: (b1 ++ 34 :: b ++ T) by simp,Oz (.inl rfl) g_]
       have : MY true (a1 ++ 60 :: b1) = none := by
         cases h : MY true (a1 ++ 60 :: b1) with
         | none => rfl
         | some t => exact absurd (by simp) (RD _ _ t (Va _) h).2
       rw [this]
       cases MY true a1 with
       | none => rfl
       | some t => simp [iA,List.isPrefixOf]
     | none =>
       rw [NC] at tv
       have g_ : ∀ d ∈ a,¬ yu true d := by
         rintro d hd (rfl | ⟨rfl,_⟩)
         · exact tv hd
         · exact h1 hd
       rw [show a ++ 34 :: b ++ T = a ++ 34 :: (b ++ T) by simp,Oz (.inr ⟨rfl,rfl⟩) g_]
       cases MY true a with
       | none => rfl
       | some t => simp [iA,List.isPrefixOf]
 have e1 : l7 (s ++ T) = (l6 (s ++ T)).bind fun x => (iA [61,34] x.2).bind fun r => (((bm true r).bind fun z => (iA [34] z.2).map fun q => (z.1,q))).map fun w => (⟨x.1,w.1⟩,w.2) := by
   unfold l7
   congr 1; funext x
   congr 1; funext r
   cases bm true r with
   | none => rfl
   | some z => simp only [U7]; cases iA [34] z.2 <;> rfl
 rw [e1]
 cases hc : Nh [61,34] s with
 | some w =>
   obtain ⟨n,y⟩ := w
   have e := NO hc
   unfold Nj
   rw [hc]
   simp only [U7]
   by_cases hn : named n = true
   · have h1 : l6 (s ++ T) = some (n,[61,34] ++ (y ++ T)) := OU.2 ⟨hn,by rw [e]; simp,by intro c q h; simp only [Vb,Vj] at h; rw [← h.1]; rfl⟩
     rw [h1]
     simp only [U7]
     rw [gR]
     simp only [U7]
     rw [val y (by intro h; exact hs (by rw [e]; simp [h]))]
     cases Nh [34] y with
     | none => rfl
     | some w =>
       simp only [U7]
       cases MY true w.1 with
       | none => rfl
       | some v => simp [hn]
   · have h2 : (Nh [34] y).bind (fun w => (MY true w.1).bind fun v => if named n = true then some ((⟨n,v⟩ : Attr),w.2) else none) = none := by
       cases Nh [34] y with
       | none => rfl
       | some w => simp only [U7]; cases MY true w.1 <;> simp [hn]
     rw [h2]
     simp only [XF]
     cases hf : l6 (s ++ T) with
     | none => rfl
     | some x =>
       obtain ⟨n',r⟩ := x
       simp only [U7]
       cases ht : iA [61,34] r with
       | none => rfl
       | some r' =>
         exfalso
         obtain ⟨k1,k2,k3⟩ := OU.1 hf
         unfold iA at ht
         split at ht
         · rename_i hp
           obtain ⟨z,rfl⟩ := Vt.1 hp
           have : Nh [61,34] (s ++ T) = some (n',z) := by rw [k2,← VP]; exact O8 n' z (PG k1 rfl)
           have h3 : s ++ T = n ++ [61,34] ++ (y ++ T) := by rw [e]; simp
           have h4 : n = n' := by
             have hlen : ∀ (s a b : Bs),Nh [61,34] s = some (a,b) → ∀ t,Nh [61,34] (s ++ t) = some (a,b ++ t) := by
               intro s
               induction s with
               | nil => intro a b h; simp [Nh] at h
               | cons c s ih =>
                 intro a b h t
                 unfold Nh at h
                 simp only [Vb]
                 unfold Nh
                 split at h
                 · rename_i hp
                   obtain ⟨w,hw⟩ := Vt.1 hp
                   simp only [di,U6] at h
                   obtain ⟨rfl,rfl⟩ := h
                   rw [← Vb,← hw]
                   rw [Vd (by rw [Vt,VP]; exact ⟨_,rfl⟩)]
                   simp
                 · rename_i hp
                   obtain ⟨⟨a',b'⟩,g1,g2⟩ := oA.1 h
                   simp only [U6] at g2
                   obtain ⟨rfl,rfl⟩ := g2
                   have e := NO g1
                   rw [U8,ih a' b' g1 t]
                   · rfl
                   · intro hq
                     apply hp
                     rw [e] at hq ⊢
                     cases a' with
                     | nil => simpa [List.isPrefixOf] using hq
                     | cons a0 a' => simpa [List.isPrefixOf] using hq
             have := (hlen s n y hc T).symm.trans this
             simp only [di,U6] at this
             exact this.1
           exact hn (h4 ▸ k1)
         · simp at ht
 | none =>
   have h2 : Nj s = none := by unfold Nj; rw [hc]; rfl
   rw [h2]
   simp only [XF]
   cases hf : l6 (s ++ T) with
   | none => rfl
   | some x =>
     obtain ⟨n',r⟩ := x
     simp only [U7]
     cases ht : iA [61,34] r with
     | none => rfl
     | some r' =>
       exfalso
       obtain ⟨k1,k2,k3⟩ := OU.1 hf
       unfold iA at ht
       split at ht
       · rename_i hp
         obtain ⟨z,rfl⟩ := Vt.1 hp
         obtain ⟨c,q,T6,MH⟩ := hT.head
         have OZ : ∃ z',s = n' ++ [61,34] ++ z' := by
           have h5 := XT.1 k2
           rcases h5 with ⟨w,h6,h7⟩ | ⟨w,h6,h7⟩
           · -- s is a part of the name
             exfalso
             cases w with
             | nil =>
               simp only [VH] at h7
               rw [T6] at h7
               simp only [Vb,Vj] at h7
               rcases MH with rfl | rfl <;> simp at h7
             | cons w0 w =>
               rw [T6] at h7
               simp only [Vb,Vj] at h7
               have : c ∈ n' := by rw [h6,← h7.1]; simp
               rcases MH with rfl | rfl
               · exact PG k1 rfl this
               · exact PG k1 rfl this
           · -- w ++ T = =" ++ z
             rw [T6] at h7
             cases w with
             | nil => simp only [Vb,VH,Vj] at h7; rcases MH with rfl | rfl <;> simp at h7
             | cons w0 w =>
               cases w with
               | nil => simp only [Vb,VH,Vj] at h7; rcases MH with rfl | rfl <;> simp at h7
               | cons w1 w =>
                 simp only [Vb,VH,Vj] at h7
                 exact ⟨w,by rw [h6,← h7.1,← h7.2.1]; simp⟩
         obtain ⟨z',HZ⟩ := OZ
         have := O8 (c := 61) (p := [34]) n' z' (PG k1 rfl)
         rw [← HZ,hc] at this
         cases this
       · simp at ht

def Nc (m:Bs):Option (List Attr):=
 if m.all isSp then some []
 else if(m.dropWhile isSp).length=m.length then none
 else match h:Nj (m.dropWhile isSp) with
  |some (a,r)=>(Nc r).map fun l=>a::l
  |none=>none
termination_by m.length
decreasing_by
 have:=OT h;have:=jf isSp m;omega
def RF {s r:Bs} {a:Attr} (h:Nj s=some (a,r)) (hs:(62:UInt8)∉s):(62:UInt8)∉r:=by
 unfold Nj at h;obtain⟨⟨n,x⟩,h1,h⟩:=U5.1 h;obtain⟨⟨y,z⟩,h2,h⟩:=U5.1 h;obtain⟨v,h3,h⟩:=U5.1 h;split at h
 ·simp only[di,U6] at h;obtain⟨_,rfl⟩:=h;have e1:=NO h1;have e2:=NO h2;intro hm;apply hs;simp only at e2;rw[e1,e2];simp[hm]
 simp at h
theorem OV {p:UInt8→Bool}:∀{s:Bs},s.dropWhile p=[]↔∀x∈s,p x=true
 |[]=>by simp
 |c::r=>by
  by_cases h:p c=true
  ·simp[Wl,h,OV (p:=p) (s:=r)]
  simp[Wl,h]
def Pe {m T:Bs} (hT:Tl T):(m++T).dropWhile isSp=m.dropWhile isSp++T:=by
 induction m with
 |nil=>
  rcases hT with⟨q,rfl⟩|⟨q,rfl⟩<;>rfl
 |cons c m ih=>
 by_cases h:isSp c=true
 ·simp[Wl,h,ih]
 simp[Wl,h]
def RG {T:Bs} (hT:Tl T):∀(n:Nat) (m:Bs),m.length≤n→(62:UInt8)∉m →
   (∀as,Nc m=some as→ea (m++T)=some (as,T)) ∧
   (∀as r,ea (m++T)=some (as,r)→∃r',r=r'++T∧r' <:+ m∧(r'=[]→Nc m=some as)):=by
 intro n
 induction n with
 |zero=>
   intro m hn _
   have:m=[]:=Vv.1 (by omega)
   subst this
   have e:ea ([]++T)=some ([],T):=by
     have hd:T.dropWhile isSp=T:=by simpa using Pe (m:=[]) hT
     rw[VH,ea,hd,U8 (by simp[iL])]
   refine⟨fun as h=> ?_,fun as r h=> ?_⟩
   · rw[Nc] at h;simp at h;subst h;exact e
   rw[e] at h;simp only[di,U6] at h
   obtain⟨rfl,rfl⟩:=h
   exact⟨[],rfl,Xc _,fun _=>by rw[Nc];simp⟩
 |succ n ih=>
 intro m hn hm
 have hd:=Pe (m:=m) hT
 by_cases dN:m.all isSp=true
 · have Lq:m.dropWhile isSp=[]:=by
     rw[OV]
     exact fun x hx=>by simpa using Vx.1 dN x hx
   have e:ea (m++T)=some ([],T):=by
     rw[ea,hd,Lq,VH,U8]
     obtain⟨c,q,rfl,hc⟩:=hT.head
     rcases hc with rfl|rfl<;>simp[iL]
   have e2:Nc m=some []:=by rw[Nc,Vd dN]
   refine⟨fun as h=> ?_,fun as r h=> ?_⟩
   · rw[e2] at h;cases h;exact e
   rw[e] at h;simp only[di,U6] at h
   obtain⟨rfl,rfl⟩:=h
   exact⟨[],rfl,List.nil_suffix,fun _=>e2⟩
 obtain⟨c,q,TH⟩:∃c q,m.dropWhile isSp=c::q:=by
   cases h:m.dropWhile isSp with
   |nil=>
     rw[OV] at h
     exact absurd (Vx.2 fun x hx=>by simpa using h x hx) dN
   |cons c q=>exact⟨c,q,rfl⟩
 have S9:m.dropWhile isSp <:+ m:=Wa _
 have K3:(62:UInt8)∉m.dropWhile isSp:=fun h=>hm (S9.subset h)
 have T7:c≠62:=by rintro rfl;exact K3 (by rw[TH];simp)
 have stop:iL (m++T) (m.dropWhile isSp++T)=false→(Nc m=none)→(∀as,Nc m=some as→ea (m++T)=some (as,T)) ∧
     (∀as r,ea (m++T)=some (as,r)→∃r',r=r'++T∧r' <:+ m∧(r'=[]→Nc m=some as)):=by
   intro h1 h2
   refine⟨fun as h=>(by rw[h2] at h;cases h),fun as r h=> ?_⟩
   rw[ea,hd,U8 (by rw[h1];simp)] at h
   simp only[di,U6] at h
   obtain⟨rfl,rfl⟩:=h
   exact⟨_,rfl,S9,fun h=>by rw[TH] at h;cases h⟩
 by_cases hl:(m.dropWhile isSp).length=m.length
 · refine stop ?_ ?_
   · simp[iL,hl]
   rw[Nc,U8 dN,Vd hl]
 by_cases HE:c=47
 · subst HE
   refine stop ?_ ?_
   · rw[TH];simp[iL]
   rw[Nc,U8 dN,U8 hl]
   have:Nj (m.dropWhile isSp)=none:=by
     cases h:Nj (m.dropWhile isSp) with
     |none=>rfl
     |some x=>
     exfalso
     unfold Nj at h
     obtain⟨⟨nm,x1⟩,h1,h⟩:=U5.1 h
     obtain⟨⟨y,z⟩,h2,h⟩:=U5.1 h
     obtain⟨v,h3,h⟩:=U5.1 h
     split at h
     · rename_i QM
       have e1:=NO h1
       rw[TH] at e1
       obtain⟨n1,n2,_⟩:=(mF _).1 QM
       cases nm with
       |nil=>exact n2 rfl
       |cons n0 nm=>
       simp only[Vb,Vj] at e1
       have:=n1 n0 (by simp)
       rw[←e1.1] at this;revert this;decide
     simp at h
   split
   · rename_i h;rw[this] at h;cases h
   rfl
 have bI:(m.dropWhile isSp).length<m.length:=by have:=jf isSp m;omega
 have wv:iL (m++T) (m.dropWhile isSp++T)=true:=by
   rw[TH] at bI ⊢
   simp only[iL,Vb,Vc,Vn,Wc,VX]
   exact⟨by simp at bI ⊢;omega,T7,HE⟩
 have h1:=RE hT K3
 cases hr:Nj (m.dropWhile isSp) with
 |none=>
   rw[hr] at h1
   refine⟨fun as h=> ?_,fun as r h=> ?_⟩
   · rw[Nc,U8 dN,U8 hl] at h
     split at h
     · rename_i h';rw[hr] at h';cases h'
     cases h
   rw[ea,hd,Vd wv] at h
   split at h
   · rename_i h';rw[h1] at h';cases h'
   cases h
 |some x=>
 obtain⟨a,nx⟩:=x
 rw[hr] at h1
 have Lu:=RF hr K3
 have BR:=OT hr
 obtain⟨i1,i2⟩:=ih nx (by omega) Lu
 have Uz:nx <:+ m:=by
   refine XJ ?_ S9
   unfold Nj at hr
   obtain⟨⟨n',x'⟩,g1,hr⟩:=U5.1 hr
   obtain⟨⟨y,z⟩,g2,hr⟩:=U5.1 hr
   obtain⟨v,g3,hr⟩:=U5.1 hr
   split at hr
   · simp only[di,U6] at hr
     obtain⟨_,rfl⟩:=hr
     have e1:=NO g1
     have e2:=NO g2
     simp only at e2
     exact⟨n'++[61,34]++(y++[34]),by rw[e1,e2];simp⟩
   simp at hr
 refine⟨fun as h=> ?_,fun as r h=> ?_⟩
 · rw[Nc,U8 dN,U8 hl] at h
   split at h
   · rename_i a' r' h'
     rw[hr] at h'
     simp only[di,U6] at h'
     obtain⟨rfl,rfl⟩:=h'
     obtain⟨l,e1,rfl⟩:=oA.1 h
     rw[ea,hd,Vd wv]
     split
     · rename_i a2 r2 h2
       rw[h1] at h2
       simp only[Vf,di,U6] at h2
       obtain⟨rfl,rfl⟩:=h2
       rw[i1 l e1];rfl
     rename_i h2;rw[h1] at h2;cases h2
   cases h
 rw[ea,hd,Vd wv] at h
 split at h
 · rename_i a2 r2 h2
   rw[h1] at h2
   simp only[Vf,di,U6] at h2
   obtain⟨rfl,rfl⟩:=h2
   obtain⟨⟨l,r3⟩,e1,e2⟩:=oA.1 h
   simp only[U6] at e2
   obtain⟨rfl,rfl⟩:=e2
   obtain⟨r',k1,k2,k3⟩:=i2 l r3 e1
   refine⟨r',k1,k2.trans Uz,fun h0=> ?_⟩
   rw[Nc,U8 dN,U8 hl]
   split
   · rename_i a4 r4 h4
     rw[hr] at h4
     simp only[di,U6] at h4
     obtain⟨rfl,rfl⟩:=h4
     rw[k3 h0];rfl
   rename_i h4;rw[hr] at h4;cases h4
 cases h
def Oa (m:Bs):Option (Bs×List Attr×Bool):=
 let e:=m.getLast?==some 47
 let x:=if e then m.dropLast else m
 (Nc (x.dropWhile bz)).bind fun as=>if named (x.takeWhile bz)=true then some (x.takeWhile bz,cu as,e) else none
def Pl (s:Bs):Option (Bs×List Attr×Bool×Bs):=
 (kO s).bind fun x=>if [47,62].isPrefixOf x.2.2 then some (x.1,cu x.2.1,true,x.2.2.drop 2) else(iA [62] x.2.2).map fun q=>(x.1,cu x.2.1,false,q)
def SA {p:UInt8→Bool} {x T:Bs} (hT:∀c q,T=c::q→p c=false):(x++T).takeWhile p=x.takeWhile p∧(x++T).dropWhile p=x.dropWhile p++T:=by
 induction x with
 |nil=>
  cases T with
  |nil=>simp
  |cons c q=>simp[hT c q rfl]
 |cons c x ih=>
 by_cases h:p c=true
 ·simp[h,ih.1,ih.2]
 simp[h]
def R9 {x T:Bs} (hT:Tl T):kO (60::(x++T))=if named (x.takeWhile bz)=true then(ea (x.dropWhile bz++T)).map fun y=>(x.takeWhile bz,y.1,y.2) else none:=by
 unfold kO;have e:iA [60] (60::(x++T))=some (x++T):=gR [60] (x++T);rw[e];simp only[U7];obtain⟨e1,e2⟩:=SA (x:=x) (p:=bz) hT.low;by_cases hn:named (x.takeWhile bz)=true
 ·rw[Vd hn];have:l6 (x++T)=some (x.takeWhile bz,x.dropWhile bz++T):=by
   obtain⟨_,n2,n3⟩:=(mF _).1 hn;unfold l6;simp only[e1,e2];rw[U8];rintro(h|h)
   ·exact n2 h
   omega
  rw[this];rfl
 rw[U8 hn];have:l6 (x++T)=none:=by
  unfold l6;simp only[e1,e2];rw[Vd];apply V6;intro h;simp only[Xd] at h;exact hn ((mF _).2 ⟨fun c hc=>Vx.1 Xm c hc,h.1,by omega⟩)
 rw[this];rfl
def R_ (m q:Bs) (hm:(62:UInt8)∉m):Pl (60::(m++62::q))=(Oa m).map fun x=>(x.1,x.2.1,x.2.2,q):=by
 have step:∀(x T:Bs) (e:Bool),Tl T→(62:UInt8)∉x→(T=if e then 47::62::q else 62::q)→(e=false→x.getLast?≠some 47) →
     Pl (60::(x++T))=((Nc (x.dropWhile bz)).bind fun as=>if named (x.takeWhile bz)=true then some (x.takeWhile bz,cu as,e) else none).map fun x=>(x.1,x.2.1,x.2.2,q):=by
   intro x T e hT hx S2 TI
   unfold Pl
   rw[R9 hT]
   by_cases hn:named (x.takeWhile bz)=true
   · simp only[Vd hn]
     have T8:(62:UInt8)∉x.dropWhile bz:=fun h=>hx ((Wa _).subset h)
     obtain⟨i1,i2⟩:=RG hT _ (x.dropWhile bz) (Va _) T8
     cases hr:Nc (x.dropWhile bz) with
     |some as=>
       rw[i1 as hr]
       cases e with
       |true=>simp only[Vp] at S2;subst S2;simp[List.isPrefixOf]
       |false=>simp only[Vl,Vk] at S2;subst S2;simp[List.isPrefixOf,iA]
     |none=>
     simp only[W5,XF]
     cases ha:ea (x.dropWhile bz++T) with
     |none=>rfl
     |some y=>
     obtain⟨as,r⟩:=y
     obtain⟨r',k1,k2,k3⟩:=i2 as r ha
     have fO:r'≠[]:=fun h=>by rw[hr] at k3;exact absurd (k3 h) (by simp)
     obtain⟨c,w,rfl⟩:∃c w,r'=c::w:=by
       cases r' with
       |nil=>exact absurd rfl fO
       |cons c w=>exact⟨c,w,rfl⟩
     have hc:c≠62:=by rintro rfl;exact T8 (k2.subset (by simp))
     have hw:(62:UInt8)∉w:=fun h=>T8 (k2.subset (by simp[h]))
     simp only[Vf,U7,k1]
     have h1:¬[47,62].isPrefixOf (c::w++T)=true:=by
       intro h
       cases w with
       |cons d w=>simp[List.isPrefixOf] at h;exact hw (by simp[h.2])
       |nil=>
       cases e with
       |true=>simp only[Vp] at S2;subst S2;simp[List.isPrefixOf] at h
       |false=>
       simp only[Vl,Vk] at S2
       subst S2
       simp[List.isPrefixOf] at h
       have hs:[c] <:+ x:=k2.trans (Wa _)
       obtain⟨z,hz⟩:=hs
       apply TI rfl
       rw[←hz,←h];simp
     rw[U8 h1]
     have h2:iA [62] (c::w++T)=none:=by
       unfold iA
       rw[U8 (by simp[List.isPrefixOf,V7 hc])]
     rw[h2];rfl
   simp only[U8 hn]
   cases Nc (x.dropWhile bz)<;>rfl
 unfold Oa
 by_cases he:m.getLast?=some 47
 · have tY:m=m.dropLast++[47]:=by
     have fO:m≠[]:=by rintro rfl;simp at he
     have h:=XN fO
     rw[XH fO] at he
     simp only[di] at he
     rw[he] at h;exact h.symm
   have:=step m.dropLast (47::62::q) true (.inr ⟨q,rfl⟩) (fun h=>hm (by rw[tY];simp[h])) rfl (by simp)
   simp only[he,Yx,Vp]
   rw[←this]
   congr 2
   conv=>lhs;rw[tY]
   simp
 have hb:(m.getLast?==some 47)=false:=by simpa using he
 simp only[hb,Vl,Vk]
 exact step m (62::q) false (.inl ⟨q,rfl⟩) hm rfl (fun _=>he)
def QY:∀(n:Nat) (s:Bs) (l:List Attr) (r:Bs),s.length≤n→ea s=some (l,r)→r <:+ s:=by
 intro n;induction n with
 |zero=>
  intro s l r hn h;have:s=[]:=Vv.1 (by omega);subst this;rw[ea] at h;simp[iL] at h;obtain⟨rfl,rfl⟩:=h;exact Xc _
 |succ n ih=>
 intro s l r hn h;rw[ea] at h;have h0:=jf isSp s;split at h
 ·split at h
  ·rename_i a q ha;have h1:=rD ha;obtain⟨⟨l',r'⟩,h2,h3⟩:=oA.1 h;simp only[U6] at h3;obtain⟨rfl,rfl⟩:=h3;have k1:=ih q l' r' (by omega) h2;refine k1.trans (XJ ?_ (Wa isSp (l:=s)));unfold l7 at ha;obtain⟨⟨n1,r1⟩,g1,ha⟩:=U5.1 ha;obtain⟨r2,g2,ha⟩:=U5.1 ha;obtain⟨⟨v,r3⟩,g3,ha⟩:=U5.1 ha;obtain⟨r4,g4,ha⟩:=oA.1 ha;simp only[U6] at ha;obtain⟨rfl,rfl⟩:=ha;have tk:∀{p s r:Bs},iA p s=some r→r <:+ s:=by
    intro p s r h;unfold iA at h;split at h
    ·simp only[di] at h;rw[←h];exact Wt _ _
    simp at h
   have tx:∀(n:Nat) (s t r:Bs),s.length≤n→bm true s=some (t,r)→r <:+ s:=by
    intro n;induction n with
    |zero=>
     intro s t r hn h;have:s=[]:=Vv.1 (by omega);subst this;rw[vW] at h;simp at h;obtain⟨_,rfl⟩:=h;exact Xc _
    |succ n Up=>
    intro s t r hn h;cases s with
    |nil=>rw[vW] at h;simp at h;obtain⟨_,rfl⟩:=h;exact Xc _
    |cons c q=>
    rw[bm] at h;split at h
    ·simp only[di,U6] at h;obtain⟨_,rfl⟩:=h;exact Xc _
    split at h
    ·split at h
     ·rename_i e q' he;have bI:=nw he;obtain⟨⟨t',r'⟩,w1,w2⟩:=oA.1 h;simp only[U6] at w2;obtain⟨_,rfl⟩:=w2;exact(Up q' t' r' (by simp at bI hn;omega) w1).trans (Qs he)
     simp at h
    split at h
    ·simp at h
    obtain⟨⟨t',r'⟩,w1,w2⟩:=oA.1 h;simp only[U6] at w2;obtain⟨_,rfl⟩:=w2;exact(Up q t' r' (by simp at hn;omega) w1).trans (List.suffix_cons _ _)
   obtain⟨e1,_⟩:=mE g1;refine(tk g4).trans ((tx _ _ _ _ (Va _) g3).trans ((tk g2).trans ?_));rw[e1];exact Ym _ _
  simp at h
 simp only[di,U6] at h;obtain⟨rfl,rfl⟩:=h;exact Wa _
def QZ {s:Bs} (hs:(62:UInt8)∉s):Pl s=none:=by
 unfold Pl
 cases h:kO s with
 |none=>rfl
 |some x=>
 obtain⟨nm,as,r⟩:=x
 unfold kO at h
 obtain⟨r1,h1,h⟩:=U5.1 h
 obtain⟨⟨n,r2⟩,h2,h⟩:=U5.1 h
 obtain⟨⟨l,r3⟩,h3,h⟩:=oA.1 h
 simp only[U6] at h
 obtain⟨rfl,rfl,rfl⟩:=h
 have hr:r3 <:+ s:=by
   refine(QY _ _ _ _ (Va _) h3).trans ?_
   obtain⟨e1,_⟩:=mE h2
   have e2:r1 <:+ s:=by
     unfold iA at h1
     split at h1
     · simp only[di] at h1;rw[←h1];exact Wt _ _
     simp at h1
   refine XJ ?_ e2
   rw[e1];exact Ym _ _
 have Uq:(62:UInt8)∉r3:=fun h=>hs (hr.subset h)
 simp only[U7]
 rw[U8]
 · have:iA [62] r3=none:=by
     unfold iA
     rw[U8]
     intro h
     obtain⟨z,rfl⟩:=Vt.1 h
     exact Uq (by simp)
   rw[this];rfl
 intro h
 obtain⟨z,rfl⟩:=Vt.1 h
 exact Uq (by simp)
def OX (d:Nat) (s:Bs):bG (d+1) s=(Pl s).bind fun x=>if x.2.2.1 then some (.mk false x.1 x.2.1 [],x.2.2.2) else(dM (bG d) x.2.2.2).bind fun y=>(ka x.1 y.2).map fun q=>(.mk false x.1 x.2.1 y.1,q):=by
 rw[bG,Pl,Option.bind_assoc];congr 1;funext x;split
 ·simp
 cases iA [62] x.2.2<;>simp
end Go.Am
