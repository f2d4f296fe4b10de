import Derived.Test.YtfinkeaikbmpgaaGreatDoorKAm48
import Derived.Test.YtfinkeaikbmpgaaGreatDoorKT100
import Derived.Shelf.Strconv.AtoiAll
import Derived.Shelf.Strconv.Itoa3
import Derived.Test.YtfinkeaikbmpgaaGreatDoorKT7
set_option linter.unusedSimpArgs false
set_option linter.unusedVariables false
set_option linter.unnecessarySimpa false
set_option linter.defProp false
/- THE ABSTRACT MACHINE, part 53: a contract of the kit's, as a contract of the machine's. -/
namespace Go.Am
open Go Go.RowKit
def uG (G:Nat→Option (List IV)) (I:Nat→Prop) (w:World):Prop:=∀g cs,G g=some cs→da w I cs g
theorem gC {P : Program} {G : Nat → Option (List IV)} {f : Nat} {args : List AV} {res : AV} (ha : ah args = []) (hr : res.ar = [])
   (h:∀(w:World) (I:Nat→Prop) (vs:List Value),uG G I w→bo w il Hp.none I args vs →
     Calls P f vs.toArray w fun e w'=>∃v,e= .returned v∧Below w.heap.size w w'∧∀I':Nat→Prop,RV w' il Hp.none I' res v):ai P G f args res:=by
 refine⟨ha,hr,fun w A β vs j6 hv=> ?_⟩
 have hg:uG G (Im (cV P G w A β Hp.none) β Hp.none) w:=fun g cs hg=>(j6.fI g cs hg).2.2
 have hk:eA w w β il Hp.none Hp.none (Im (cV P G w A β Hp.none) β Hp.none) (Im (cV P G w A β Hp.none) β Hp.none) (ah args):=
   {im:=fun k hk hs=>⟨hk,hs,rfl⟩,lb:=fun l _ ⟨r,h⟩=>by simp[Hp.none] at h}
 refine(h w _ vs hg (bo.mono _ _ hk hv)).mono ?_
 rintro e w' ⟨v,rfl,hb,hx⟩
 have hi:gE w w' (Im (cV P G w A β Hp.none) β Hp.none) (Im (cV P G w A β Hp.none) β Hp.none):=
   ⟨fun k hk hs=>⟨hk,Nat.lt_of_lt_of_le hs hb.size,hb.block k hs⟩⟩
 refine⟨v,res,Hp.none,β,rfl,rfl,?_,?_,by simp[hr]⟩
 · exact { defers := rfl,size := rfl
           gg:=fun n=>by simp[Env.any,RV]
           rows:=fun l r h=>by simp[Hp.none] at h
           own:=fun l g ⟨r,h⟩=>by simp[Hp.none] at h
           inj:=fun l l' g ⟨r,h⟩=>by simp[Hp.none] at h
           eB:=fun n=>by simp[Env.any,AV.ar]
           cB:=fun l r h=>by simp[Hp.none] at h
           frame:=j6.frame.xj hb
           fX:=fun l ⟨r,h⟩=>by simp[cV,Hp.none] at h
           fr:=fun l g ⟨r,h⟩=>by simp[Hp.none] at h
           fI:=fun g cs hg=>by
             obtain⟨k1,k2,k3⟩:=j6.fI g cs hg
             exact⟨k1,Nat.lt_of_lt_of_le k2 hb.size,da.mono hi k1 k2 k3⟩}
 · refine RV.mono _ _ ?_ (hx (Im (cV P G w A β Hp.none) β Hp.none))
   exact {im:=fun k hk hs=>⟨hk,hs,rfl⟩,lb:=fun l hl=>by simp[hr] at hl}
end Go.Am

/- The kit's contracts for numbers and texts, as contracts of the machine. -/
namespace Go.Am
open Go Go.RowKit Go.Shelf Go.Proofs
theorem ES {w:World} {I:Nat→Prop} {s:Bs} {v:Value} (h:RV w il Hp.none I (.str s) v):v= .string ⟨s.toArray⟩:=by simpa[RV] using h
theorem qY {w:World} {I:Nat→Prop} {s:Bs} {vs:List Value} (h:bo w il Hp.none I [.str s] vs):vs=[.string ⟨s.toArray⟩]:=by
 simp only[bo] at h;obtain⟨v,us,rfl,h1,rfl⟩:=h;rw[ES h1]
theorem uH (w:World) (k:Nat) (os:Array Obj):Below w.heap.size w (Sort.grow (w.drewN k) os):=by
 refine⟨rfl,rfl,rfl,by simp[Sort.grow,World.drewN],fun i hi=> ?_⟩;simp only[Sort.grow,World.drewN];rw[Array.getElem?_append_left hi]
theorem sX {w:World} {I:Nat→Prop} {g:Nat}:∀(cs:List IV) (o i:Nat) (x:IV),bH w I cs g o→cs[i]?=some x→∃v,w.cell? ⟨g,o+i,none⟩=some v∧eT w I x v
 |y::r,o,0,x,h,hx=>by
  simp only[bH] at h;simp only[List.getElem?_cons_zero,Option.some.injEq] at hx;subst hx;exact h.1
 |y::r,o,i+1,x,h,hx=>by
  simp only[bH] at h;obtain⟨v,h1,h2⟩:=sX r (o+1) i x h.2 (by simpa using hx);exact⟨v,by rw[show o+(i+1)=o+1+i by omega];exact h1,h2⟩
theorem ET {P:Program} {w:World} {I:Nat→Prop} {g:Nat} {name:String} {k:IntKind} {zs:List Int} (hg:P.globalNamed name=some g) (h:da w I (zs.map fun z=>IV.int k z) g):Lib.TabIs P w name k zs:=by
 obtain⟨h1,h2⟩:=h;unfold Lib.TabIs World.var?;rw[hg];simp only[Option.bind_some];unfold iX at h2;split at h2
 ·rename_i c a b hc;simp only[hc,Option.some.injEq] at h2 ⊢;simp only[List.length_map] at h2;apply Array.ext
  ·simpa using h2
  ·intro i LA LB;obtain⟨v,k1,k2⟩:=sX _ 0 i (IV.int k (zs[i]'(by omega))) h1 (by rw[List.getElem?_map,List.getElem?_eq_getElem (by omega)];rfl)
   simp only[eT] at k2;subst k2;have:w.cell? ⟨g,0+i,none⟩=c[i]?:=by simp[World.cell?,hc]
   rw[this,Array.getElem?_eq_getElem LA] at k1;simpa using k1
 ·cases h2
section
variable {P:Program} {G:Nat→Option (List IV)} {ρ:Ren}
theorem G3 (L:LaysC.n172 P ρ) {t1 t2:Nat} (h1:G (ρ.g 15)=some [.ifc t1]) (h2:G (ρ.g 16)=some [.ifc t2]):CE P G (ρ.f 172):=by
 intro n hn;have rn:B=1073741824:=rfl;have iO:(⟨n.toArray⟩:ByteArray).size=n.length:=by simp[ByteArray.size]
 have vo:(⟨n.toArray⟩:ByteArray).data.toList=n:=by simp
 have cell:∀(w:World) (I:Nat→Prop) (g t:Nat),uG G I w→G g=some [.ifc t]→∃u,w.cell? ⟨g,0,none⟩=some (.iface t u):=by
  intro w I g t hg he;obtain⟨⟨⟨v,e1,e2⟩,_⟩,_⟩:=hg g _ he;simp only[eT] at e2;obtain⟨u,rfl⟩:=e2;exact⟨u,e1⟩
 cases hc:Lib.atoiAll n with
 |ok k=>
  refine⟨k,.fy,gC (by simp[ah,AV.ar]) (by simp[AV.ar,ah]) fun w I vs hg hv=> ?_,.inl ⟨rfl,rfl⟩⟩;rw[qY hv];refine(Any.strconv_Atoi_ok L _ (by rw[iO];omega) k (by rw[vo];exact hc) w).mono ?_;rintro e w' ⟨rfl,hw⟩;refine⟨_,rfl,?_,fun I'=>by simp[RV,bo]⟩;rcases hw with rfl|⟨t,rfl⟩
  ·exact Below.refl _ _
  ·exact Lib.bytesWorld_below _ _ _
 |range=>
  refine⟨Lib.atoiSat n,.ifc (ρ.t 168) .any,gC (by simp[ah,AV.ar]) (by simp[AV.ar,ah]) fun w I vs hg hv=> ?_,.inr ⟨⟨_,rfl⟩,fun v=>by simp⟩⟩;rw[qY hv];obtain⟨u,hu⟩:=cell w I _ _ hg h2;refine(Any.strconv_Atoi_range L _ (by rw[iO];omega) (by rw[vo];exact hc) _ w hu (.inr ⟨_,_,rfl⟩)).mono ?_;rintro e w' ⟨N,rfl,_,_,hb⟩
  exact⟨_,rfl,hb,fun I'=>by simp only[RV,bo,vo];exact⟨[_,_],rfl,_,_,rfl,rfl,_,_,rfl,⟨_,rfl,trivial⟩,rfl⟩⟩
 |_=>
  refine⟨0,.ifc (ρ.t 168) .any,gC (by simp[ah,AV.ar]) (by simp[AV.ar,ah]) fun w I vs hg hv=> ?_,.inr ⟨⟨_,rfl⟩,fun v=>by simp⟩⟩;rw[qY hv];obtain⟨u,hu⟩:=cell w I _ _ hg h1;refine(Any.strconv_Atoi_syntax L _ (by rw[iO];omega) (by rw[vo];exact hc) _ w hu (.inr ⟨_,_,rfl⟩)).mono ?_;rintro e w' ⟨N,rfl,_,_,hb⟩
  exact⟨_,rfl,hb,fun I'=>by simp only[RV,bo];exact⟨[_,_],rfl,_,_,rfl,rfl,_,_,rfl,⟨_,rfl,trivial⟩,rfl⟩⟩
theorem G4 (L:LaysM.n171 P ρ) {g:Nat} (hg:P.globalNamed "internal/strconv.uint64pow10"=some g) (h1:G g=some (Lib.pow10Tab.map fun z=>IV.int .u64 z)):zF P G (ρ.f 171):=by
 intro k h0 hk;refine gC (by simp[ah,AV.ar]) (by simp[AV.ar]) fun w I vs hG hv=> ?_
 simp only[bo,RV] at hv;obtain⟨v,us,rfl,rfl,rfl⟩:=hv;refine(Any.strconv_Itoa L k h0 hk w (ET hg (hG g _ h1))).mono ?_;rintro e w' ⟨rfl,n,os,rfl⟩;exact⟨_,rfl,uH _ _ _,fun I'=>by simp[RV]⟩
end
end Go.Am

/- THE ABSTRACT MACHINE, part 40: functions that are handed a row of data by a slice. -/
namespace Go.Am
open Go Go.RowKit
def lz (sz:Nat) (xs:List IV):Hp:=bL Hp.none (.par 0) (.live ⟨sz,aG xs⟩)
def nI (P:Program) (G:Nat→Option (List IV)) (f:Nat) (args:List AV) (sz:Nat) (xs:List IV) (R:AV→List IV→Prop):Prop:=
 (∀l∈ah args,l= .par 0)∧gd P G f args (lz sz xs) fun x H'=>∃jZ,R x jZ∧x.ar=[]∧jZ.length=xs.length∧H' (.par 0)= .live ⟨sz,aG jZ⟩
theorem mO {S:St} {f:Nat} {args cQ:List AV} {sz:Nat} {xs:List IV} {R:AV→List IV→Prop} {H:Hp} {k:AV→Hp→Prop} {u:Tw k} {l:Lb} (h:nI S.P S.G f cQ sz xs R)
  (ha:args=bT (tL l) cQ) (hl:H l= .live ⟨sz,aG xs⟩) (hk:∀x jZ,R x jZ→x.ar=[]→jZ.length=xs.length→k x (bL H l (.live ⟨sz,aG jZ⟩))):Hn S f args H k u:=by
 obtain⟨h1,h3⟩:=h
 have a8:∀q r,lz sz xs q= .live r→q= .par 0∧r=⟨sz,aG xs⟩:=by
  intro q r h;by_cases e:q= .par 0
  ·subst e;simp[lz] at h;exact⟨rfl,h.symm⟩
  ·rw[lz,aA _ _ e] at h;simp[Hp.none] at h
 refine .inr<| .inr ⟨⟨tL l,lz sz xs,cQ,_,h3.dc (fun q=>q= .par 0),ha,?_,?_,?_,?_,?_,?_,?_⟩⟩
 ·intro q r h;obtain⟨rfl,rfl⟩:=a8 q r h;rw[cr];simp only[tL,if_true,hl]
 ·intro q hq;by_cases e:q= .par 0
  ·subst e;exact⟨_,by simp[lz];rfl⟩
  ·rw[lz,aA _ _ e] at hq;simp[Hp.none] at hq
 ·rintro q q' ⟨r,h⟩ ⟨r',h'⟩ _;rw[(a8 q r h).1,(a8 q' r' h').1]
 ·intro q hq;rw[h1 q hq];simp[lz]
 ·rintro q ⟨r,h⟩;rw[(a8 q r h).1];rfl
 ·intro q r h c hc z hz;obtain⟨rfl,rfl⟩:=a8 q r h;rw[bY hc] at hz;simp at hz
 ·rintro x H' ⟨H1,⟨jZ,e1,e2,e4,e5⟩,rfl⟩
  have hH:∀q r,fK (fun q=>q= .par 0) H1 q= .live r→q= .par 0∧r=⟨sz,aG jZ⟩:=by
   intro q r h;obtain⟨g1,rfl⟩:=eH.1 h;rw[e5] at g1;cases g1;exact⟨rfl,rfl⟩
  have IC:fK (fun q=>q= .par 0) H1 (.par 0)= .live ⟨sz,aG jZ⟩:=eH.2 ⟨e5,rfl⟩;refine⟨tL l,bL H l (.live ⟨sz,aG jZ⟩),fun _ _ _=>rfl,?_,?_,?_,?_,?_,?_,?_,?_⟩
  ·intro q r h;by_cases e:q=l
   ·subst e;simp at h;refine .inr ⟨.par 0,_,IC,by simp[tL],?_⟩;rw[←h,cr]
   ·rw[aA _ _ e] at h;refine .inl ⟨h,?_⟩;rintro z ⟨r',hz⟩;rw[(a8 z r' hz).1];simp only[tL,if_true];exact Ne.symm e
  ·rintro q q' ⟨r,h⟩ ⟨r',h'⟩ _;rw[(hH q r h).1,(hH q' r' h').1]
  ·intro q hq;by_cases e:q=l
   ·subst e;simp
   ·rw[aA _ _ e];exact hq
  ·intro q hq;rw[e2] at hq;simp at hq
  ·intro q r h c hc z hz;obtain⟨rfl,rfl⟩:=hH q r h;rw[bY hc] at hz;simp at hz
  ·rintro q ⟨r,h⟩;obtain⟨rfl,rfl⟩:=hH q r h;exact .inl ⟨_,by simp[lz];rfl⟩
  ·rintro q (hq|⟨l1,r1,c,g1,g2,g3⟩) _
   ·rw[e2] at hq;simp at hq
   ·obtain⟨rfl,rfl⟩:=hH l1 r1 g1;rw[bY g2] at g3;simp at g3
  ·rw[kb _ _ e2];exact hk x jZ e1 e2 e4
theorem mQ {P:Program} {G:Nat→Option (List IV)} {f:Nat} {n:Nat} {rs:List RO} {ac:AC} {args:List AV} {sz:Nat} {xs:List IV} {R:AV→List IV→Prop}
  (hF:aB P G f=some (n,rs,ac.bare)) (hn:args.length≤n) (ha:∀l∈ah args,l= .par 0)
  (hg:go ⟨P,G,n⟩ (ij rs fun x H'=>∃jZ,R x jZ∧x.ar=[]∧jZ.length=xs.length∧H' (.par 0)= .live ⟨sz,aG jZ⟩) [.code ac] (bE args) (lz sz xs)):nI P G f args sz xs R:=by
 refine⟨ha,jC hF hn ?_ ?_ hg⟩
 ·rintro l ⟨r,h⟩;by_cases e:l= .par 0
  ·subst e;rfl
  ·rw[lz,aA _ _ e] at h;simp[Hp.none] at h
 ·intro l hl;rw[ha l hl];simp[lz]
theorem nI.mono {P:Program} {G:Nat→Option (List IV)} {f:Nat} {args:List AV} {sz:Nat} {xs:List IV} {R R':AV→List IV→Prop} (h:nI P G f args sz xs R) (hq:∀x c,R x c→R' x c):nI P G f args sz xs R':=
 ⟨h.1,h.2.mono fun x H ⟨c,h1,h2⟩=>⟨c,hq _ _ h1,h2⟩⟩
end Go.Am

/- Paths, handed over by a row of one's own. -/
namespace Go.Am
open Go Go.RowKit
section
variable {P:Program} {G:Nat→Option (List IV)}
theorem uJ {a7 ee : Nat} (hF : aB P G a7 = some (44,[(none,2)],(gL ee).bare)) (l : List Step) (hl : l.length ≤ B) (hN : ∀ x ∈ l,ai P G ee [.str x.name] (.bool (named x.name))) :
   nI P G a7 [.sl (.par 0) 2 0 l.length] 2 (l.map Step.iv) (fun x ys=>x= .bool (aT l)∧ys=l.map Step.iv):=by
 refine mQ hF (by simp) (by simp[ah,AV.ar]) ?_
 have rn:B=1073741824:=rfl
 unfold gL
 simp only[↓aX,mX,reduceCtorEq,Nat.reduceEqDiff,Nat.reduceLT,Nat.reduceLeDiff,Nat.reduceAdd,Nat.reduceMul,Int.reduceToNat,Int.reduceLE,Int.reduceLT,lz]
 refine eo (σ:={i:Nat // i≤l.length∧∀x∈l.take i,cO x=true}) [.par 0] (fun q=>[(0,.sl (.par 0) 2 0 l.length),(5,.sl (.par 0) 2 0 l.length),(6,.int .i64 l.length),(7,.int .i64 q.1)])
   (fun _=>[(.par 0,⟨2,aG (l.map Step.iv)⟩)]) (fun q=>l.length - q.1) ⟨0,by simp⟩ (fun _=>rfl) (by decide) (by simp[ah,AV.ar]) (by
     intro q r hr cs bx z hz
     simp only[List.mem_singleton] at hr;subst hr
     rw[bY bx] at hz;simp at hz) ?_ ?_
 · refine dT ?_ (by repeat' constructor) ⟨rfl,trivial⟩
   intro z hz hu
   by_cases e:z= .par 0
   · subst e;simp
   · exfalso;apply hu;cases z<;>simp_all[Lb.fresh,ae,Hp.none]
 · rintro ⟨i,hi,hs⟩
   simp only[↓aX,mX,reduceCtorEq,Nat.reduceEqDiff,Nat.reduceLT,Nat.reduceLeDiff,Nat.reduceAdd,Nat.reduceMul,Int.reduceToNat,Int.reduceLE,Int.reduceLT,cb,bO]
   by_cases bz:i<l.length
   · rw[show decide ((i:Int)<(l.length:Int))=true by simpa using bz]
     obtain⟨x,hx⟩:∃x,l[i]?=some x:=⟨_,List.getElem?_eq_getElem bz⟩
     have xf:=List.mem_of_getElem? hx
     have hw:IntKind.i64.wrap ((i:Int)+1)=((i+1:Nat):Int):=wrap64 (by omega) (by omega)
     have stop:cO x=false→aT l=false:=fun h=>by
       unfold aT
       rw[show l.all cO=false from List.all_eq_false.2 ⟨x,xf,by simp[h]⟩];rfl
     have next:cO x=true→∀y∈l.take (i+1),cO y=true:=fun h y hy=>by
       rw[List.take_add_one,hx] at hy
       simp only[Option.toList_some,List.mem_append,List.mem_singleton] at hy
       rcases hy with hy|rfl
       · exact hs y hy
       · exact h
     simp only[↓aX,mX,reduceCtorEq,Nat.reduceEqDiff,Nat.reduceLT,Nat.reduceLeDiff,Nat.reduceAdd,Nat.reduceMul,Int.reduceToNat,Int.reduceLE,Int.reduceLT,Int.natCast_nonneg,Int.toNat_natCast,true_and,List.length_map,bz,mN,sF,hx,Option.map_some,Option.bind_some,Step.aU,Step.cs,List.map_cons,List.map_nil,List.length_cons,List.length_nil,List.drop_zero,List.take_succ_cons,List.take_zero,Nat.zero_add,Nat.add_zero,Nat.le_refl]
     have tail:∀b:Bool,(x.name==[]||(x.name==[42]||named x.name))=b→cO x=(b&&(decide (0≤x.n)&&decide (x.n≤99))):=fun b h=>by unfold cO;rw[h]
     cases h1:(x.name==[]) with
     |true=>
       have ht:=tail true (by rw[h1];rfl)
       simp only[↓aX,mX,reduceCtorEq,Nat.reduceEqDiff,Nat.reduceLT,Nat.reduceLeDiff,Nat.reduceAdd,Nat.reduceMul,Int.reduceToNat,Int.reduceLE,Int.reduceLT,Bool.not_true]
       by_cases h4:x.n<0
       · have hz:=stop (by rw[ht,decide_eq_false (by omega)];rfl)
         simp only[↓aX,mX,reduceCtorEq,Nat.reduceEqDiff,Nat.reduceLT,Nat.reduceLeDiff,Nat.reduceAdd,Nat.reduceMul,Int.reduceToNat,Int.reduceLE,Int.reduceLT,h4,decide_true]
         exact⟨_,⟨by rw[hz],rfl⟩,rfl,by simp,rfl⟩
       · by_cases h5 : 99 < x.n
         · have hz:=stop (by rw[ht,decide_eq_false (show ¬x.n≤99 by omega),Bool.and_false];rfl)
           simp only[↓aX,mX,reduceCtorEq,Nat.reduceEqDiff,Nat.reduceLT,Nat.reduceLeDiff,Nat.reduceAdd,Nat.reduceMul,Int.reduceToNat,Int.reduceLE,Int.reduceLT,h4,decide_false,gt_iff_lt,h5,decide_true]
           exact⟨_,⟨by rw[hz],rfl⟩,rfl,by simp,rfl⟩
         · simp only[↓aX,mX,reduceCtorEq,Nat.reduceEqDiff,Nat.reduceLT,Nat.reduceLeDiff,Nat.reduceAdd,Nat.reduceMul,Int.reduceToNat,Int.reduceLE,Int.reduceLT,h4,decide_false,gt_iff_lt,h5,hw]
           refine⟨⟨i+1,bz,next (by rw[ht,decide_eq_true (show 0≤x.n by omega),decide_eq_true (show x.n≤99 by omega)];rfl)⟩,by simp only;omega,dT ?_ (by repeat' constructor) ⟨rfl,trivial⟩⟩
           intro z hz hu
           by_cases e:z= .par 0
           · subst e;simp
           · exfalso;apply hu;cases z<;>simp_all[Lb.fresh,ae,Hp.none]
     |false=>
       simp only[↓aX,mX,reduceCtorEq,Nat.reduceEqDiff,Nat.reduceLT,Nat.reduceLeDiff,Nat.reduceAdd,Nat.reduceMul,Int.reduceToNat,Int.reduceLE,Int.reduceLT,Bool.not_false]
       cases h2:(x.name==[42]) with
       |true=>
         have ht:=tail true (by rw[h1,h2];rfl)
         simp only[↓aX,mX,reduceCtorEq,Nat.reduceEqDiff,Nat.reduceLT,Nat.reduceLeDiff,Nat.reduceAdd,Nat.reduceMul,Int.reduceToNat,Int.reduceLE,Int.reduceLT,Bool.not_true]
         by_cases h4:x.n<0
         · have hz:=stop (by rw[ht,decide_eq_false (by omega)];rfl)
           simp only[↓aX,mX,reduceCtorEq,Nat.reduceEqDiff,Nat.reduceLT,Nat.reduceLeDiff,Nat.reduceAdd,Nat.reduceMul,Int.reduceToNat,Int.reduceLE,Int.reduceLT,h4,decide_true]
           exact⟨_,⟨by rw[hz],rfl⟩,rfl,by simp,rfl⟩
         · by_cases h5 : 99 < x.n
           · have hz:=stop (by rw[ht,decide_eq_false (show ¬x.n≤99 by omega),Bool.and_false];rfl)
             simp only[↓aX,mX,reduceCtorEq,Nat.reduceEqDiff,Nat.reduceLT,Nat.reduceLeDiff,Nat.reduceAdd,Nat.reduceMul,Int.reduceToNat,Int.reduceLE,Int.reduceLT,h4,decide_false,gt_iff_lt,h5,decide_true]
             exact⟨_,⟨by rw[hz],rfl⟩,rfl,by simp,rfl⟩
           · simp only[↓aX,mX,reduceCtorEq,Nat.reduceEqDiff,Nat.reduceLT,Nat.reduceLeDiff,Nat.reduceAdd,Nat.reduceMul,Int.reduceToNat,Int.reduceLE,Int.reduceLT,h4,decide_false,gt_iff_lt,h5,hw]
             refine⟨⟨i+1,bz,next (by rw[ht,decide_eq_true (show 0≤x.n by omega),decide_eq_true (show x.n≤99 by omega)];rfl)⟩,by simp only;omega,dT ?_ (by repeat' constructor) ⟨rfl,trivial⟩⟩
             intro z hz hu
             by_cases e:z= .par 0
             · subst e;simp
             · exfalso;apply hu;cases z<;>simp_all[Lb.fresh,ae,Hp.none]
       |false=>
         simp only[↓aX,mX,reduceCtorEq,Nat.reduceEqDiff,Nat.reduceLT,Nat.reduceLeDiff,Nat.reduceAdd,Nat.reduceMul,Int.reduceToNat,Int.reduceLE,Int.reduceLT,Bool.not_false]
         refine aj (hN x xf) ?_
         cases h3:named x.name with
         |true=>
           have ht:=tail true (by rw[h1,h2,h3];rfl)
           simp only[↓aX,mX,reduceCtorEq,Nat.reduceEqDiff,Nat.reduceLT,Nat.reduceLeDiff,Nat.reduceAdd,Nat.reduceMul,Int.reduceToNat,Int.reduceLE,Int.reduceLT,Bool.not_true]
           by_cases h4:x.n<0
           · have hz:=stop (by rw[ht,decide_eq_false (by omega)];rfl)
             simp only[↓aX,mX,reduceCtorEq,Nat.reduceEqDiff,Nat.reduceLT,Nat.reduceLeDiff,Nat.reduceAdd,Nat.reduceMul,Int.reduceToNat,Int.reduceLE,Int.reduceLT,h4,decide_true]
             exact⟨_,⟨by rw[hz],rfl⟩,rfl,by simp,rfl⟩
           · by_cases h5 : 99 < x.n
             · have hz:=stop (by rw[ht,decide_eq_false (show ¬x.n≤99 by omega),Bool.and_false];rfl)
               simp only[↓aX,mX,reduceCtorEq,Nat.reduceEqDiff,Nat.reduceLT,Nat.reduceLeDiff,Nat.reduceAdd,Nat.reduceMul,Int.reduceToNat,Int.reduceLE,Int.reduceLT,h4,decide_false,gt_iff_lt,h5,decide_true]
               exact⟨_,⟨by rw[hz],rfl⟩,rfl,by simp,rfl⟩
             · simp only[↓aX,mX,reduceCtorEq,Nat.reduceEqDiff,Nat.reduceLT,Nat.reduceLeDiff,Nat.reduceAdd,Nat.reduceMul,Int.reduceToNat,Int.reduceLE,Int.reduceLT,h4,decide_false,gt_iff_lt,h5,hw]
               refine⟨⟨i+1,bz,next (by rw[ht,decide_eq_true (show 0≤x.n by omega),decide_eq_true (show x.n≤99 by omega)];rfl)⟩,by simp only;omega,dT ?_ (by repeat' constructor) ⟨rfl,trivial⟩⟩
               intro z hz hu
               by_cases e:z= .par 0
               · subst e;simp
               · exfalso;apply hu;cases z<;>simp_all[Lb.fresh,ae,Hp.none]
         |false=>
           have ht:=tail false (by rw[h1,h2,h3];rfl)
           have hz:=stop ht
           simp only[↓aX,mX,reduceCtorEq,Nat.reduceEqDiff,Nat.reduceLT,Nat.reduceLeDiff,Nat.reduceAdd,Nat.reduceMul,Int.reduceToNat,Int.reduceLE,Int.reduceLT,Bool.not_false]
           exact⟨_,⟨by rw[hz],rfl⟩,rfl,by simp,rfl⟩
   · have lC:l.take i=l:=List.take_of_length_le (by omega)
     have dN:l.all cO=true:=List.all_eq_true.2 fun x hx=>hs x (by rw[lC];exact hx)
     rw[show decide ((i:Int)<(l.length:Int))=false by simpa using bz]
     simp only[↓aX,mX,reduceCtorEq,Nat.reduceEqDiff,Nat.reduceLT,Nat.reduceLeDiff,Nat.reduceAdd,Nat.reduceMul,Int.reduceToNat,Int.reduceLE,Int.reduceLT]
     by_cases h1:1≤l.length
     · by_cases h2 : l.length ≤ 5
       · have hz:aT l=true:=by unfold aT;rw[dN];simp[h1,h2]
         simp only[↓aX,mX,reduceCtorEq,Nat.reduceEqDiff,Nat.reduceLT,Nat.reduceLeDiff,Nat.reduceAdd,Nat.reduceMul,Int.reduceToNat,Int.reduceLE,Int.reduceLT,show((l.length:Int)≥1) by omega,decide_true,show((l.length:Int)≤5) by omega]
         exact⟨_,⟨by rw[hz],rfl⟩,rfl,by simp,rfl⟩
       · have hz:aT l=false:=by unfold aT;simp[h2]
         simp only[↓aX,mX,reduceCtorEq,Nat.reduceEqDiff,Nat.reduceLT,Nat.reduceLeDiff,Nat.reduceAdd,Nat.reduceMul,Int.reduceToNat,Int.reduceLE,Int.reduceLT,show((l.length:Int)≥1) by omega,decide_true,show ¬((l.length:Int)≤5) by omega,decide_false]
         exact⟨_,⟨by rw[hz],rfl⟩,rfl,by simp,rfl⟩
     · have hz:aT l=false:=by unfold aT;simp[h1]
       simp only[↓aX,mX,reduceCtorEq,Nat.reduceEqDiff,Nat.reduceLT,Nat.reduceLeDiff,Nat.reduceAdd,Nat.reduceMul,Int.reduceToNat,Int.reduceLE,Int.reduceLT,show ¬((l.length:Int)≥1) by omega,decide_false]
       exact⟨_,⟨by rw[hz],rfl⟩,rfl,by simp,rfl⟩
def fV (cE a7 bF:Nat):AC:=
(.seq (.au [⟨some 2,none,.box (.t 0)⟩,⟨some 4,none,.af (.c .nil0)⟩,⟨some 5,none,.af (.c (.int .i64 0))⟩]) (.seq (.seq (.au [⟨some 12,none,.load (some 1) (.t 2)⟩,⟨some 13,none,.call cE [(.t 12)]⟩,⟨some 14,none,.not (.t 13)⟩,⟨some 15,none,.af (.t 14)⟩,⟨some 16,(some (15,false)),(.af (.t 1))⟩,⟨some 17,(some (15,false)),(.call a7 [(.t 16)])⟩,⟨some 18,(some (15,false)),(.not (.t 17))⟩,⟨some 19,none,.pick (.t 15) (.c (.bool true)) (.t 18)⟩]) (.cond (.t 19) (.seq (.au [⟨some 4,none,.af (.c .nil0)⟩,⟨some 5,none,.af (.c (.int .i64 1))⟩]) .ret) .skip)) (.seq (.fY [⟨some 20,none,.load (some 1) (.t 2)⟩,⟨some 21,none,.lits 1 1 [(.int .i64 0)] [(0,(.c (.int .i64 0)))]⟩,⟨some 22,none,.af (.t 1)⟩,⟨some 23,none,.fH (.t 22) (.c (.int .i64 0)) 2⟩,⟨some 24,none,.load (some 2) (.t 23)⟩,⟨some 25,none,.call bF [(.t 20),(.t 21),(.t 24)]⟩,⟨some 6,none,.af (.t 25)⟩] [[],[],[],[2],[3],[0,1,4],[5,5,0,1,2,3,4,5]] [.rw [.loc 2] [],.no,.no,.no,(.rw [.par 0] []),.no,.no]) (.seq (.seq (.au [⟨some 26,none,.af (.t 1)⟩,⟨some 27,none,.uM (.t 26) (some (.c (.int .i64 1))) none none 2⟩,⟨some 28,none,.len (.t 27)⟩,⟨some 29,none,.af (.c (.int .i64 0))⟩]) (.block 0 (.loop (.seq (.au [⟨some 30,none,.bin .lss (.t 29) (.t 28)⟩]) (.seq (.cond (.t 30) .skip (.exit 0)) (.seq (.block 1 (.seq (.au [⟨some 31,none,.fH (.t 27) (.t 29) 2⟩,⟨some 32,none,.load (some 2) (.t 31)⟩,⟨some 8,none,.new [(.str []),(.int .i64 0)]⟩,⟨none,none,.store 2 (.t 8) (.t 32)⟩]) (.seq (.au [⟨some 9,none,.af (.c .nil0)⟩]) (.gh (.own 9 1) (.seq (.seq (.au [⟨some 33,none,.af (.t 6)⟩,⟨some 34,none,.len (.t 33)⟩,⟨some 35,none,.af (.c (.int .i64 0))⟩]) (.block 2 (.loop (.seq (.au [⟨some 36,none,.bin .lss (.t 35) (.t 34)⟩]) (.seq (.cond (.t 36) .skip (.exit 2)) (.seq (.block 3 (.seq (.au [⟨some 37,none,.fH (.t 33) (.t 35) 1⟩,⟨some 38,none,.load none (.t 37)⟩,⟨some 11,none,.af (.t 38)⟩]) (.fY [⟨some 39,none,.af (.t 9)⟩,⟨some 40,none,.load (some 1) (.t 2)⟩,⟨some 41,none,.bU (.t 2) 0⟩,⟨some 42,none,.load none (.t 41)⟩,⟨some 43,none,.af (.t 11)⟩,⟨some 44,none,.fH (.t 42) (.t 43) 5⟩,⟨some 45,none,.bU (.t 44) 4⟩,⟨some 46,none,.load none (.t 45)⟩,⟨some 47,none,.load (some 2) (.t 8)⟩,⟨some 48,none,.call bF [(.t 40),(.t 46),(.t 47)]⟩,⟨some 49,none,.app (.t 39) (.t 48) 1 8⟩,⟨some 9,none,.af (.t 49)⟩] [[],[],[],[2],[],[3,4],[5],[6],[],[1,7,8],[0,9,9],[10,10,0,1,2,3,4,5,6,7,8,9,10]] [.no,.rw [.loc 2] [],.no,.rw [.loc 2] [],.no,.no,.no,.no,.rw [.loc 8] [],.no,(.rw [] [.loc 9,.loc 49]),.no]))) (.au [⟨some 50,none,.bin .add (.t 35) (.c (.int .i64 1))⟩,⟨some 35,none,.af (.t 50)⟩]))))))) (.gh (.xQ (.loc 9) 9) (.au [⟨some 51,none,.af (.t 9)⟩,⟨some 6,none,.af (.t 51)⟩]))))))) (.au [⟨some 52,none,.bin .add (.t 29) (.c (.int .i64 1))⟩,⟨some 29,none,.af (.t 52)⟩]))))))) (.seq (.au [⟨some 53,none,.af (.t 6)⟩,⟨some 4,none,.af (.t 53)⟩,⟨some 5,none,.af (.c (.int .i64 0))⟩]) .ret)))))
theorem zL {ca cE a7 bF : Nat} (hF : aB P G ca = some (54,[(none,4),(none,5)],(iV cE a7 bF).bare)) (d : Doc) (hd : gO d ≤ B) (l : List Step) (hl : l.length ≤ B)
   (hi:cq d=true) (hg:aT l=true) (hG:ai P G cE [Doc.av d] (.bool (cq d))) (hP:nI P G a7 [.sl (.par 0) 2 0 l.length] 2 (l.map Step.iv) (fun x ys=>x= .bool (aT l)∧ys=l.map Step.iv))
   (hC:∀s∈l,∀ks:List Int,ks.length≤B→(∀n∈ks,0≤n∧n<(d.length:Int))→ai P G bF [Doc.av d,.list (ks.map bl),s.av] (.list ((bu d s 0 ks).map bl))) :
   nI P G ca [Doc.av d,.sl (.par 0) 2 0 l.length] 2 (l.map Step.iv) (fun x ys=>x= .ei [.list ((bM d l).map bl),.int .i64 0]∧ys=l.map Step.iv):=by
 have Jj:aB P G ca=some (54,[(none,4),(none,5)],(fV cE a7 bF).bare):=hF
 refine mQ Jj (by simp) (by simp[ah,AV.ar,Doc.av]) ?_
 have rn:B=1073741824:=rfl
 have vo:=fk d
 unfold fV
 simp only[Doc.av] at hG hC
 simp only[↓aX,mX,reduceCtorEq,Nat.reduceEqDiff,Nat.reduceLT,Nat.reduceLeDiff,Nat.reduceAdd,Nat.reduceMul,Int.reduceToNat,Int.reduceLE,Int.reduceLT,Doc.av,lz]
 refine aj hG ?_
 rw[hi]
 simp only[↓aX,mX,reduceCtorEq,Nat.reduceEqDiff,Nat.reduceLT,Nat.reduceLeDiff,Nat.reduceAdd,Nat.reduceMul,Int.reduceToNat,Int.reduceLE,Int.reduceLT,Bool.not_true]
 refine mO (l:= .par 0) hP rfl (by simp[ae]) ?_
 rintro x ys ⟨rfl,rfl⟩ _ _
 rw[hg]
 have e:vH d l=(bM d l,0):=by unfold vH;rw[if_pos ⟨hi,hg⟩]
 have hlen:1≤l.length:=by unfold aT at hg;simp only[Bool.and_eq_true,decide_eq_true_eq] at hg;exact hg.2.1
 obtain⟨t,ht,E4⟩:=fE.1 hi
 have K4:1≤d.length:=by rw[E4];exact oY
 obtain⟨s0,r,rfl⟩:∃s0 r,l=s0::r:=by cases l with|nil=>simp at hlen|cons a r=>exact⟨a,r,rfl⟩
 have tt:=hC s0 (by simp) [0] (by simp[rn]) (by intro n hn;simp only[List.mem_singleton] at hn;subst hn;omega)
 simp only[List.map_cons,List.map_nil,bl,Step.av] at tt
 simp only[↓aX,mX,reduceCtorEq,Nat.reduceEqDiff,Nat.reduceLT,Nat.reduceLeDiff,Nat.reduceAdd,Nat.reduceMul,Int.reduceToNat,Int.reduceLE,Int.reduceLT,Bool.not_true,Nat.zero_add,Nat.add_zero,List.length_cons,Nat.zero_lt_succ,true_and,mN,sF,List.getElem?_cons_zero,Option.map_some,Option.bind_some,Step.aU,Step.cs,List.map_cons,List.map_nil,List.length_nil,List.drop_zero,List.take_succ_cons,List.take_zero,Nat.le_refl]
 refine⟨rfl,ik tt ?_⟩
 simp only[↓aX,mX,reduceCtorEq,Nat.reduceEqDiff,Nat.reduceLT,Nat.reduceLeDiff,Nat.reduceAdd,Nat.reduceMul,Int.reduceToNat,Int.reduceLE,Int.reduceLT,qk,j4,kZ,D0,show(1:Int).toNat=1 from rfl,show(0:Int)≤1 by decide,true_and,List.length_cons,List.length_map,show 1≤r.length+1 by omega,Option.bind_some,Option.map_some,Option.isSome_none,Nat.zero_add,Nat.add_sub_cancel,reduceCtorEq]
 have HC:∀(ρ:Lb→Lb) (xs:List IV),bX ρ ⟨2,aG xs⟩=⟨2,aG xs⟩:=fun ρ xs=>cr _ _ _
 have mw:∀(ρ:Lb→Lb) (xs:List IV),bX ρ ⟨1,aG xs⟩=⟨1,aG xs⟩:=fun ρ xs=>cr _ _ _
 have eg:∀j,s0::r.take j≠[]:=fun j=>by simp
 refine dA (σ:={j:Nat // j≤r.length}) (fun _=>[.par 0,.loc 2]) (fun _ _=>false)
   (fun q=>[(2,.ptr (.loc 2) 1 0 0),(6,.list ((bM d (s0::r.take q.1)).map bl)),(27,.sl (.par 0) 2 1 r.length),(28,.int .i64 r.length),(29,.int .i64 q.1)])
   (fun q=>[(.par 0,⟨2,aG ((s0::r).map Step.iv)⟩),(.loc 2,⟨1,[[.list (d.map Node.iv)]]⟩)]) (fun q=>r.length - q.1) ⟨0,Nat.zero_le _⟩ (fun _=>rfl) (fun q=>by simp[ah,AV.ar]) ?_ ⟨[],?_⟩ ?_
 · intro q w hw cs bx z hz
   simp only[List.mem_cons,List.not_mem_nil,or_false] at hw
   rcases hw with rfl|rfl
   · rw[bY bx] at hz;simp at hz
   · simp only[List.mem_singleton] at bx;subst bx;simp[ah,AV.ar] at hz
 · refine⟨?_,?_,?_,by simp[bq],fun l _=>⟨id,fun _=>rfl⟩⟩
   · intro l hf hu
     by_cases e0:l= .par 0
     · subst e0;left;simp
     · exfalso;apply hu
       cases l<;>simp_all[Lb.fresh,ae,Hp.none]
   · simp[iq,bq,bQ,put,bM,iT]
   · simp only[jW,HC]
     simp[bq,ae,bX,bT,bQ]
 · rintro ⟨j,hj⟩
   rw[iu]
   obtain⟨Hz,LC⟩:=vG hi (eg j)
   simp only[↓aX,mX,reduceCtorEq,Nat.reduceEqDiff,Nat.reduceLT,Nat.reduceLeDiff,Nat.reduceAdd,Nat.reduceMul,Int.reduceToNat,Int.reduceLE,Int.reduceLT,cb,bO,List.length_map]
   by_cases bz:j<r.length
   · rw[show decide (((j:Nat):Int)<((r.length:Nat):Int))=true by simpa using bz]
     obtain⟨s,hs⟩:∃s,r[j]?=some s:=⟨_,List.getElem?_eq_getElem bz⟩
     have G5:s∈s0::r:=List.mem_cons_of_mem _ (List.mem_of_getElem? hs)
     have hw:IntKind.i64.wrap ((j:Int)+1)=((j+1:Nat):Int):=wrap64 (by omega) (by simp only[List.length_cons] at hl;omega)
     have jf:bM d (s0::r.take (j+1))=(bM d (s0::r.take j)).flatMap fun n=>bu d s 0 (jo d n):=by
       rw[List.take_add_one,hs,←zx d _ s (eg j)];rfl
     have tq:=(vG hi (eg (j+1))).1
     rw[jf] at tq
     have Fm:(s0.iv::r.map Step.iv)[1+j]?=some s.iv:=by rw[Nat.add_comm];simp[hs]
     simp only[↓aX,mX,reduceCtorEq,Nat.reduceEqDiff,Nat.reduceLT,Nat.reduceLeDiff,Nat.reduceAdd,Nat.reduceMul,Int.reduceToNat,Int.reduceLE,Int.reduceLT,Int.natCast_nonneg,Int.toNat_natCast,true_and,bz,mN,sF,Fm,Option.map_some,Option.bind_some,Step.aU,Step.cs,List.map_cons,List.map_nil,List.length_cons,List.length_nil,List.drop_zero,List.take_succ_cons,List.take_zero,Nat.zero_add,Nat.add_zero,Nat.le_refl]
     refine dA (σ:={i:Nat // i≤(bM d (s0::r.take j)).length}) (fun _=>[.par 0,.loc 2,.loc 8,.loc 9]) (fun _ _=>false)
       (fun q=>[(2,.ptr (.loc 2) 1 0 0),(27,.sl (.par 0) 2 1 r.length),(28,.int .i64 r.length),(29,.int .i64 j),(8,.ptr (.loc 8) 2 0 0),
         (9,.sl (.loc 9) 1 0 (((bM d (s0::r.take j)).take q.1).flatMap fun n=>bu d s 0 (jo d n)).length),(33,.list ((bM d (s0::r.take j)).map bl)),(34,.int .i64 (bM d (s0::r.take j)).length),(35,.int .i64 q.1)])
       (fun q=>[(.par 0,⟨2,aG ((s0::r).map Step.iv)⟩),(.loc 2,⟨1,[[.list (d.map Node.iv)]]⟩),(.loc 8,⟨2,[[.str s.name,.int .i64 s.n]]⟩),(.loc 9,⟨1,aG ((((bM d (s0::r.take j)).take q.1).flatMap fun n=>bu d s 0 (jo d n)).map bl)⟩)])
       (fun q=>(bM d (s0::r.take j)).length - q.1) ⟨0,Nat.zero_le _⟩ (fun _=>rfl) (fun q=>by simp[ah,AV.ar]) ?_ ⟨[],?_⟩ ?_
     · intro q w hw cs bx z hz
       simp only[List.mem_cons,List.not_mem_nil,or_false] at hw
       rcases hw with rfl|rfl|rfl|rfl
       · rw[bY bx] at hz;simp at hz
       · simp only[List.mem_singleton] at bx;subst bx;simp[ah,AV.ar] at hz
       · simp only[List.mem_singleton] at bx;subst bx;simp[ah,AV.ar] at hz
       · rw[bY bx] at hz;simp at hz
     · refine⟨?_,?_,?_,by simp[bq],fun l _=>⟨id,fun _=>rfl⟩⟩
       · intro l hf hu
         by_cases e0:l= .par 0
         · subst e0;left;simp
         · exfalso;apply hu
           cases l<;>simp_all[Lb.fresh,ae,Hp.none]
       · simp[iq,bq,bQ,put]
       · simp only[jW,HC,mw]
         simp[bq,ae,bX,bT,bQ,aG]
     · rintro⟨i,LB⟩
       rw[iu]
       have yP:=wO (fun n=>bu d s 0 (jo d n)) (bM d (s0::r.take j)) i
       simp only[↓aX,mX,reduceCtorEq,Nat.reduceEqDiff,Nat.reduceLT,Nat.reduceLeDiff,Nat.reduceAdd,Nat.reduceMul,Int.reduceToNat,Int.reduceLE,Int.reduceLT,cb,bO,List.length_map]
       by_cases la:i<(bM d (s0::r.take j)).length
       · rw[show decide (((i:Nat):Int)<(((bM d (s0::r.take j)).length:Nat):Int))=true by simpa using la]
         obtain⟨n0,mm⟩:∃n,(bM d (s0::r.take j))[i]?=some n:=⟨_,List.getElem?_eq_getElem la⟩
         obtain⟨h0,h1⟩:=LC n0 (List.mem_of_getElem? mm)
         obtain⟨n,rfl⟩:=Int.eq_ofNat_of_zero_le h0
         obtain⟨x,hx⟩:∃x,d[n]?=some x:=⟨_,List.getElem?_eq_getElem (by omega)⟩
         have GB:=kG (List.mem_of_getElem? hx)
         simp only[Node.wt] at GB
         have J2:=hC s G5 x.kids (by omega) (zy hi hx)
         simp only[Step.av] at J2
         have Fa:jo d (n:Int)=x.kids:=by simp only[jo,Int.toNat_natCast,hx]
         have qo:=ly d s x.kids 0
         have jR:=wP (fun n=>bu d s 0 (jo d n)) mm
         simp only[Fa] at jR
         have LD:IntKind.i64.wrap ((i:Int)+1)=((i+1:Nat):Int):=wrap64 (by omega) (by omega)
         have hr:∀(ρ:Lb→Lb) (xs:List IV),bX ρ ⟨1,aG xs⟩=⟨1,aG xs⟩:=fun ρ xs=>cr _ _ _
         simp only[↓aX,mX,reduceCtorEq,Nat.reduceEqDiff,Nat.reduceLT,Nat.reduceLeDiff,Nat.reduceAdd,Nat.reduceMul,Int.reduceToNat,Int.reduceLE,Int.reduceLT,oL,mm,oy,Option.map_some,oR,Int.toNat_natCast,Doc.er hx,gJ,Node.aU,Node.cs,Int.natCast_nonneg,List.length_map]
         refine⟨rfl,ik J2 ?_⟩
         simp only[↓aX,mX,reduceCtorEq,Nat.reduceEqDiff,Nat.reduceLT,Nat.reduceLeDiff,Nat.reduceAdd,Nat.reduceMul,Int.reduceToNat,Int.reduceLE,Int.reduceLT]
         rw[si 1 8 49 9 ((((bM d (s0::r.take j)).take i).flatMap fun n=>bu d s 0 (jo d n)).map bl) ((bu d s 0 x.kids).map bl) (by simp[ae]) (by simp) (oy _) (oz _)
           (by rw[List.length_map];omega) (by decide) (by decide) (by simp[ae,Hp.none])]
         simp only[↓aX,mX,reduceCtorEq,Nat.reduceEqDiff,Nat.reduceLT,Nat.reduceLeDiff,Nat.reduceAdd,Nat.reduceMul,Int.reduceToNat,Int.reduceLE,Int.reduceLT,LD]
         refine⟨by rintro l (rfl|rfl)<;>simp[Lb.iM],⟨i+1,by omega⟩,by simp only;omega,[(.loc 9,.loc 49)],?_⟩
         refine⟨?_,?_,?_,by simp[bq],?_⟩
         · intro l hf hu
           by_cases e0:l= .par 0
           · subst e0;left;simp
           · exfalso;apply hu
             cases l<;>simp_all[Lb.fresh,ae,Hp.none]
         · simp only[jR]
           simp[iq,bq,bQ,put]
         · simp only[jW,HC,hr,jR,List.map_append]
           simp[bq,ae,bX,bT,bQ]
         · intro l hl
           simp only[List.mem_cons,List.not_mem_nil,or_false] at hl
           rcases hl with rfl|rfl|rfl|rfl
           · exact⟨fun h=>by simp[Lb.fresh] at h,fun _=>rfl⟩
           · exact⟨fun _=>rfl,fun _=>rfl⟩
           · exact⟨fun _=>rfl,fun _=>rfl⟩
           · exact⟨fun _=>rfl,fun h=>by simp[Lb.fresh] at h⟩
       · have lC:(bM d (s0::r.take j)).take i=bM d (s0::r.take j):=List.take_of_length_le (by omega)
         rw[show decide (((i:Nat):Int)<(((bM d (s0::r.take j)).length:Nat):Int))=false by simpa using la]
         rw[lC,←jf]
         simp only[↓aX,mX,reduceCtorEq,Nat.reduceEqDiff,Nat.reduceLT,Nat.reduceLeDiff,Nat.reduceAdd,Nat.reduceMul,Int.reduceToNat,Int.reduceLE,Int.reduceLT]
         refine⟨1,(bM d (s0::r.take (j+1))).map bl,0,(bM d (s0::r.take (j+1))).length,rfl,rfl,by simp,oz _,?_⟩
         simp only[↓aX,mX,reduceCtorEq,Nat.reduceEqDiff,Nat.reduceLT,Nat.reduceLeDiff,Nat.reduceAdd,Nat.reduceMul,Int.reduceToNat,Int.reduceLE,Int.reduceLT,List.drop_zero,List.take_of_length_le (show((bM d (s0::r.take (j+1))).map bl).length≤(bM d (s0::r.take (j+1))).length by simp),hw]
         refine⟨⟨j+1,by omega⟩,by simp only;omega,[],?_⟩
         refine⟨?_,?_,?_,by simp[bq],fun l _=>⟨id,fun _=>rfl⟩⟩
         · intro l hf hu
           by_cases e0:l= .par 0
           · subst e0;left;simp
           · exfalso;apply hu
             cases l<;>simp_all[Lb.fresh,ae,Hp.none]
         · simp[iq,bq,bQ,put]
         · simp only[jW,HC]
           simp[bq,ae,bX,bT,bQ]
   · have re:r.take j=r:=List.take_of_length_le (by omega)
     rw[show decide (((j:Nat):Int)<((r.length:Nat):Int))=false by simpa using bz,re]
     simp only[↓aX,mX,reduceCtorEq,Nat.reduceEqDiff,Nat.reduceLT,Nat.reduceLeDiff,Nat.reduceAdd,Nat.reduceMul,Int.reduceToNat,Int.reduceLE,Int.reduceLT,↓df,e]
     exact⟨_,rfl,by simp[AV.ar,ah],by simp,by simp[ae]⟩
end
end Go.Am
