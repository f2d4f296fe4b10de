import Derived.Test.YtfinkeaikbmpgaaGreatDoorKT27
set_option linter.unusedSimpArgs false
set_option linter.unusedVariables false
set_option linter.unnecessarySimpa false
set_option linter.defProp false
/- A document made of a tree, by those that wait. -/
namespace Go.Am
open Go Go.RowKit
def afJ {sz b d n:Nat} {l l2:Lb} {els:List (List AV)} {cs:List AV} {H:Hp} (hl:H l= .live ⟨sz,els⟩) (hn:els.length=n) (h2:H l2= .live ⟨sz,[cs]⟩) (fw:AV.oJ cs)
  (hb:(n+1)*b≤140737488355328) (h0:0<b) (hd:l≠l.app d) (hu:H (l.app d)= .unused) :
  jN sz b d (.sl l sz 0 n) (.sl l2 sz 0 1) H=some (.sl (l.app d) sz 0 (n+1),bD (bD H l .dead) (l.app d) (.live ⟨sz,els++[cs]⟩)):=by
 unfold jN;have hs:kU sz (.sl l2 sz 0 1) H=some [cs]:=by simp[kU,h2]
 rw[hs,cu,a_ (by simpa using fw)];simp only[hl];rw[bf ⟨rfl,rfl,rfl,om hn.symm,by simpa using hb,h0,hd,hu⟩];simp only[cG,fE,bM];rw[bo (om hn)]
def Z2 {sz b d n i m:Nat} {l l2:Lb} {els els2:List (List AV)} {xs:List IV} {H:Hp} (hl:H l= .live ⟨sz,els⟩) (hn:els.length=n) (h2:H l2= .live ⟨sz,els2⟩) (hi:i+m≤els2.length)
  (hx:(els2.drop i).take m=aB xs) (hf:Flat xs) (hm:xs.length=m) (hb:(n+m)*b≤140737488355328) (h0:0<b) (hd:l≠l.app d) (hu:H (l.app d)= .unused) :
  jN sz b d (.sl l sz 0 n) (.sl l2 sz i m) H=some (.sl (l.app d) sz 0 (n+m),bD (bD H l .dead) (l.app d) (.live ⟨sz,els++aB xs⟩)):=by
 have BR:(aB xs).length=m:=by rw[lQ,hm]
 unfold jN;have hs:kU sz (.sl l2 sz i m) H=some (aB xs):=by simp[kU,h2,hi,hx]
 rw[hs,cu,a_ (by simpa using hf.one)];simp only[hl];rw[bf ⟨rfl,rfl,rfl,om hn.symm,by rw[BR];exact hb,h0,hd,hu⟩,BR,bo (om hn)]
def aeo (rs:List (Lb×Row)) (l:Lb):kl rs l= .unused∨∃r,kl rs l= .live r:=by
 induction rs with
 |nil=>exact .inl rfl
 |cons p t ih=>
 obtain⟨l0,r0⟩:=p;simp only[kl,bD];split
 ·exact .inr ⟨_,rfl⟩
 exact ih
def afK {rs:List (Lb×Row)} {l:Lb} {r:Row} (h:(l,r)∈rs) (hu:∀r',(l,r')∈rs→r'=r):kl rs l= .live r:=by
 rcases aeo rs l with h1|⟨r',h1⟩
 ·exact absurd h1 (lP (cO.2 ⟨_,h,rfl⟩))
 rw[h1,hu r' (fy h1)]
def abo {rs:List (Lb×Row)} {l:Lb} (h:l∉rs.map Prod.fst):kl rs l= .unused:=by
 rcases aeo rs l with h1|⟨r,h1⟩
 ·exact h1
 exact absurd (cO.2 ⟨_,fy h1,rfl⟩) h
def aci (a b:List (Lb×Row)) (l:Lb):kl (a++b) l=match kl a l with| .unused=>kl b l|s=>s:=by
 induction a with
 |nil=>rfl
 |cons p t ih=>
 obtain⟨l0,r0⟩:=p;simp only[List.cons_append,kl,bD];split
 ·rfl
 exact ih
theorem X8 {ρ:Lb→Lb} {H:Hp}:∀{a b:List (Lb×Row)},tc ρ H a→tc ρ H b→tc ρ H (a++b)
 |[],b,_,h=>h
 |(l,r)::a,b,h1,h2=>⟨h1.1,X8 h1.2 h2⟩
theorem aep {ρ:Lb→Lb} {H:Hp}:∀{a:List (Lb×Row)},(∀q∈a,H (ρ q.1)= .live (dO ρ q.2))→tc ρ H a
 |[],_=>trivial
 |(l,r)::a,h=>⟨h (l,r) (by simp),aep fun q hq=>h q (by simp[hq])⟩
def KL (i:Nat):Lb:= .nest (.loc 1000) i 4
def XY (i:Nat) (ks:List Int):AV:=if ks=[] then .nil0 else .sl (KL i) 1 0 ks.length
def X9 (i:Nat) (x:Node):List AV:=[.bool x.text,.str x.s,.list (cD x.attrs),.int .i64 x.parent,XY i x.kids]
def Ym (d:List Node):List (List AV):=d.mapIdx X9
def aa0 (ks:List Int):Row:=⟨1,aB (ks.map xX)⟩
def Yh (d:List Node):List (Lb×Row):=(List.range d.length).filterMap fun i=>(d[i]?).bind fun x=>if x.kids=[] then none else some (KL i,aa0 x.kids)
def VI (q:Tree×Int):IV:= .agg [.bool q.1.text,.str q.1.s,.list (cD q.1.attrs),.list (dq q.1.kids),.int .i64 q.2]
def YK (d:List Node) (l:List (Tree×Int)):List (Lb×Row):=[(.loc 2,⟨1,[[.nil0]]⟩),(.loc 4,⟨1,[[.sl (.loc 1000) 5 0 d.length]]⟩),(.loc 1000,⟨5,Ym d⟩),(.loc 1001,⟨5,aB (l.map VI)⟩)]++Yh d
def XG {d:List Node} {l:Lb} {r:Row}:(l,r)∈Yh d↔∃i x,d[i]?=some x∧x.kids≠[]∧l=KL i∧r=aa0 x.kids:=by
 simp only[Yh,List.mem_filterMap,l9,aZ];constructor
 ·rintro⟨i,hi,x,h1,h2⟩;split at h2
  ·cases h2
  rename_i hk;simp only[di,bZ] at h2;exact⟨i,x,h1,hk,h2.1.symm,h2.2.symm⟩
 rintro⟨i,x,h1,h2,rfl,rfl⟩;exact⟨i,(aI.1 h1).1,x,h1,by rw[a_ h2]⟩
def aeq {i j:Nat} (h:KL i=KL j):i=j:=by simpa[KL] using h
def W6 {d:List Node} {i:Nat} {x:Node} (h:d[i]?=some x) (hk:x.kids≠[]):kl (Yh d) (KL i)= .live (aa0 x.kids):=by
 refine afK (XG.2 ⟨i,x,h,hk,rfl,rfl⟩) ?_;intro r' hr;obtain⟨j,y,h1,_,h3,rfl⟩:=XG.1 hr;cases aeq h3;rw[h] at h1;cases h1;rfl
def acQ {d:List Node} {l:Lb} (h:∀i,l≠KL i):kl (Yh d) l= .unused:=by
 refine abo fun hm=> ?_;obtain⟨⟨l',r⟩,h1,rfl⟩:=cO.1 hm;obtain⟨i,x,_,_,h4,_⟩:=XG.1 h1;exact h i h4
def Yn (d:List Node) (n:Nat):kl (Yh d) (.loc n)= .unused:=acQ fun i=>by simp[KL]
def XZ (d:List Node):(Ym d).length=d.length:=by simp[Ym]
def X0 (d:List Node) (i:Nat):(Ym d)[i]?=d[i]?.map (X9 i):=by simp[Ym]
def adt (d:List Node):((Yh d).map Prod.fst).Nodup:=by
 have:(Yh d).map Prod.fst=(List.range d.length).filterMap fun i=>(d[i]?).bind fun x=>if x.kids=[] then none else some (KL i):=by
  unfold Yh;rw[List.map_filterMap];congr 1;funext i;cases d[i]? with
  |none=>rfl
  |some x=>simp only[cu];split<;>rfl
 rw[this];refine List.Pairwise.filterMap _ ?_ uY;intro i j Et l hl l' kR e;subst e;simp only[aZ] at hl kR;obtain⟨x,_,h1⟩:=hl;obtain⟨y,_,h2⟩:=kR;split at h1
 ·cases h1
 split at h2
 ·cases h2
 simp only[di] at h1 h2;exact Et (aeq (h1.trans h2.symm))
def abp {d:List Node} {l:Lb} (h:l∈(Yh d).map Prod.fst):∃i,l=KL i∧i<d.length:=by
 obtain⟨⟨l',r⟩,h1,rfl⟩:=cO.1 h;obtain⟨i,x,h2,_,h4,_⟩:=XG.1 h1;exact⟨i,h4,(aI.1 h2).1⟩
def acR (d:List Node) (w:List (Tree×Int)):∀q∈YK d w,∀cs∈q.2.els,∀l∈ah cs,l∈(YK d w).map Prod.fst:=by
 intro q hq cs bV l hl;simp only[YK,aY,bb,b5,b7] at hq;rcases hq with(rfl|rfl|rfl|rfl)|hq
 ·simp only[aW] at bV;subst bV;simp[ah,AV.an] at hl
 ·simp only[aW] at bV;subst bV;simp[ah,AV.an] at hl;subst hl;simp[YK]
 ·simp only at bV;obtain⟨i,hi⟩:=c_ bV;rw[X0,aP] at hi;obtain⟨x,hx,rfl⟩:=hi;unfold X9 XY at hl;split at hl
  ·simp[ah,AV.an] at hl
  rename_i hk;simp[ah,AV.an] at hl;subst hl;simp only[YK,eV,aY];exact .inr (cO.2 ⟨_,XG.2 ⟨i,x,hx,hk,rfl,rfl⟩,rfl⟩)
 ·rw[bU bV] at hl;simp at hl
 obtain⟨l0,r0⟩:=q;obtain⟨i,x,_,_,rfl,rfl⟩:=XG.1 hq;rw[bU bV] at hl;simp at hl
def Xj (d:List Node) {l:Lb} (h:l.fresh=false):kl (Yh d) l= .unused:=acQ fun i e=>by subst e;simp[KL,Lb.fresh] at h
def acj {α β:Type} {f:α→β} {l:List α} (h:l.Nodup) (hf:∀a∈l,∀b∈l,f a=f b→a=b):(l.map f).Nodup:=by
 rw[List.Nodup,List.pairwise_map];exact rM (fun ha hb Vi e=>Vi (hf _ ha _ hb e)) h
def WT {ls:List Lb} {ps:List (Nat×AV)} {rs:List (Lb×Row)} {env:Env} {H:Hp} {m:List (Lb×Lb)} (nf:∀l:Lb,l.fresh=false→H l= .unused) (e:k_ (dn m) env ps) (r:tc (dn m) H rs)
  (F2:ls.Nodup) (hf:∀l∈ls,l.fresh=true∧(dn m l).fresh=true) (CZ:∀a∈ls,∀b∈ls,dn m a=dn m b→a=b):WU ls (fun _=>false) ps rs env H m:=
 ⟨fun l h hu=>absurd (nf l h) hu,e,r,acj F2 CZ,fun l hl=>⟨fun _=>(hf l hl).2,fun h=>by rw[(hf l hl).1] at h;cases h⟩⟩
def Xk {ρ:Lb→Lb} {H:Hp} {d:List Node} {w:List (Tree×Int)} (h2:H (ρ (.loc 2))= .live ⟨1,[[.nil0]]⟩) (h4:H (ρ (.loc 4))= .live ⟨1,[[.sl (ρ (.loc 1000)) 5 0 d.length]]⟩) (h5:H (ρ (.loc 1000))= .live (dO ρ ⟨5,Ym d⟩)) (h6:H (ρ (.loc 1001))= .live ⟨5,aB (w.map VI)⟩)
  (hk:∀i x,d[i]?=some x→x.kids≠[]→H (ρ (KL i))= .live (aa0 x.kids)):tc ρ H (YK d w):=by
 refine⟨by rw[h2];simp[dO,bu,bJ],by rw[h4];simp[dO,bu,bJ],h5,by rw[h6,dy],aep fun q hq=> ?_⟩;obtain⟨l,r⟩:=q;obtain⟨i,x,h1,h3,rfl,rfl⟩:=XG.1 hq;simp only;rw[hk i x h1 h3,aa0,dy]
def adu (y:IV) (r:List IV):aB (y::r)=y.cells.map IV.dQ::aB r:=rfl
def afL (q:Tree×Int):(VI q).cells=[.bool q.1.text,.str q.1.s,.list (cD q.1.attrs),.list (dq q.1.kids),.int .i64 q.2]:=rfl
def mdK (d:List Node):List Lb:=[.loc 2,.loc 4,.loc 1000,.loc 1001]++(Yh d).map Prod.fst
def Z3 (d:List Node) (w:List (Tree×Int)):(YK d w).map Prod.fst=mdK d:=by simp[mdK,YK]
def aer (d:List Node):mdK d=[.loc 2,.loc 4,.loc 1000,.loc 1001]++(Yh d).map Prod.fst:=rfl
def Vq {d:List Node} {l:Lb} (h:l∈mdK d):l= .loc 2∨l= .loc 4∨l= .loc 1000∨l= .loc 1001∨∃i,l=KL i:=by
 rw[aer] at h;rcases aY.1 h with h|h
 ·simp at h;rcases h with h|h|h|h<;>simp[h]
 obtain⟨i,h1,_⟩:=abp h;exact .inr (.inr (.inr (.inr ⟨i,h1⟩)))
def X3 (d:List Node):(mdK d).Nodup:=by
 rw[aer];refine tM.2 ⟨by decide,adt d,?_⟩;intro a ha b hb e;subst e;obtain⟨i,rfl,_⟩:=abp hb;simp[KL] at ha
def Xf (d:List Node):(mdK d++[Lb.loc 8]).Nodup:=by
 refine tM.2 ⟨X3 d,by simp,?_⟩;intro a ha b hb e;subst e;simp only[aW] at hb;rcases Vq ha with h|h|h|h|⟨i,h⟩<;>(rw[hb] at h;simp[KL] at h)
def XH (ρ:Lb→Lb) (d:List Node) (h:∀i x,d[i]?=some x→x.kids≠[]→ρ (KL i)=KL i):dO ρ ⟨5,Ym d⟩=⟨5,Ym d⟩:=by
 simp only[dO,Row.mk.injEq,dK];refine fe fun i=> ?_;rw[cn,X0];cases hx:d[i]? with
 |none=>rfl
 |some x=>
 simp only[bT,di,X9,XY];split
 ·simp[bu,bJ]
 rename_i hk;simp[bu,bJ,h i x hx hk]
def ack (l:List (Tree×Int)):Flat (l.map VI):=YY VI (by
 intro x z hz cs;simp only[VI,IV.cells,bb,b5,b7] at hz;rcases hz with rfl|rfl|rfl|rfl|rfl<;>simp) l
def abq {d:List Node} {p n:Int} {m:Nat} (h:∀y∈d,y.kids.length≤m):∀y∈Xd d p n,y.kids.length≤m+1:=by
 intro y hy;unfold Xd at hy;split at hy
 ·split at hy
  ·rename_i x hx;rcases gj hy with hy|rfl
   ·have:=h y hy;omega
   have:=h x (aV hx);simp;omega
  have:=h y hy;omega
 have:=h y hy;omega
def Wv (bY:Nat):AC:=
(aM [sC 1 0,aQ 2 (.new [.nil0]),gH 3 0] (.seq (aM [gz 11 4 1,aQ 12 (.call bY [(.t 11)]),sB 13 12] (.cond (.t 13) (aM [aQ 14 (.sg [.nil0] []),gg (.store 1 (.t 2) (.t 14)),gH 3 1] .ret) .skip)) (aM [aQ 4 (.new [.nil0])] (.seq (aM [gz 15 4 1,aQ 16 (.sg [(.bool false),(.str []),.nil0,.nil0,(.int .i64 0)] [(0,(4,(.t 15))),(4,(1,(.c (.int .i64 (-1)))))]),aQ 17 (.gG 5 [(.bool false),(.str []),.nil0,.nil0,(.int .i64 0)] [(0,(.t 16))]),MR 5 17] (.gh .vk (.block 0 (.loop (.seq (aM [MR 18 5,oy 19 18,eY 20 .gtr 19 0] (.cond (.t 20) .skip (.exit 0))) (.block 1 (aM [MR 21 5,aQ 22 (.Vc (.t 21) (jS 0) 5),gz 23 5 22,aQ 6 (.new [(.bool false),(.str []),.nil0,.nil0,(.int .i64 0)]),gg (.store 5 (.t 6) (.t 23))] (aM [ep 24 4 0,fm 25 24,oy 26 25,MR 7 26] (.seq (.VL [ep 27 4 0,fm 28 27,ep 29 6 0,ep 30 29 0,fm 31 30,ep 32 6 0,ep 33 32 1,fm 34 33,ep 35 6 0,ep 36 35 2,fm 37 36,aQ 38 (.oE (.c .nil0) (.t 37) 2 32),ep 39 6 4,fm 40 39,aQ 41 (.sg [(.bool false),(.str []),.nil0,(.int .i64 0),.nil0] [(0,(1,(.t 31))),(1,(1,(.t 34))),(2,(1,(.t 38))),(3,(1,(.t 40)))]),aQ 42 (.gG 5 [(.bool false),(.str []),.nil0,(.int .i64 0),.nil0] [(0,(.t 41))]),aQ 43 (.app (.t 28) (.t 42) 5 80),ep 44 4 0,gg (.store 1 (.t 44) (.t 43))] [[],[0],[],[2],[3],[],[5],[6],[],[8],[9],[10],[],[12],[4,7,11,13],[14],[1,15,11],[0,1,2,3,4,5,6,7,8,9,10,11,12,13,14,15,16],[17,16,16,0,1,2,3,4,5,6,7,8,9,10,11,12,13,14,15,16]] [.no,.rw [.loc 4] [],.no,.no,.rw [.loc 6] [],.no,.no,.rw [.loc 6] [],.no,.no,.rw [.loc 6] [],.no,.no,.rw [.loc 6] [],.no,(.rw [] [(.loc 42)]),(.rw [.loc 42] [.loc 1000,.loc 43]),.no,(.rw [] [.loc 4])]) (.seq (aM [ep 45 6 4,fm 46 45,eY 47 .geq 46 0] (.cond (.t 47) (.VL [ep 48 4 0,fm 49 48,ep 50 6 4,fm 51 50,ep 52 4 0,fm 53 52,ep 54 6 4,fm 55 54,jL 56 53 55 5,ep 57 56 4,fm 58 57,MR 59 7,aQ 60 (.lits 1 1 [(.int .i64 0)] [(0,(.t 59))]),aQ 61 (.app (.t 58) (.t 60) 1 8),jL 62 49 51 5,ep 63 62 4,gg (.store 1 (.t 63) (.t 61))] [[],[0],[],[2],[],[4],[],[6],[5,7],[8],[9],[],[11],[10,12],[1,3,0,1,2,3,4,5,6,7,8,9,10,11,12,13],[14,0,1,2,3,4,5,6,7,8,9,10,11,12,13],[15,13,13,0,1,2,3,4,5,6,7,8,9,10,11,12,13]] [.no,.rw [.loc 4] [],.no,.rw [.loc 6] [],.no,.rw [.loc 4] [],.no,.rw [.loc 6] [],.no,.no,(.rw [.loc 43] []),.no,.no,(.rw [] [.loc 61,.nest (.loc 1000) 0 4]),.no,.no,(.rw [] [.loc 43])]) .skip)) (aM [zi 8] (.gh (.own 8 5) (.seq (aM [ep 64 6 0,ep 65 64 3,fm 66 65,oy 67 66,gH 68 0] (.block 2 (.loop (aM [et 69 .lss 68 67] (.seq (.cond (.t 69) .skip (.exit 2)) (.seq (.block 3 (aM [jL 70 66 68 4,gz 71 4 70,aQ 10 (.new [(.bool false),(.str []),.nil0,.nil0]),gg (.store 4 (.t 10) (.t 71))] (.cq [MR 72 8,gz 73 4 10,MR 74 7,aQ 75 (.sg [(.bool false),(.str []),.nil0,.nil0,(.int .i64 0)] [(0,(4,(.t 73))),(4,(1,(.t 74)))]),aQ 76 (.lits 1 5 [(.bool false),(.str []),.nil0,.nil0,(.int .i64 0)] [(0,(.t 75))]),aQ 77 (.app (.t 72) (.t 76) 5 80),MR 8 77]))) (.cq [eY 78 .add 68 1,MR 68 78]))))))) (.cq [MR 79 8,MR 80 5,aQ 81 (.zr (.t 80) (some (jS 1)) none none 5),aQ 82 (.app (.t 79) (.t 81) 5 80),MR 5 82])))))))))))))) (.gh .vk (.gh (.xd (.loc 1000) (.loc 4) 0) (aM [gz 83 1 4,gg (.store 1 (.t 2) (.t 83)),gH 3 0] .ret)))))))
def aa1 (d:List Node) (w:List (Tree×Int)) (r:Row):kl (YK d w++[(.loc 8,r)])=bD (kl (YK d w)) (.loc 8) (.live r):=by
 funext l;rw[aci];by_cases e:l= .loc 8
 ·subst e;have:kl (YK d w) (.loc 8)= .unused:=abo fun hm=>by
   rw[Z3] at hm;rcases Vq hm with h|h|h|h|⟨i,h⟩<;>simp[KL] at h
  rw[this];simp[kl,bD]
 rw[aq _ _ e];cases h:kl (YK d w) l with
 |unused=>simp[kl,bD,e,Hp.none]
 |dead=>rfl
 |live r=>rfl
def aa2 (d:List Node) (w:List (Tree×Int)) (xs:List IV):∀q∈YK d w++[((.loc 8:Lb),(⟨5,aB xs⟩:Row))],∀cs∈q.2.els,∀l∈ah cs,l∈mdK d++[Lb.loc 8]:=by
 intro q hq cs bV l hl;rcases aY.1 hq with hq|hq
 ·have:=acR d w q hq cs bV l hl;rw[Z3] at this;exact aY.2 (.inl this)
 simp only[aW] at hq;subst hq;rw[bU bV] at hl;simp at hl
def Xy {d:List Node} {l:Lb} (h:l∈mdK d++[Lb.loc 8]):l= .loc 2∨l= .loc 4∨l= .loc 1000∨l= .loc 1001∨l= .loc 8∨∃i,l=KL i:=by
 rcases aY.1 h with h|h
 ·rcases Vq h with h|h|h|h|h<;>simp[h]
 simp only[aW] at h;simp[h]
def ahC {a b:Lb} (ha:a= .loc 2∨a= .loc 4∨a= .loc 1000∨a= .loc 1001∨a= .loc 8∨∃i,a=KL i) (hb:b= .loc 2∨b= .loc 4∨b= .loc 1000∨b= .loc 1001∨b= .loc 8∨∃i,b=KL i) :
  dn [(.loc 1000,.loc 43)] a=dn [(.loc 1000,.loc 43)] b→a=b:=by
 rcases ha with rfl|rfl|rfl|rfl|rfl|⟨i,rfl⟩<;>rcases hb with rfl|rfl|rfl|rfl|rfl|⟨j,rfl⟩<;>simp[KL,dn]
def ais {a:Lb} (ha:a= .loc 2∨a= .loc 4∨a= .loc 1000∨a= .loc 1001∨a= .loc 8∨∃i,a=KL i):a.fresh=true∧(dn [(.loc 1000,.loc 43)] a).fresh=true:=by
 rcases ha with rfl|rfl|rfl|rfl|rfl|⟨i,rfl⟩<;>simp[KL,dn,Lb.fresh]
def ahD {q:Nat} {a b:Lb} (ha:a= .loc 2∨a= .loc 4∨a= .loc 1000∨a= .loc 1001∨a= .loc 8∨∃i,a=KL i) (hb:b= .loc 2∨b= .loc 4∨b= .loc 1000∨b= .loc 1001∨b= .loc 8∨∃i,b=KL i) :
  dn [(.loc 1000,.loc 43),(KL q,.loc 61)] a=dn [(.loc 1000,.loc 43),(KL q,.loc 61)] b→a=b:=by
 rcases ha with rfl|rfl|rfl|rfl|rfl|⟨i,rfl⟩<;>rcases hb with rfl|rfl|rfl|rfl|rfl|⟨j,rfl⟩<;>simp[KL,dn]
 all_goals (try split)<;>(try split)<;>simp_all
def frq {q:Nat} {a:Lb} (ha:a= .loc 2∨a= .loc 4∨a= .loc 1000∨a= .loc 1001∨a= .loc 8∨∃i,a=KL i):a.fresh=true∧(dn [(.loc 1000,.loc 43),(KL q,.loc 61)] a).fresh=true:=by
 rcases ha with rfl|rfl|rfl|rfl|rfl|⟨i,rfl⟩<;>simp[KL,dn,Lb.fresh]
 split<;>simp[Lb.fresh]
def kX (d:List Node):Lb→Option (Nat×List IV):=fun l=>match l with
 | .nest l i j=>if l= .loc 1000∧j=4 then(d[i]?).bind fun x=>if x.kids=[] then none else some (1,x.kids.map xX) else none
 |_=>none
def ahE {d:List Node} {i:Nat} {x:Node} (h:d[i]?=some x) (hk:x.kids≠[]):kX d (KL i)=some (1,x.kids.map xX):=by
 simp[kX,KL,h,hk]
def acS {d:List Node} {l:Lb} {sz:Nat} {xs:List IV} (h:kX d l=some (sz,xs)):∃i x,d[i]?=some x∧x.kids≠[]∧l=KL i∧sz=1∧xs=x.kids.map xX:=by
 unfold kX at h;split at h
 ·rename_i l0 i j;split at h
  ·rename_i hc;obtain⟨rfl,rfl⟩:=hc;obtain⟨x,h1,h2⟩:=aZ.1 h;split at h2
   ·cases h2
   rename_i hk;simp only[di,bZ] at h2;exact⟨i,x,h1,hk,rfl,h2.1.symm,h2.2.symm⟩
  cases h
 cases h
def acm (d:List Node) (n:Nat):kX d (.loc n)=none:=rfl
def adv (d:List Node):((Ym d).map fun cs=>cs.map (S0 (fun l=>decide (l= .loc 1000)) (.loc 1000))).map (Ol (kX d))=aB (d.map Node.iv):=by
 refine fe fun i=> ?_;rw[cn,cn,X0,xT,cn];cases hx:d[i]? with
 |none=>rfl
 |some x=>
 have hn:S0 (fun l=>decide (l=Lb.loc 1000)) (.loc 1000)=norm:=by funext z;simp[S0]
 simp only[bT,di,Node.cJ,Node.cs,X9,XY,hn];by_cases hk:x.kids=[]
 ·simp[hk,norm,Ol,Py,IV.dQ]
 rw[a_ hk];simp only[cm,pr,norm,Ol,Py,ahE hx hk,IV.dQ];simp;exact bo (by simp)
structure My (x:Tree) where
 d:List Node
 l:List (Tree×Int)
 hw:whole d l=lW x
 hp:∀y∈l,y.2<(d.length:Int)
 hc:d.length+dP (l.map Prod.fst)=x.jz
 hb:dE (l.map Prod.fst)≤B
 hk:∀y∈d,y.kids.length≤d.length
set_option maxHeartbeats 1000000 in
def aes {P:Program} {G:Nat→Option (List IV)} {Vf bY:Nat} (hF:aw P G Vf=some (84,[((some (some 1)),2),(none,3)],(Wv bY).bare)) (x:Tree) (hx:x.wt≤B)
  (hI:au P G bY [x.av] (.bool x.d_)):au P G Vf [x.av] (.gf [Doc.av (Wo x).1,.int .i64 (Wo x).2]):=by
 refine Ws hF (by simp) (by simp[ah,AV.an,Tree.av]) (by simp[AV.an,ah,Doc.av]) ?_;have zo:B=1073741824:=rfl;unfold Wv;simp only[↓aX,mX,reduceCtorEq,Nat.reduceEqDiff,Nat.reduceLT,Nat.reduceLeDiff,Nat.reduceAdd,Nat.reduceMul,Int.reduceToNat,Int.reduceLE,Int.reduceLT,Tree.av];refine ay hI ?_;cases hg:x.d_ with
 |false=>
  simp only[↓aX,mX,reduceCtorEq,Nat.reduceEqDiff,Nat.reduceLT,Nat.reduceLeDiff,Nat.reduceAdd,Nat.reduceMul,Int.reduceToNat,Int.reduceLE,Int.reduceLT,bx,kq];simp[norm,fi,Wo,hg,Doc.av]
 |true=>
 simp only[↓aX,mX,reduceCtorEq,Nat.reduceEqDiff,Nat.reduceLT,Nat.reduceLeDiff,Nat.reduceAdd,Nat.reduceMul,Int.reduceToNat,Int.reduceLE,Int.reduceLT,bG];have ahF:=x.td;rw[aaV (sz:=5) (d:=17) (cs:=[.bool x.text,.str x.s,.list (cD x.attrs),.list (dq x.kids),.int .i64 (-1)]) (by simp[fg,AV.cells,AV.sI,AV.one]) (by simp[ae,Hp.none]) rfl (by decide)];simp only[↓aX,mX,reduceCtorEq,Nat.reduceEqDiff,Nat.reduceLT,Nat.reduceLeDiff,Nat.reduceAdd,Nat.reduceMul,Int.reduceToNat,Int.reduceLE,Int.reduceLT];rw[Ox];refine⟨_,_,Qm (q:= .loc 4) (cs:=[.nil0]) (j:=0) (d:=1000) (sz:=5) (by simp[ae]) rfl (by simp[ae,Hp.none]) (by decide),?_⟩;simp only[↓aX,mX,reduceCtorEq,Nat.reduceEqDiff,Nat.reduceLT,Nat.reduceLeDiff,Nat.reduceAdd,Nat.reduceMul,Int.reduceToNat,Int.reduceLE,Int.reduceLT];refine pe (σ:=My x) (fun q=>mdK q.d) (fun _ _=>false)
  (fun q=>[(2,.ptr (.loc 2) 1 0 0),(4,.ptr (.loc 4) 1 0 0),(5,.sl (.loc 1001) 5 0 q.l.length)]) (fun q=>YK q.d q.l) (fun q=>dP (q.l.map Prod.fst))
  {d:=[],l:=[(x,-1)],hw:=abh x,hp:=by simp,hc:=by simp[dP],hb:=by simp[dE,hx],hk:=by simp} (fun q=>Z3 _ _) (fun q=>by simp[ah,AV.an,mdK]) (fun q=>by rw[←Z3 _ q.l];exact acR q.d q.l) ⟨[(.loc 1001,.loc 17)],?_⟩ ?_
 ·refine WT ?_ ?_ ?_ (X3 _) ?_ ?_
  ·intro l hf;cases l<;>simp_all[Lb.fresh,ae,Hp.none]
  ·simp[k_,dn,bJ,put]
  ·refine Xk ?_ ?_ ?_ ?_ ?_
   ·simp[dn,ae]
   ·simp[dn,ae]
   ·simp[dn,ae,dO,Ym]
   ·simp[dn,ae,aB,VI,IV.cells,IV.dQ]
   intro i y h;simp at h
  ·intro l hl;rcases Vq hl with rfl|rfl|rfl|rfl|⟨i,rfl⟩<;>simp[KL,Lb.fresh,dn]
  intro a ha b hb;rcases Vq ha with rfl|rfl|rfl|rfl|⟨i,rfl⟩<;>rcases Vq hb with rfl|rfl|rfl|rfl|⟨j,rfl⟩<;>simp[KL,dn]
 rintro⟨d,l,hw,hp,hc,hb,K2⟩;rw[Cf];simp only[↓aX,mX,reduceCtorEq,Nat.reduceEqDiff,Nat.reduceLT,Nat.reduceLeDiff,Nat.reduceAdd,Nat.reduceMul,Int.reduceToNat,Int.reduceLE,Int.reduceLT,YK,List.cons_append,List.nil_append,cF,bW];cases l with
 |nil=>
  rw[adq] at hw;subst hw;simp only[fE,show decide (((0:Nat):Int)>0)=false from rfl,↓aX,mX,reduceCtorEq,Nat.reduceEqDiff,Nat.reduceLT,Nat.reduceLeDiff,Nat.reduceAdd,Nat.reduceMul,Int.reduceToNat,Int.reduceLE,Int.reduceLT];have hul:∀n,kl (Yh (lW x)) (.loc n)= .unused:=Yn _;rw[Ox];refine⟨_,_,(Qq (fun l=>decide (l= .loc 1000))).trans (YX (kX (lW x)) [(2,.ptr (.loc 2) 1 0 0),(4,.ptr (.loc 4) 1 0 0)]
   [(.loc 2,⟨1,[[.nil0]]⟩),(.loc 4,⟨1,[[.sl (.loc 1000) 5 0 (lW x).length]]⟩),(.loc 1000,⟨5,aB ((lW x).map Node.iv)⟩)] [] ?_ ?_ ?_ ?_),?_⟩
  ·intro l sz xs h;obtain⟨i,y,h1,h2,rfl,rfl,rfl⟩:=acS h;have:=W6 h1 h2;refine⟨?_,by simp[KL,Lb.fresh],XD _⟩;have e:∀n,KL i≠ .loc n:=fun n=>(by simp[KL]);unfold O6;simp only[bD,e,fH,this,aa0];congr 2
   conv=>rhs;rw[←nn (aB (y.kids.map xX))]
   refine dh fun cs bV=> ?_;have hn:S0 (fun l=>decide (l= .loc 1000)) (KL i)=id:=(by funext z;simp[S0,e]);rw[hn];simp
  ·simp[ah,AV.an]
  ·rintro q hq cs bV l hl;simp only[bb,b5,b7] at hq;rcases hq with rfl|rfl|rfl
   ·simp only[aW] at bV;subst bV;simp[ah,AV.an] at hl
   ·simp only[aW] at bV;subst bV;simp[ah,AV.an] at hl;subst hl;simp
   rw[bU bV] at hl;simp at hl
  ·refine⟨?_,?_,?_,by simp[dn],fun l hl=>⟨id,fun _=>rfl⟩⟩
   ·intro l hf hu;exfalso;apply hu;have h1:=Xj (lW x) hf;have h2:kX (lW x) l=none:=by
     cases h3:kX (lW x) l with
     |none=>rfl
     |some q=>
     obtain⟨i,y,_,_,rfl,_⟩:=acS (sz:=q.1) (xs:=q.2) h3;simp[KL,Lb.fresh] at hf
    have e:∀n,l≠ .loc n:=fun n h=>(by subst h;simp[Lb.fresh] at hf);simp[Pz,h2,O6,bD,e,h1]
   ·simp[k_,dn,bJ,put,Py]
   refine⟨?_,?_,?_,trivial⟩
   ·simp[dn,Pz,acm,O6,ae,Ol,Py,S0,dO,bu,bJ]
   ·simp[dn,Pz,acm,O6,ae,Ol,Py,S0,dO,bu,bJ]
   have:=adv (lW x);simp only[dn,dy];unfold Pz;simp only[acm];unfold O6;simp only[ae,Lb.loc.injEq,Nat.reduceEqDiff,eT,fH,this]
  rw[Cf];simp only[↓aX,mX,reduceCtorEq,Nat.reduceEqDiff,Nat.reduceLT,Nat.reduceLeDiff,Nat.reduceAdd,Nat.reduceMul,Int.reduceToNat,Int.reduceLE,Int.reduceLT,cF,bW];refine⟨5,(lW x).map Node.iv,0,(lW x).length,[.sl (.loc 1000) 5 0 (lW x).length],rfl,rfl,rfl,by simp,by simp,acH _,?_⟩;simp only[↓aX,mX,reduceCtorEq,Nat.reduceEqDiff,Nat.reduceLT,Nat.reduceLeDiff,Nat.reduceAdd,Nat.reduceMul,Int.reduceToNat,Int.reduceLE,Int.reduceLT,kq,norm,fi,Wo,hg,Doc.av,ax];simp;exact bo (by simp)
 |cons it r=>
 obtain⟨t,p⟩:=it;have hdc:t.jz+dP (r.map Prod.fst)+d.length=x.jz:=by simp only[cm,dP] at hc;omega
 have hbt:t.wt+dE (r.map Prod.fst)≤B:=by simpa only[cm,dE] using hb
 have hpd:p<d.length:=hp (t,p) (by simp);have htw:=t.gx;have MB:=iz t.attrs;have Hm:=eZ t.kids;have htc:=t.n8;have hul:∀n,kl (Yh d) (.loc n)= .unused:=Yn d;have Iu:(jV 2 (cD t.attrs)∧KB (cD t.attrs)∧(cD t.attrs).length*32≤140737488355328∧0<32∧0<2):=⟨rq _,nW _,by rw[bp];omega,by decide,by decide⟩;simp only[cG,show decide (((r.length+1:Nat):Int)>0)=true by simp,↓aX,mX,reduceCtorEq,Nat.reduceEqDiff,Nat.reduceLT,Nat.reduceLeDiff,Nat.reduceAdd,Nat.reduceMul,Int.reduceToNat,Int.reduceLE,Int.reduceLT,Nat.zero_lt_succ,adu,afL,ax,hul];refine⟨rfl,?_⟩;rw[bf Iu];simp only[↓aX,mX,reduceCtorEq,Nat.reduceEqDiff,Nat.reduceLT,Nat.reduceLeDiff,Nat.reduceAdd,Nat.reduceMul,Int.reduceToNat,Int.reduceLE,Int.reduceLT,hul];rw[aaV (sz:=5) (d:=42) (cs:=[.bool t.text,.str t.s,.list (cD t.attrs),.int .i64 p,.nil0]) (by simp[fg,AV.cells,AV.sI,AV.one]) (by simp[ae,hul]) rfl (by decide)];simp only[↓aX,mX,reduceCtorEq,Nat.reduceEqDiff,Nat.reduceLT,Nat.reduceLeDiff,Nat.reduceAdd,Nat.reduceMul,Int.reduceToNat,Int.reduceLE,Int.reduceLT,hul];rw[afJ (sz:=5) (b:=80) (d:=43) (l:= .loc 1000) (l2:= .loc 42) (els:=Ym d) (cs:=[.bool t.text,.str t.s,.list (cD t.attrs),.int .i64 p,.nil0]) (by simp[ae]) (XZ d) (by simp[ae]) (by intro y hy;simp only[bb,b5,b7] at hy;rcases hy with rfl|rfl|rfl|rfl|rfl<;>rfl) (by omega) (by decide) (by simp[Lb.app,Lb.fresh]) (by simp[Lb.app,Lb.fresh,ae,hul])];simp only[↓aX,mX,reduceCtorEq,Nat.reduceEqDiff,Nat.reduceLT,Nat.reduceLeDiff,Nat.reduceAdd,Nat.reduceMul,Int.reduceToNat,Int.reduceLE,Int.reduceLT,hul];obtain⟨d2,Mx⟩:∃d2,d2=Xd (d++[⟨t.text,t.s,t.attrs,p,[]⟩]) p d.length:=⟨_,rfl⟩;have II:d2.length=d.length+1:=by rw[Mx,ZW];simp
 have wB:whole d2 (t.kids.map (fun k=>(k,(d.length:Int)))++r)=lW x:=by rw[Mx,←ace d t p r hpd (fun y hy=>hp y (by simp[hy]))];exact hw
 have hmf:(t.kids.map fun k=>(k,(d.length:Int))).map Prod.fst=t.kids:=by rw[jQ,show(Prod.fst∘fun k:Tree=>(k,(d.length:Int)))=id from rfl,nn]
 have B1:∀y∈t.kids.map (fun k=>(k,(d.length:Int)))++r,y.2<(d2.length:Int):=by
  intro y hy;rcases aY.1 hy with hy|hy
  ·obtain⟨k,_,rfl⟩:=cO.1 hy;simp only;omega
  have:=hp y (by simp[hy]);omega
 have MH:d2.length+dP ((t.kids.map (fun k=>(k,(d.length:Int)))++r).map Prod.fst)=x.jz:=by rw[eV,hmf,lU];omega
 have nL:dE ((t.kids.map (fun k=>(k,(d.length:Int)))++r).map Prod.fst)≤B:=by rw[eV,hmf,kn];omega
 have FA:∀y∈d2,y.kids.length≤d2.length:=by
  rw[II,Mx];refine abq ?_;intro y hy;rcases aY.1 hy with hy|hy
  ·exact K2 y hy
  simp only[aW] at hy;subst hy;simp
 have Jt:=eZ (r.map Prod.fst);rw[ax] at Jt;cases KY:decide (p≥0) with
 |false=>
  have aet:¬0≤p:=pt KY;simp only[↓aX,mX,reduceCtorEq,Nat.reduceEqDiff,Nat.reduceLT,Nat.reduceLeDiff,Nat.reduceAdd,Nat.reduceMul,Int.reduceToNat,Int.reduceLE,Int.reduceLT,hul,bF];refine⟨by rintro l (rfl|rfl)<;>simp[Lb.iQ],?_⟩;refine pe (σ:={j:Nat // j≤t.kids.length}) (fun _=>mdK d2++[.loc 8]) (fun _ _=>false)
   (fun j=>[(2,.ptr (.loc 2) 1 0 0),(4,.ptr (.loc 4) 1 0 0),(5,.sl (.loc 1001) 5 0 (r.length+1)),(7,.int .i64 d.length),(8,.sl (.loc 8) 5 0 j.1),(66,.list (dq t.kids)),(67,.int .i64 t.kids.length),(68,.int .i64 j.1)])
   (fun j=>YK d2 ((t,p)::r)++[(.loc 8,⟨5,aB (((t.kids.take j.1).map fun k=>(k,(d.length:Int))).map VI)⟩)]) (fun j=>t.kids.length - j.1) ⟨0,gS _⟩ (fun _=>by rw[eV,Z3];rfl) (fun j=>by simp[ah,AV.an,mdK]) (fun j=>aa2 d2 _ _) ⟨[(.loc 1000,.loc 43)],?_⟩ ?_
  ·refine WT ?_ ?_ (X8 (Xk ?_ ?_ ?_ ?_ ?_) ⟨?_,trivial⟩) (Xf _) ?_ ?_
   ·intro l hf;have:=Xj d hf;have Vi:∀i,l≠ .nest (.loc 1000) i 4:=fun i e=>(by subst e;simp[Lb.fresh] at hf);cases l<;>simp_all[Lb.fresh,ae]
   ·simp[k_,dn,bJ,put,bF,KL]
   ·simp[dn,ae,KL]
   ·simp[dn,ae,KL,II]
   ·rw[XH _ _ (fun i y _ _=>by simp[dn,KL])];have:Ym d2=Ym d++[[.bool t.text,.str t.s,.list (cD t.attrs),.int .i64 p,.nil0]]:=by
     rw[Mx,Xd,a_ aet];simp[Ym,qv,X9,XY]
    simp[dn,ae,this]
   ·simp[dn,ae,KL,aB,VI,IV.cells,IV.dQ]
   ·intro i y h1 h2;rw[Mx,Xd,a_ aet] at h1;have h3:d[i]?=some y:=by
     by_cases hi:i<d.length
     ·rwa[bB hi] at h1
     rw[b_ (by omega)] at h1;cases hq:i - d.length with
     |zero=>rw[hq] at h1;simp at h1;subst h1;simp at h2
     |succ n=>rw[hq] at h1;simp at h1
    have:=W6 h3 h2;simp[dn,KL,ae] at this ⊢;exact this
   ·simp[dn,ae,KL,aB,dO]
   ·intro l hl;exact ais (Xy hl)
   exact fun a ha b hb=>ahC (Xy ha) (Xy hb)
  rintro⟨j,hj⟩;have Z4:∀n,kl (Yh d2) (.loc n)= .unused:=Yn _;rw[Cf];have hH:kl (YK d2 ((t,p)::r)++[(.loc 8,⟨5,aB (((t.kids.take j).map fun k=>(k,(d.length:Int))).map VI)⟩)]) =
    bD (kl (YK d2 ((t,p)::r))) (.loc 8) (.live ⟨5,aB (((t.kids.take j).map fun k=>(k,(d.length:Int))).map VI)⟩):=aa1 _ _ _
  rw[hH];have zk:(((t.kids.take j).map fun k=>(k,(d.length:Int))).map VI).length=j:=by rw[ax,ax,cT];omega
  simp only[↓aX,mX,reduceCtorEq,Nat.reduceEqDiff,Nat.reduceLT,Nat.reduceLeDiff,Nat.reduceAdd,Nat.reduceMul,Int.reduceToNat,Int.reduceLE,Int.reduceLT,YK,List.cons_append,List.nil_append,cF,bW,bF];by_cases bI:j<t.kids.length
  ·rw[show decide ((j:Int)<(t.kids.length:Int))=true by simpa using bI];obtain⟨k,hk⟩:∃k,t.kids[j]?=some k:=⟨_,aC bI⟩;have hw:IntKind.i64.wrap ((j:Int)+1)=((j+1:Nat):Int):=wrap64 (by omega) (by omega);have zB:((t.kids.take (j+1)).map fun k=>(k,(d.length:Int))).map VI=((t.kids.take j).map fun k=>(k,(d.length:Int))).map VI++[VI (k,(d.length:Int))]:=(by rw[fa,hk];simp);simp only[↓aX,mX,reduceCtorEq,Nat.reduceEqDiff,Nat.reduceLT,Nat.reduceLeDiff,Nat.reduceAdd,Nat.reduceMul,Int.reduceToNat,Int.reduceLE,Int.reduceLT,iy,hk,lT,Tree.cJ,Tree.cs,Z4];rw[qg 5 80 77 8 (((t.kids.take j).map fun k=>(k,(d.length:Int))).map VI) (.agg [.bool k.text,.str k.s,.list (cD k.attrs),.list (dq k.kids),.int .i64 d.length]) (by simp[ae]) zk rfl (by simp[IV.cells]) (by omega) (by decide) (by decide) (by simp[ae,Z4])];simp only[↓aX,mX,reduceCtorEq,Nat.reduceEqDiff,Nat.reduceLT,Nat.reduceLeDiff,Nat.reduceAdd,Nat.reduceMul,Int.reduceToNat,Int.reduceLE,Int.reduceLT,hw];refine⟨⟨j+1,bI⟩,by simp only;omega,[(.loc 8,.loc 77)],?_⟩;show WU _ _ _ (YK d2 ((t,p)::r)++[(.loc 8,_)]) _ _ _;refine WT ?_ ?_ (X8 (Xk ?_ ?_ ?_ ?_ ?_) ⟨?_,trivial⟩) (Xf _) ?_ ?_
   ·intro l hf;have:=Xj d2 hf;cases l<;>simp_all[Lb.fresh,ae]
   ·simp[k_,dn,bJ,put,bF,KL]
   ·simp[dn,ae,KL]
   ·simp[dn,ae,KL]
   ·rw[XH _ _ (fun i y _ _=>by simp[dn,KL])];simp[dn,ae]
   ·simp[dn,ae,aB,VI,IV.cells,IV.dQ]
   ·intro i y h1 h2;have:=W6 h1 h2;simp[dn,KL,ae] at this ⊢;exact this
   ·simp only[zB,dy];simp[dn,ae,VI]
   ·intro l hl;rcases aY.1 hl with hl|hl
    ·rcases Vq hl with rfl|rfl|rfl|rfl|⟨i,rfl⟩<;>simp[KL,Lb.fresh,dn]
    simp only[aW] at hl;subst hl;simp[KL,Lb.fresh,dn]
   intro a ha b hb;have pQ:a= .loc 2∨a= .loc 4∨a= .loc 1000∨a= .loc 1001∨a= .loc 8∨∃i,a=KL i:=by
    rcases aY.1 ha with h|h
    ·rcases Vq h with h|h|h|h|h<;>simp[h]
    simp only[aW] at h;simp[h]
   have zC:b= .loc 2∨b= .loc 4∨b= .loc 1000∨b= .loc 1001∨b= .loc 8∨∃i,b=KL i:=by
    rcases aY.1 hb with h|h
    ·rcases Vq h with h|h|h|h|h<;>simp[h]
    simp only[aW] at h;simp[h]
   rcases pQ with rfl|rfl|rfl|rfl|rfl|⟨i,rfl⟩<;>rcases zC with rfl|rfl|rfl|rfl|rfl|⟨j,rfl⟩<;>simp[KL,dn]
  have aeu:j=t.kids.length:=by omega
  subst aeu;rw[show decide ((t.kids.length:Int)<(t.kids.length:Int))=false by simp];have qE:ya (.int .i64 1) (r.length+1)=some 1:=rA .i64 1 _ (by omega);simp only[↓aX,mX,reduceCtorEq,Nat.reduceEqDiff,Nat.reduceLT,Nat.reduceLeDiff,Nat.reduceAdd,Nat.reduceMul,Int.reduceToNat,Int.reduceLE,Int.reduceLT,Cs,nB,Ck,Cl,qE,cu,bT,jf,ea,nc];rw[Z2 (sz:=5) (b:=80) (d:=82) (l:= .loc 8) (l2:= .loc 1001) (els:=aB ((t.kids.map fun k=>(k,(d.length:Int))).map VI)) (els2:=aB (VI (t,p)::r.map VI)) (xs:=r.map VI) (by simp[ae]) (by simp[aB]) (by simp[ae])
   (by simp[aB];omega) (by simp[aB];exact bo (by simp)) (ack r) (by simp) (by omega) (by decide) (by simp[Lb.app,Lb.fresh]) (by simp[Lb.app,Lb.fresh,ae,Z4])]
  simp only[↓aX,mX,reduceCtorEq,Nat.reduceEqDiff,Nat.reduceLT,Nat.reduceLeDiff,Nat.reduceAdd,Nat.reduceMul,Int.reduceToNat,Int.reduceLE,Int.reduceLT];refine⟨{d:=d2,l:=(t.kids.map fun k=>(k,(d.length:Int)))++r,hw:=wB,hp:=B1,hc:=MH,hb:=nL,hk:=FA},?_,[(.loc 1001,.loc 82)],?_⟩
  ·simp only[eV,jQ,lU,cm,dP];rw[show(Prod.fst∘fun k:Tree=>(k,(d.length:Int)))=id from rfl,nn];omega
  show WU _ _ _ (YK d2 ((t.kids.map fun k=>(k,(d.length:Int)))++r)) _ _ _;refine WT ?_ ?_ (Xk ?_ ?_ ?_ ?_ ?_) (X3 _) ?_ ?_
  ·intro l hf;have:=Xj d2 hf;cases l<;>simp_all[Lb.fresh,ae]
  ·simp[k_,dn,bJ,put,KL]
  ·simp[dn,ae,KL]
  ·simp[dn,ae,KL]
  ·rw[XH _ _ (fun i y _ _=>by simp[dn,KL])];simp[dn,ae]
  ·simp[dn,ae,aB]
  ·intro i y h1 h2;have:=W6 h1 h2;simp[dn,KL,ae] at this ⊢;exact this
  ·intro l hl;rcases Vq hl with rfl|rfl|rfl|rfl|⟨i,rfl⟩<;>simp[KL,Lb.fresh,dn]
  intro a ha b hb;rcases Vq ha with rfl|rfl|rfl|rfl|⟨i,rfl⟩<;>rcases Vq hb with rfl|rfl|rfl|rfl|⟨j,rfl⟩<;>simp[KL,dn]
 |true=>
 have aet:=oh KY;obtain⟨q,rfl⟩:=mY aet;have TF:q<d.length:=by omega
 obtain⟨y,hy⟩:∃y,d[q]?=some y:=⟨_,aC TF⟩;have wX:q<d.length+1:=by omega
 have agP:d2=List.set (d++[(⟨t.text,t.s,t.attrs,(q:Int),[]⟩:Node)]) q {y with kids:=y.kids++[(d.length:Int)]}:=by
  rw[Mx,Xd,bf aet,a7,bB TF,hy]
 have aaG:∀new,(Ym d++[new])[q]?=some [.bool y.text,.str y.s,.list (cD y.attrs),.int .i64 y.parent,XY q y.kids]:=fun new=>by
  rw[bB (by rw[XZ];exact TF),X0,hy];rfl
 have agQ:dO (dn [(.loc 1000,.loc 43),(KL q,.loc 61)]) ⟨5,Ym d2⟩=⟨5,List.set (Ym d++[[.bool t.text,.str t.s,.list (cD t.attrs),.int .i64 q,.nil0]]) q [.bool y.text,.str y.s,.list (cD y.attrs),.int .i64 y.parent,.sl (.loc 61) 1 0 (y.kids.length+1)]⟩:=by
  simp only[dO,Row.mk.injEq,dK];refine fe fun i=> ?_;rw[cn,X0,agP,gT,gT];by_cases e:q=i
  ·subst e;simp only[eT,cy,XZ,cG,fE];rw[bf (by omega),bf (by omega)];simp[X9,XY,bu,bJ,dn,KL]
  rw[a_ e,a_ e];have e':¬i=q:=fun h=>e h.symm;by_cases hi:i<d.length
  ·rw[bB hi,bB (by rw[XZ];exact hi),X0];cases d[i]? with
   |none=>rfl
   |some z=>
   simp only[bT,di,X9,XY];split<;>simp[bu,bJ,dn,KL,e']
  rw[b_ (by omega),b_ (by rw[XZ];omega),XZ];cases i - d.length with
  |zero=>simp[X9,XY,bu,bJ]
  |succ n=>simp
 have ai1:=K2 y (aV hy);by_cases FP:y.kids=[]
 ·have hkc:XY q y.kids= .nil0:=by simp[XY,FP]
  rw[hkc] at aaG;simp only[↓aX,mX,reduceCtorEq,Nat.reduceEqDiff,Nat.reduceLT,Nat.reduceLeDiff,Nat.reduceAdd,Nat.reduceMul,Int.reduceToNat,Int.reduceLE,Int.reduceLT,hul,wX,aaG];refine⟨by rintro l (rfl|rfl)<;>simp[Lb.iQ],rfl,?_⟩;rw[Xp 1 8 61 [.int .i64 d.length] (by simp[jV,IV.cells]) (by simp[Flat,IV.cells]) (by simp) (by decide) (by simp[ae,hul])];simp only[↓aX,mX,reduceCtorEq,Nat.reduceEqDiff,Nat.reduceLT,Nat.reduceLeDiff,Nat.reduceAdd,Nat.reduceMul,Int.reduceToNat,Int.reduceLE,Int.reduceLT,hul,wX,aaG,bF];rw[FP] at agQ;refine pe (σ:={j:Nat // j≤t.kids.length}) (fun _=>mdK d2++[.loc 8]) (fun _ _=>false)
   (fun j=>[(2,.ptr (.loc 2) 1 0 0),(4,.ptr (.loc 4) 1 0 0),(5,.sl (.loc 1001) 5 0 (r.length+1)),(7,.int .i64 d.length),(8,.sl (.loc 8) 5 0 j.1),(66,.list (dq t.kids)),(67,.int .i64 t.kids.length),(68,.int .i64 j.1)])
   (fun j=>YK d2 ((t,(q:Int))::r)++[(.loc 8,⟨5,aB (((t.kids.take j.1).map fun k=>(k,(d.length:Int))).map VI)⟩)]) (fun j=>t.kids.length - j.1) ⟨0,gS _⟩ (fun _=>by rw[eV,Z3];rfl) (fun j=>by simp[ah,AV.an,mdK]) (fun j=>aa2 d2 _ _) ⟨[(.loc 1000,.loc 43),(KL q,.loc 61)],?_⟩ ?_
  ·refine WT ?_ ?_ (X8 (Xk ?_ ?_ ?_ ?_ ?_) ⟨?_,trivial⟩) (Xf _) ?_ ?_
   ·intro l hf;have:=Xj d hf;have Vi:∀i,l≠ .nest (.loc 1000) i 4:=fun i e=>(by subst e;simp[Lb.fresh] at hf);cases l<;>simp_all[Lb.fresh,ae]
   ·simp[k_,dn,bJ,put,bF,KL]
   ·simp[dn,ae,KL]
   ·simp[dn,ae,KL,II]
   ·rw[agQ];simp[dn,ae]
   ·simp[dn,ae,KL,aB,VI,IV.cells,IV.dQ]
   ·intro i z h1 h2;rw[agP,gT] at h1;by_cases e:q=i
    ·subst e;rw[bf rfl,bf (by simp;omega)] at h1;simp only[di] at h1;subst h1;simp[dn,KL,ae,aa0,aB,xX];simp[FP,IV.cells,IV.dQ]
    rw[a_ e] at h1;have h3:d[i]?=some z:=by
     by_cases hi:i<d.length
     ·rwa[bB hi] at h1
     rw[b_ (by omega)] at h1;cases hq:i - d.length with
     |zero=>rw[hq] at h1;simp at h1;subst h1;simp at h2
     |succ n=>rw[hq] at h1;simp at h1
    have:=W6 h3 h2;have e':¬i=q:=fun h=>e h.symm;simp[dn,KL,ae,e,e'] at this ⊢;exact this
   ·simp[dn,ae,KL,aB,dO]
   ·intro l hl;exact frq (Xy hl)
   exact fun a ha b hb=>ahD (Xy ha) (Xy hb)
  rintro⟨j,hj⟩;have Z4:∀n,kl (Yh d2) (.loc n)= .unused:=Yn _;rw[Cf];have hH:kl (YK d2 ((t,(q:Int))::r)++[(.loc 8,⟨5,aB (((t.kids.take j).map fun k=>(k,(d.length:Int))).map VI)⟩)]) =
    bD (kl (YK d2 ((t,(q:Int))::r))) (.loc 8) (.live ⟨5,aB (((t.kids.take j).map fun k=>(k,(d.length:Int))).map VI)⟩):=aa1 _ _ _
  rw[hH];have zk:(((t.kids.take j).map fun k=>(k,(d.length:Int))).map VI).length=j:=by rw[ax,ax,cT];omega
  simp only[↓aX,mX,reduceCtorEq,Nat.reduceEqDiff,Nat.reduceLT,Nat.reduceLeDiff,Nat.reduceAdd,Nat.reduceMul,Int.reduceToNat,Int.reduceLE,Int.reduceLT,YK,List.cons_append,List.nil_append,cF,bW,bF];by_cases bI:j<t.kids.length
  ·rw[show decide ((j:Int)<(t.kids.length:Int))=true by simpa using bI];obtain⟨k,hk⟩:∃k,t.kids[j]?=some k:=⟨_,aC bI⟩;have hw:IntKind.i64.wrap ((j:Int)+1)=((j+1:Nat):Int):=wrap64 (by omega) (by omega);have zB:((t.kids.take (j+1)).map fun k=>(k,(d.length:Int))).map VI=((t.kids.take j).map fun k=>(k,(d.length:Int))).map VI++[VI (k,(d.length:Int))]:=(by rw[fa,hk];simp);simp only[↓aX,mX,reduceCtorEq,Nat.reduceEqDiff,Nat.reduceLT,Nat.reduceLeDiff,Nat.reduceAdd,Nat.reduceMul,Int.reduceToNat,Int.reduceLE,Int.reduceLT,iy,hk,lT,Tree.cJ,Tree.cs,Z4];rw[qg 5 80 77 8 (((t.kids.take j).map fun k=>(k,(d.length:Int))).map VI) (.agg [.bool k.text,.str k.s,.list (cD k.attrs),.list (dq k.kids),.int .i64 d.length]) (by simp[ae]) zk rfl (by simp[IV.cells]) (by omega) (by decide) (by decide) (by simp[ae,Z4])];simp only[↓aX,mX,reduceCtorEq,Nat.reduceEqDiff,Nat.reduceLT,Nat.reduceLeDiff,Nat.reduceAdd,Nat.reduceMul,Int.reduceToNat,Int.reduceLE,Int.reduceLT,hw];refine⟨⟨j+1,bI⟩,by simp only;omega,[(.loc 8,.loc 77)],?_⟩;show WU _ _ _ (YK d2 ((t,(q:Int))::r)++[(.loc 8,_)]) _ _ _;refine WT ?_ ?_ (X8 (Xk ?_ ?_ ?_ ?_ ?_) ⟨?_,trivial⟩) (Xf _) ?_ ?_
   ·intro l hf;have:=Xj d2 hf;cases l<;>simp_all[Lb.fresh,ae]
   ·simp[k_,dn,bJ,put,bF,KL]
   ·simp[dn,ae,KL]
   ·simp[dn,ae,KL]
   ·rw[XH _ _ (fun i y _ _=>by simp[dn,KL])];simp[dn,ae]
   ·simp[dn,ae,aB,VI,IV.cells,IV.dQ]
   ·intro i y h1 h2;have:=W6 h1 h2;simp[dn,KL,ae] at this ⊢;exact this
   ·simp only[zB,dy];simp[dn,ae,VI]
   ·intro l hl;rcases aY.1 hl with hl|hl
    ·rcases Vq hl with rfl|rfl|rfl|rfl|⟨i,rfl⟩<;>simp[KL,Lb.fresh,dn]
    simp only[aW] at hl;subst hl;simp[KL,Lb.fresh,dn]
   intro a ha b hb;have pQ:a= .loc 2∨a= .loc 4∨a= .loc 1000∨a= .loc 1001∨a= .loc 8∨∃i,a=KL i:=by
    rcases aY.1 ha with h|h
    ·rcases Vq h with h|h|h|h|h<;>simp[h]
    simp only[aW] at h;simp[h]
   have zC:b= .loc 2∨b= .loc 4∨b= .loc 1000∨b= .loc 1001∨b= .loc 8∨∃i,b=KL i:=by
    rcases aY.1 hb with h|h
    ·rcases Vq h with h|h|h|h|h<;>simp[h]
    simp only[aW] at h;simp[h]
   rcases pQ with rfl|rfl|rfl|rfl|rfl|⟨i,rfl⟩<;>rcases zC with rfl|rfl|rfl|rfl|rfl|⟨j,rfl⟩<;>simp[KL,dn]
  have aeu:j=t.kids.length:=by omega
  subst aeu;rw[show decide ((t.kids.length:Int)<(t.kids.length:Int))=false by simp];have qE:ya (.int .i64 1) (r.length+1)=some 1:=rA .i64 1 _ (by omega);simp only[↓aX,mX,reduceCtorEq,Nat.reduceEqDiff,Nat.reduceLT,Nat.reduceLeDiff,Nat.reduceAdd,Nat.reduceMul,Int.reduceToNat,Int.reduceLE,Int.reduceLT,Cs,nB,Ck,Cl,qE,cu,bT,jf,ea,nc];rw[Z2 (sz:=5) (b:=80) (d:=82) (l:= .loc 8) (l2:= .loc 1001) (els:=aB ((t.kids.map fun k=>(k,(d.length:Int))).map VI)) (els2:=aB (VI (t,(q:Int))::r.map VI)) (xs:=r.map VI) (by simp[ae]) (by simp[aB]) (by simp[ae])
   (by simp[aB];omega) (by simp[aB];exact bo (by simp)) (ack r) (by simp) (by omega) (by decide) (by simp[Lb.app,Lb.fresh]) (by simp[Lb.app,Lb.fresh,ae,Z4])]
  simp only[↓aX,mX,reduceCtorEq,Nat.reduceEqDiff,Nat.reduceLT,Nat.reduceLeDiff,Nat.reduceAdd,Nat.reduceMul,Int.reduceToNat,Int.reduceLE,Int.reduceLT];refine⟨{d:=d2,l:=(t.kids.map fun k=>(k,(d.length:Int)))++r,hw:=wB,hp:=B1,hc:=MH,hb:=nL,hk:=FA},?_,[(.loc 1001,.loc 82)],?_⟩
  ·simp only[eV,jQ,lU,cm,dP];rw[show(Prod.fst∘fun k:Tree=>(k,(d.length:Int)))=id from rfl,nn];omega
  show WU _ _ _ (YK d2 ((t.kids.map fun k=>(k,(d.length:Int)))++r)) _ _ _;refine WT ?_ ?_ (Xk ?_ ?_ ?_ ?_ ?_) (X3 _) ?_ ?_
  ·intro l hf;have:=Xj d2 hf;cases l<;>simp_all[Lb.fresh,ae]
  ·simp[k_,dn,bJ,put,KL]
  ·simp[dn,ae,KL]
  ·simp[dn,ae,KL]
  ·rw[XH _ _ (fun i y _ _=>by simp[dn,KL])];simp[dn,ae]
  ·simp[dn,ae,aB]
  ·intro i y h1 h2;have:=W6 h1 h2;simp[dn,KL,ae] at this ⊢;exact this
  ·intro l hl;rcases Vq hl with rfl|rfl|rfl|rfl|⟨i,rfl⟩<;>simp[KL,Lb.fresh,dn]
  intro a ha b hb;rcases Vq ha with rfl|rfl|rfl|rfl|⟨i,rfl⟩<;>rcases Vq hb with rfl|rfl|rfl|rfl|⟨j,rfl⟩<;>simp[KL,dn]
 have hkc:XY q y.kids= .sl (KL q) 1 0 y.kids.length:=by simp[XY,FP]
 rw[hkc] at aaG;have hkq:=W6 hy FP;simp only[↓aX,mX,reduceCtorEq,Nat.reduceEqDiff,Nat.reduceLT,Nat.reduceLeDiff,Nat.reduceAdd,Nat.reduceMul,Int.reduceToNat,Int.reduceLE,Int.reduceLT,hul,wX,aaG];refine⟨by rintro l (rfl|rfl)<;>simp[Lb.iQ],rfl,?_⟩;rw[ux (sz:=1) (b:=8) (d:=61) (l:=KL q) (els:=aB (y.kids.map xX)) (x:= .int .i64 d.length) (by simp[ae,KL];simpa[KL,aa0] using hkq) (by simp[aB]) rfl (by simp[IV.cells]) (by omega) (by decide) (by simp[Lb.app,Lb.fresh,KL]) (by simp[Lb.app,Lb.fresh,KL,ae,hul])];simp only[↓aX,mX,reduceCtorEq,Nat.reduceEqDiff,Nat.reduceLT,Nat.reduceLeDiff,Nat.reduceAdd,Nat.reduceMul,Int.reduceToNat,Int.reduceLE,Int.reduceLT,hul,wX,aaG,bF,KL];refine⟨by rintro l (rfl|rfl)<;>simp[Lb.iQ],?_⟩;refine pe (σ:={j:Nat // j≤t.kids.length}) (fun _=>mdK d2++[.loc 8]) (fun _ _=>false)
  (fun j=>[(2,.ptr (.loc 2) 1 0 0),(4,.ptr (.loc 4) 1 0 0),(5,.sl (.loc 1001) 5 0 (r.length+1)),(7,.int .i64 d.length),(8,.sl (.loc 8) 5 0 j.1),(66,.list (dq t.kids)),(67,.int .i64 t.kids.length),(68,.int .i64 j.1)])
  (fun j=>YK d2 ((t,(q:Int))::r)++[(.loc 8,⟨5,aB (((t.kids.take j.1).map fun k=>(k,(d.length:Int))).map VI)⟩)]) (fun j=>t.kids.length - j.1) ⟨0,gS _⟩ (fun _=>by rw[eV,Z3];rfl) (fun j=>by simp[ah,AV.an,mdK]) (fun j=>aa2 d2 _ _) ⟨[(.loc 1000,.loc 43),(KL q,.loc 61)],?_⟩ ?_
 ·refine WT ?_ ?_ (X8 (Xk ?_ ?_ ?_ ?_ ?_) ⟨?_,trivial⟩) (Xf _) ?_ ?_
  ·intro l hf;have:=Xj d hf;have Vi:∀i,l≠ .nest (.loc 1000) i 4:=fun i e=>(by subst e;simp[Lb.fresh] at hf);cases l<;>simp_all[Lb.fresh,ae]
  ·simp[k_,dn,bJ,put,bF,KL]
  ·simp[dn,ae,KL]
  ·simp[dn,ae,KL,II]
  ·rw[agQ];simp[dn,ae]
  ·simp[dn,ae,KL,aB,VI,IV.cells,IV.dQ]
  ·intro i z h1 h2;rw[agP,gT] at h1;by_cases e:q=i
   ·subst e;rw[bf rfl,bf (by simp;omega)] at h1;simp only[di] at h1;subst h1;simp[dn,KL,ae,aa0,aB,xX]
   rw[a_ e] at h1;have h3:d[i]?=some z:=by
    by_cases hi:i<d.length
    ·rwa[bB hi] at h1
    rw[b_ (by omega)] at h1;cases hq:i - d.length with
    |zero=>rw[hq] at h1;simp at h1;subst h1;simp at h2
    |succ n=>rw[hq] at h1;simp at h1
   have:=W6 h3 h2;have e':¬i=q:=fun h=>e h.symm;simp[dn,KL,ae,e,e'] at this ⊢;exact this
  ·simp[dn,ae,KL,aB,dO]
  ·intro l hl;exact frq (Xy hl)
  exact fun a ha b hb=>ahD (Xy ha) (Xy hb)
 rintro⟨j,hj⟩;have Z4:∀n,kl (Yh d2) (.loc n)= .unused:=Yn _;rw[Cf];have hH:kl (YK d2 ((t,(q:Int))::r)++[(.loc 8,⟨5,aB (((t.kids.take j).map fun k=>(k,(d.length:Int))).map VI)⟩)]) =
   bD (kl (YK d2 ((t,(q:Int))::r))) (.loc 8) (.live ⟨5,aB (((t.kids.take j).map fun k=>(k,(d.length:Int))).map VI)⟩):=aa1 _ _ _
 rw[hH];have zk:(((t.kids.take j).map fun k=>(k,(d.length:Int))).map VI).length=j:=by rw[ax,ax,cT];omega
 simp only[↓aX,mX,reduceCtorEq,Nat.reduceEqDiff,Nat.reduceLT,Nat.reduceLeDiff,Nat.reduceAdd,Nat.reduceMul,Int.reduceToNat,Int.reduceLE,Int.reduceLT,YK,List.cons_append,List.nil_append,cF,bW,bF];by_cases bI:j<t.kids.length
 ·rw[show decide ((j:Int)<(t.kids.length:Int))=true by simpa using bI];obtain⟨k,hk⟩:∃k,t.kids[j]?=some k:=⟨_,aC bI⟩;have hw:IntKind.i64.wrap ((j:Int)+1)=((j+1:Nat):Int):=wrap64 (by omega) (by omega);have zB:((t.kids.take (j+1)).map fun k=>(k,(d.length:Int))).map VI=((t.kids.take j).map fun k=>(k,(d.length:Int))).map VI++[VI (k,(d.length:Int))]:=by rw[fa,hk];simp
  simp only[↓aX,mX,reduceCtorEq,Nat.reduceEqDiff,Nat.reduceLT,Nat.reduceLeDiff,Nat.reduceAdd,Nat.reduceMul,Int.reduceToNat,Int.reduceLE,Int.reduceLT,iy,hk,lT,Tree.cJ,Tree.cs,Z4];rw[qg 5 80 77 8 (((t.kids.take j).map fun k=>(k,(d.length:Int))).map VI) (.agg [.bool k.text,.str k.s,.list (cD k.attrs),.list (dq k.kids),.int .i64 d.length]) (by simp[ae]) zk rfl (by simp[IV.cells]) (by omega) (by decide) (by decide) (by simp[ae,Z4])];simp only[↓aX,mX,reduceCtorEq,Nat.reduceEqDiff,Nat.reduceLT,Nat.reduceLeDiff,Nat.reduceAdd,Nat.reduceMul,Int.reduceToNat,Int.reduceLE,Int.reduceLT,hw];refine⟨⟨j+1,bI⟩,by simp only;omega,[(.loc 8,.loc 77)],?_⟩;show WU _ _ _ (YK d2 ((t,(q:Int))::r)++[(.loc 8,_)]) _ _ _;refine WT ?_ ?_ (X8 (Xk ?_ ?_ ?_ ?_ ?_) ⟨?_,trivial⟩) (Xf _) ?_ ?_
  ·intro l hf;have:=Xj d2 hf;cases l<;>simp_all[Lb.fresh,ae]
  ·simp[k_,dn,bJ,put,bF,KL]
  ·simp[dn,ae,KL]
  ·simp[dn,ae,KL]
  ·rw[XH _ _ (fun i y _ _=>by simp[dn,KL])];simp[dn,ae]
  ·simp[dn,ae,aB,VI,IV.cells,IV.dQ]
  ·intro i y h1 h2;have:=W6 h1 h2;simp[dn,KL,ae] at this ⊢;exact this
  ·simp only[zB,dy];simp[dn,ae,VI]
  ·intro l hl;rcases aY.1 hl with hl|hl
   ·rcases Vq hl with rfl|rfl|rfl|rfl|⟨i,rfl⟩<;>simp[KL,Lb.fresh,dn]
   simp only[aW] at hl;subst hl;simp[KL,Lb.fresh,dn]
  intro a ha b hb;have pQ:a= .loc 2∨a= .loc 4∨a= .loc 1000∨a= .loc 1001∨a= .loc 8∨∃i,a=KL i:=by
   rcases aY.1 ha with h|h
   ·rcases Vq h with h|h|h|h|h<;>simp[h]
   simp only[aW] at h;simp[h]
  have zC:b= .loc 2∨b= .loc 4∨b= .loc 1000∨b= .loc 1001∨b= .loc 8∨∃i,b=KL i:=by
   rcases aY.1 hb with h|h
   ·rcases Vq h with h|h|h|h|h<;>simp[h]
   simp only[aW] at h;simp[h]
  rcases pQ with rfl|rfl|rfl|rfl|rfl|⟨i,rfl⟩<;>rcases zC with rfl|rfl|rfl|rfl|rfl|⟨j,rfl⟩<;>simp[KL,dn]
 have aeu:j=t.kids.length:=by omega
 subst aeu;rw[show decide ((t.kids.length:Int)<(t.kids.length:Int))=false by simp];have qE:ya (.int .i64 1) (r.length+1)=some 1:=rA .i64 1 _ (by omega);simp only[↓aX,mX,reduceCtorEq,Nat.reduceEqDiff,Nat.reduceLT,Nat.reduceLeDiff,Nat.reduceAdd,Nat.reduceMul,Int.reduceToNat,Int.reduceLE,Int.reduceLT,Cs,nB,Ck,Cl,qE,cu,bT,jf,ea,nc];rw[Z2 (sz:=5) (b:=80) (d:=82) (l:= .loc 8) (l2:= .loc 1001) (els:=aB ((t.kids.map fun k=>(k,(d.length:Int))).map VI)) (els2:=aB (VI (t,(q:Int))::r.map VI)) (xs:=r.map VI) (by simp[ae]) (by simp[aB]) (by simp[ae])
  (by simp[aB];omega) (by simp[aB];exact bo (by simp)) (ack r) (by simp) (by omega) (by decide) (by simp[Lb.app,Lb.fresh]) (by simp[Lb.app,Lb.fresh,ae,Z4])]
 simp only[↓aX,mX,reduceCtorEq,Nat.reduceEqDiff,Nat.reduceLT,Nat.reduceLeDiff,Nat.reduceAdd,Nat.reduceMul,Int.reduceToNat,Int.reduceLE,Int.reduceLT];refine⟨{d:=d2,l:=(t.kids.map fun k=>(k,(d.length:Int)))++r,hw:=wB,hp:=B1,hc:=MH,hb:=nL,hk:=FA},?_,[(.loc 1001,.loc 82)],?_⟩
 ·simp only[eV,jQ,lU,cm,dP];rw[show(Prod.fst∘fun k:Tree=>(k,(d.length:Int)))=id from rfl,nn];omega
 show WU _ _ _ (YK d2 ((t.kids.map fun k=>(k,(d.length:Int)))++r)) _ _ _;refine WT ?_ ?_ (Xk ?_ ?_ ?_ ?_ ?_) (X3 _) ?_ ?_
 ·intro l hf;have:=Xj d2 hf;cases l<;>simp_all[Lb.fresh,ae]
 ·simp[k_,dn,bJ,put,KL]
 ·simp[dn,ae,KL]
 ·simp[dn,ae,KL]
 ·rw[XH _ _ (fun i y _ _=>by simp[dn,KL])];simp[dn,ae]
 ·simp[dn,ae,aB]
 ·intro i y h1 h2;have:=W6 h1 h2;simp[dn,KL,ae] at this ⊢;exact this
 ·intro l hl;rcases Vq hl with rfl|rfl|rfl|rfl|⟨i,rfl⟩<;>simp[KL,Lb.fresh,dn]
 intro a ha b hb;rcases Vq ha with rfl|rfl|rfl|rfl|⟨i,rfl⟩<;>rcases Vq hb with rfl|rfl|rfl|rfl|⟨j,rfl⟩<;>simp[KL,dn]
end Go.Am
