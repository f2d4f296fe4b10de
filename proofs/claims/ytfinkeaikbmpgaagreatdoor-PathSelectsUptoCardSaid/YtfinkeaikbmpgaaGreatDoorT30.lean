import Derived.Test.YtfinkeaikbmpgaaGreatDoorT29
set_option linter.unusedSimpArgs false
set_option linter.unusedVariables false
set_option linter.unnecessarySimpa false
set_option linter.defProp false
/- A document made of a tree, by those that wait. -/
namespace Go.Am
open Go Go.RowKit
theorem BM {sz b d n:Nat} {l l2:Lb} {els:List (List AV)} {cs:List AV} {H:Hp} (hl:H l= .live ⟨sz,els⟩) (hn:els.length=n) (h2:H l2= .live ⟨sz,[cs]⟩) (fm:AV.pf cs)
  (hb:(n+1)*b≤140737488355328) (h0:0<b) (hd:l≠l.app d) (hu:H (l.app d)= .unused) :
  jA sz b d (.sl l sz 0 n) (.sl l2 sz 0 1) H=some (.sl (l.app d) sz 0 (n+1),bL (bL H l .dead) (l.app d) (.live ⟨sz,els++[cs]⟩)):=by
 unfold jA;have hs:jU sz (.sl l2 sz 0 1) H=some [cs]:=by simp[jU,h2]
 rw[hs,Option.bind_some,if_neg (by simpa using fm)];simp only[hl];rw[if_pos ⟨rfl,rfl,rfl,Nat.le_of_eq hn.symm,by simpa using hb,h0,hd,hu⟩];simp only[List.length_cons,List.length_nil,Nat.zero_add];rw[List.take_of_length_le (Nat.le_of_eq hn)]
theorem oU {sz b d n i m:Nat} {l l2:Lb} {els els2:List (List AV)} {xs:List IV} {H:Hp} (hl:H l= .live ⟨sz,els⟩) (hn:els.length=n) (h2:H l2= .live ⟨sz,els2⟩) (hi:i+m≤els2.length)
  (hx:(els2.drop i).take m=aG xs) (hf:Flat xs) (hm:xs.length=m) (hb:(n+m)*b≤140737488355328) (h0:0<b) (hd:l≠l.app d) (hu:H (l.app d)= .unused) :
  jA sz b d (.sl l sz 0 n) (.sl l2 sz i m) H=some (.sl (l.app d) sz 0 (n+m),bL (bL H l .dead) (l.app d) (.live ⟨sz,els++aG xs⟩)):=by
 have xq:(aG xs).length=m:=by rw[oh,hm]
 unfold jA;have hs:jU sz (.sl l2 sz i m) H=some (aG xs):=by simp[jU,h2,hi,hx]
 rw[hs,Option.bind_some,if_neg (by simpa using hf.one)];simp only[hl];rw[if_pos ⟨rfl,rfl,rfl,Nat.le_of_eq hn.symm,by rw[xq];exact hb,h0,hd,hu⟩,xq,List.take_of_length_le (Nat.le_of_eq hn)]
theorem za (rs:List (Lb×Row)) (l:Lb):gU rs l= .unused∨∃r,gU rs l= .live r:=by
 induction rs with
 |nil=>exact .inl rfl
 |cons p t ih=>
  obtain⟨l0,r0⟩:=p;simp only[gU,bL];split
  ·exact .inr ⟨_,rfl⟩
  ·exact ih
theorem BN {rs:List (Lb×Row)} {l:Lb} {r:Row} (h:(l,r)∈rs) (hu:∀r',(l,r')∈rs→r'=r):gU rs l= .live r:=by
 rcases za rs l with h1|⟨r',h1⟩
 ·exact absurd h1 (kc (List.mem_map.2 ⟨_,h,rfl⟩))
 ·rw[h1,hu r' (gH h1)]
theorem sv {rs:List (Lb×Row)} {l:Lb} (h:l∉rs.map Prod.fst):gU rs l= .unused:=by
 rcases za rs l with h1|⟨r,h1⟩
 ·exact h1
 ·exact absurd (List.mem_map.2 ⟨_,gH h1,rfl⟩) h
theorem uc (a b:List (Lb×Row)) (l:Lb):gU (a++b) l=match gU a l with| .unused=>gU b l|s=>s:=by
 induction a with
 |nil=>rfl
 |cons p t ih=>
  obtain⟨l0,r0⟩:=p;simp only[List.cons_append,gU,bL];split
  ·rfl
  ·exact ih
theorem jJ {ρ:Lb→Lb} {H:Hp}:∀{a b:List (Lb×Row)},jW ρ H a→jW ρ H b→jW ρ H (a++b)
 |[],b,_,h=>h
 |(l,r)::a,b,h1,h2=>⟨h1.1,jJ h1.2 h2⟩
theorem zb {ρ:Lb→Lb} {H:Hp}:∀{a:List (Lb×Row)},(∀q∈a,H (ρ q.1)= .live (bX ρ q.2))→jW ρ H a
 |[],_=>trivial
 |(l,r)::a,h=>⟨h (l,r) (by simp),zb fun q hq=>h q (by simp[hq])⟩
def KL (i:Nat):Lb:= .nest (.loc 1000) i 4
def jr (i:Nat) (ks:List Int):AV:=if ks=[] then .nil0 else .sl (KL i) 1 0 ks.length
def jK (i:Nat) (x:Node):List AV:=[.bool x.text,.str x.s,.list (eh x.attrs),.int .i64 x.parent,jr i x.kids]
def kn (d:List Node):List (List AV):=d.mapIdx jK
def qL (ks:List Int):Row:=⟨1,aG (ks.map bl)⟩
def jX (d:List Node):List (Lb×Row):=(List.range d.length).filterMap fun i=>(d[i]?).bind fun x=>if x.kids=[] then none else some (KL i,qL x.kids)
def cU (q:Tree×Int):IV:= .agg [.bool q.1.text,.str q.1.s,.list (eh q.1.attrs),.list (eY q.1.kids),.int .i64 q.2]
def kM (d:List Node) (l:List (Tree×Int)):List (Lb×Row):=[(.loc 2,⟨1,[[.nil0]]⟩),(.loc 4,⟨1,[[.sl (.loc 1000) 5 0 d.length]]⟩),(.loc 1000,⟨5,kn d⟩),(.loc 1001,⟨5,aG (l.map cU)⟩)]++jX d
theorem iy {d:List Node} {l:Lb} {r:Row}:(l,r)∈jX d↔∃i x,d[i]?=some x∧x.kids≠[]∧l=KL i∧r=qL x.kids:=by
 simp only[jX,List.mem_filterMap,List.mem_range,Option.bind_eq_some_iff];constructor
 ·rintro⟨i,hi,x,h1,h2⟩;split at h2
  ·cases h2
  ·rename_i hk;simp only[Option.some.injEq,Prod.mk.injEq] at h2;exact⟨i,x,h1,hk,h2.1.symm,h2.2.symm⟩
 ·rintro⟨i,x,h1,h2,rfl,rfl⟩;exact⟨i,(List.getElem?_eq_some_iff.1 h1).1,x,h1,by rw[if_neg h2]⟩
theorem zc {i j:Nat} (h:KL i=KL j):i=j:=by simpa[KL] using h
theorem fO {d:List Node} {i:Nat} {x:Node} (h:d[i]?=some x) (hk:x.kids≠[]):gU (jX d) (KL i)= .live (qL x.kids):=by
 refine BN (iy.2 ⟨i,x,h,hk,rfl,rfl⟩) ?_;intro r' hr;obtain⟨j,y,h1,_,h3,rfl⟩:=iy.1 hr;cases zc h3;rw[h] at h1;cases h1;rfl
theorem vz {d:List Node} {l:Lb} (h:∀i,l≠KL i):gU (jX d) l= .unused:=by
 refine sv fun hm=> ?_
 obtain⟨⟨l',r⟩,h1,rfl⟩:=List.mem_map.1 hm;obtain⟨i,x,_,_,h4,_⟩:=iy.1 h1;exact h i h4
theorem ko (d:List Node) (n:Nat):gU (jX d) (.loc n)= .unused:=vz fun i=>by simp[KL]
theorem jt (d:List Node):(kn d).length=d.length:=by simp[kn]
theorem ju (d:List Node) (i:Nat):(kn d)[i]?=d[i]?.map (jK i):=by simp[kn]
theorem wH (d:List Node):((jX d).map Prod.fst).Nodup:=by
 have:(jX d).map Prod.fst=(List.range d.length).filterMap fun i=>(d[i]?).bind fun x=>if x.kids=[] then none else some (KL i):=by
  unfold jX;rw[List.map_filterMap]
  congr 1
  funext i;cases d[i]? with
  |none=>rfl
  |some x=>simp only[Option.bind_some];split<;>rfl
 rw[this];refine List.Pairwise.filterMap _ ?_ List.nodup_range;intro i j K7 l hl l' jY e;subst e;simp only[Option.bind_eq_some_iff] at hl jY;obtain⟨x,_,h1⟩:=hl;obtain⟨y,_,h2⟩:=jY;split at h1
 ·cases h1
 ·split at h2
  ·cases h2
  ·simp only[Option.some.injEq] at h1 h2;exact K7 (zc (h1.trans h2.symm))
theorem sw {d:List Node} {l:Lb} (h:l∈(jX d).map Prod.fst):∃i,l=KL i∧i<d.length:=by
 obtain⟨⟨l',r⟩,h1,rfl⟩:=List.mem_map.1 h;obtain⟨i,x,h2,_,h4,_⟩:=iy.1 h1;exact⟨i,h4,(List.getElem?_eq_some_iff.1 h2).1⟩
theorem vA (d:List Node) (w:List (Tree×Int)):∀q∈kM d w,∀cs∈q.2.els,∀l∈ah cs,l∈(kM d w).map Prod.fst:=by
 intro q hq cs bx l hl;simp only[kM,List.mem_append,List.mem_cons,List.not_mem_nil,or_false] at hq;rcases hq with(rfl|rfl|rfl|rfl)|hq
 ·simp only[List.mem_singleton] at bx;subst bx;simp[ah,AV.ar] at hl
 ·simp only[List.mem_singleton] at bx;subst bx;simp[ah,AV.ar] at hl;subst hl;simp[kM]
 ·simp only at bx;obtain⟨i,hi⟩:=List.getElem?_of_mem bx;rw[ju,Option.map_eq_some_iff] at hi;obtain⟨x,hx,rfl⟩:=hi;unfold jK jr at hl;split at hl
  ·simp[ah,AV.ar] at hl
  ·rename_i hk;simp[ah,AV.ar] at hl;subst hl;simp only[kM,List.map_append,List.mem_append];exact .inr (List.mem_map.2 ⟨_,iy.2 ⟨i,x,hx,hk,rfl,rfl⟩,rfl⟩)
 ·rw[bY bx] at hl;simp at hl
 ·obtain⟨l0,r0⟩:=q;obtain⟨i,x,_,_,rfl,rfl⟩:=iy.1 hq;rw[bY bx] at hl;simp at hl
theorem gz (d:List Node) {l:Lb} (h:l.fresh=false):gU (jX d) l= .unused:=vz fun i e=>by subst e;simp[KL,Lb.fresh] at h
theorem ud {α β:Type} {f:α→β} {l:List α} (h:l.Nodup) (hf:∀a∈l,∀b∈l,f a=f b→a=b):(l.map f).Nodup:=by
 rw[List.Nodup,List.pairwise_map];exact List.Pairwise.imp_of_mem (fun ha hb eg e=>eg (hf _ ha _ hb e)) h
theorem fh {ls:List Lb} {ps:List (Nat×AV)} {rs:List (Lb×Row)} {env:Env} {H:Hp} {m:List (Lb×Lb)} (nf:∀l:Lb,l.fresh=false→H l= .unused) (e:iq (bq m) env ps) (r:jW (bq m) H rs)
  (Hs:ls.Nodup) (hf:∀l∈ls,l.fresh=true∧(bq m l).fresh=true) (xG:∀a∈ls,∀b∈ls,bq m a=bq m b→a=b):WU ls (fun _=>false) ps rs env H m:=
 ⟨fun l h hu=>absurd (nf l h) hu,e,r,ud Hs xG,fun l hl=>⟨fun _=>(hf l hl).2,fun h=>by rw[(hf l hl).1] at h;cases h⟩⟩
theorem gA {ρ:Lb→Lb} {H:Hp} {d:List Node} {w:List (Tree×Int)} (h2:H (ρ (.loc 2))= .live ⟨1,[[.nil0]]⟩) (h4:H (ρ (.loc 4))= .live ⟨1,[[.sl (ρ (.loc 1000)) 5 0 d.length]]⟩) (h5:H (ρ (.loc 1000))= .live (bX ρ ⟨5,kn d⟩)) (h6:H (ρ (.loc 1001))= .live ⟨5,aG (w.map cU)⟩)
  (hk:∀i x,d[i]?=some x→x.kids≠[]→H (ρ (KL i))= .live (qL x.kids)):jW ρ H (kM d w):=by
 refine⟨by rw[h2];simp[bX,bT,bQ],by rw[h4];simp[bX,bT,bQ],h5,by rw[h6,cr],zb fun q hq=> ?_⟩;obtain⟨l,r⟩:=q;obtain⟨i,x,h1,h3,rfl,rfl⟩:=iy.1 hq;simp only;rw[hk i x h1 h3,qL,cr]
theorem wI (y:IV) (r:List IV):aG (y::r)=y.cells.map IV.b7::aG r:=rfl
theorem BO (q:Tree×Int):(cU q).cells=[.bool q.1.text,.str q.1.s,.list (eh q.1.attrs),.list (eY q.1.kids),.int .i64 q.2]:=rfl
def s8 (d:List Node):List Lb:=[.loc 2,.loc 4,.loc 1000,.loc 1001]++(jX d).map Prod.fst
theorem oV (d:List Node) (w:List (Tree×Int)):(kM d w).map Prod.fst=s8 d:=by simp[s8,kM]
theorem zd (d:List Node):s8 d=[.loc 2,.loc 4,.loc 1000,.loc 1001]++(jX d).map Prod.fst:=rfl
theorem cz {d:List Node} {l:Lb} (h:l∈s8 d):l= .loc 2∨l= .loc 4∨l= .loc 1000∨l= .loc 1001∨∃i,l=KL i:=by
 rw[zd] at h;rcases List.mem_append.1 h with h|h
 ·simp at h;rcases h with h|h|h|h<;>simp[h]
 ·obtain⟨i,h1,_⟩:=sw h;exact .inr (.inr (.inr (.inr ⟨i,h1⟩)))
theorem jv (d:List Node):(s8 d).Nodup:=by
 rw[zd];refine List.nodup_append.2 ⟨by decide,wH d,?_⟩;intro a ha b hb e;subst e;obtain⟨i,rfl,_⟩:=sw hb;simp[KL] at ha
theorem gq (d:List Node):(s8 d++[Lb.loc 8]).Nodup:=by
 refine List.nodup_append.2 ⟨jv d,by simp,?_⟩;intro a ha b hb e;subst e;simp only[List.mem_singleton] at hb;rcases cz ha with h|h|h|h|⟨i,h⟩<;>(rw[hb] at h;simp[KL] at h)
theorem iz (ρ:Lb→Lb) (d:List Node) (h:∀i x,d[i]?=some x→x.kids≠[]→ρ (KL i)=KL i):bX ρ ⟨5,kn d⟩=⟨5,kn d⟩:=by
 simp only[bX,Row.mk.injEq,true_and];refine List.ext_getElem? fun i=> ?_
 rw[List.getElem?_map,ju];cases hx:d[i]? with
 |none=>rfl
 |some x=>
  simp only[Option.map_some,Option.some.injEq,jK,jr];split
  ·simp[bT,bQ]
  ·rename_i hk;simp[bT,bQ,h i x hx hk]
theorem ue (l:List (Tree×Int)):Flat (l.map cU):=ox cU (by
 intro x z hz cs;simp only[cU,IV.cells,List.mem_cons,List.not_mem_nil,or_false] at hz;rcases hz with rfl|rfl|rfl|rfl|rfl<;>simp) l
theorem sy {d:List Node} {p n:Int} {m:Nat} (h:∀y∈d,y.kids.length≤m):∀y∈gn d p n,y.kids.length≤m+1:=by
 intro y hy;unfold gn at hy;split at hy
 ·split at hy
  ·rename_i x hx;rcases List.mem_or_eq_of_mem_set hy with hy|rfl
   ·have:=h y hy;omega
   ·have:=h x (List.mem_of_getElem? hx);simp;omega
  ·have:=h y hy;omega
 ·have:=h y hy;omega
def eQ (cm:Nat):AC:=
(.seq (.au [⟨some 1,none,.box (.t 0)⟩,⟨some 2,none,.new [.nil0]⟩,⟨some 3,none,.af (.c (.int .i64 0))⟩]) (.seq (.seq (.au [⟨some 11,none,.load (some 4) (.t 1)⟩,⟨some 12,none,.call cm [(.t 11)]⟩,⟨some 13,none,.not (.t 12)⟩]) (.cond (.t 13) (.seq (.au [⟨some 14,none,.rp [.nil0] []⟩,⟨none,none,.store 1 (.t 2) (.t 14)⟩,⟨some 3,none,.af (.c (.int .i64 1))⟩]) .ret) .skip)) (.seq (.au [⟨some 4,none,.new [.nil0]⟩]) (.seq (.seq (.au [⟨some 15,none,.load (some 4) (.t 1)⟩,⟨some 16,none,(.rp [(.bool false),(.str []),.nil0,.nil0,(.int .i64 0)] [(0,(4,(.t 15))),(4,(1,(.c (.int .i64 (-1)))))])⟩,⟨some 17,none,.ga 5 [(.bool false),(.str []),.nil0,.nil0,(.int .i64 0)] [(0,(.t 16))]⟩,⟨some 5,none,.af (.t 17)⟩]) (.gh .nF (.block 0 (.loop (.seq (.seq (.au [⟨some 18,none,.af (.t 5)⟩,⟨some 19,none,.len (.t 18)⟩,⟨some 20,none,.bin .gtr (.t 19) (.c (.int .i64 0))⟩]) (.cond (.t 20) .skip (.exit 0))) (.block 1 (.seq (.au [⟨some 21,none,.af (.t 5)⟩,⟨some 22,none,.fH (.t 21) (.c (.int .i64 0)) 5⟩,⟨some 23,none,.load (some 5) (.t 22)⟩,⟨some 6,none,.new [(.bool false),(.str []),.nil0,.nil0,(.int .i64 0)]⟩,⟨none,none,.store 5 (.t 6) (.t 23)⟩]) (.seq (.au [⟨some 24,none,.bU (.t 4) 0⟩,⟨some 25,none,.load none (.t 24)⟩,⟨some 26,none,.len (.t 25)⟩,⟨some 7,none,.af (.t 26)⟩]) (.seq (.fY [⟨some 27,none,.bU (.t 4) 0⟩,⟨some 28,none,.load none (.t 27)⟩,⟨some 29,none,.bU (.t 6) 0⟩,⟨some 30,none,.bU (.t 29) 0⟩,⟨some 31,none,.load none (.t 30)⟩,⟨some 32,none,.bU (.t 6) 0⟩,⟨some 33,none,.bU (.t 32) 1⟩,⟨some 34,none,.load none (.t 33)⟩,⟨some 35,none,.bU (.t 6) 0⟩,⟨some 36,none,.bU (.t 35) 2⟩,⟨some 37,none,.load none (.t 36)⟩,⟨some 38,none,.nU (.c .nil0) (.t 37) 2 32⟩,⟨some 39,none,.bU (.t 6) 4⟩,⟨some 40,none,.load none (.t 39)⟩,⟨some 41,none,.rp [(.bool false),(.str []),.nil0,(.int .i64 0),.nil0] [(0,(1,(.t 31))),(1,(1,(.t 34))),(2,(1,(.t 38))),(3,(1,(.t 40)))]⟩,⟨some 42,none,.ga 5 [(.bool false),(.str []),.nil0,(.int .i64 0),.nil0] [(0,(.t 41))]⟩,⟨some 43,none,.app (.t 28) (.t 42) 5 80⟩,⟨some 44,none,.bU (.t 4) 0⟩,⟨none,none,.store 1 (.t 44) (.t 43)⟩] [[],[0],[],[2],[3],[],[5],[6],[],[8],[9],[10],[],[12],[4,7,11,13],[14],[1,15,11],[0,1,2,3,4,5,6,7,8,9,10,11,12,13,14,15,16],[17,16,16,0,1,2,3,4,5,6,7,8,9,10,11,12,13,14,15,16]] [.no,.rw [.loc 4] [],.no,.no,.rw [.loc 6] [],.no,.no,.rw [.loc 6] [],.no,.no,.rw [.loc 6] [],.no,.no,.rw [.loc 6] [],.no,(.rw [] [(.loc 42)]),(.rw [.loc 42] [.loc 1000,.loc 43]),.no,(.rw [] [.loc 4])]) (.seq (.seq (.au [⟨some 45,none,.bU (.t 6) 4⟩,⟨some 46,none,.load none (.t 45)⟩,⟨some 47,none,.bin .geq (.t 46) (.c (.int .i64 0))⟩]) (.cond (.t 47) (.fY [⟨some 48,none,.bU (.t 4) 0⟩,⟨some 49,none,.load none (.t 48)⟩,⟨some 50,none,.bU (.t 6) 4⟩,⟨some 51,none,.load none (.t 50)⟩,⟨some 52,none,.bU (.t 4) 0⟩,⟨some 53,none,.load none (.t 52)⟩,⟨some 54,none,.bU (.t 6) 4⟩,⟨some 55,none,.load none (.t 54)⟩,⟨some 56,none,.fH (.t 53) (.t 55) 5⟩,⟨some 57,none,.bU (.t 56) 4⟩,⟨some 58,none,.load none (.t 57)⟩,⟨some 59,none,.af (.t 7)⟩,⟨some 60,none,.lits 1 1 [(.int .i64 0)] [(0,(.t 59))]⟩,⟨some 61,none,.app (.t 58) (.t 60) 1 8⟩,⟨some 62,none,.fH (.t 49) (.t 51) 5⟩,⟨some 63,none,.bU (.t 62) 4⟩,⟨none,none,.store 1 (.t 63) (.t 61)⟩] [[],[0],[],[2],[],[4],[],[6],[5,7],[8],[9],[],[11],[10,12],[1,3,0,1,2,3,4,5,6,7,8,9,10,11,12,13],[14,0,1,2,3,4,5,6,7,8,9,10,11,12,13],[15,13,13,0,1,2,3,4,5,6,7,8,9,10,11,12,13]] [.no,.rw [.loc 4] [],.no,.rw [.loc 6] [],.no,.rw [.loc 4] [],.no,.rw [.loc 6] [],.no,.no,(.rw [.loc 43] []),.no,.no,(.rw [] [.loc 61,.nest (.loc 1000) 0 4]),.no,.no,(.rw [] [.loc 43])]) .skip)) (.seq (.au [⟨some 8,none,.af (.c .nil0)⟩]) (.gh (.own 8 5) (.seq (.seq (.au [⟨some 64,none,.bU (.t 6) 0⟩,⟨some 65,none,.bU (.t 64) 3⟩,⟨some 66,none,.load none (.t 65)⟩,⟨some 67,none,.len (.t 66)⟩,⟨some 68,none,.af (.c (.int .i64 0))⟩]) (.block 2 (.loop (.seq (.au [⟨some 69,none,.bin .lss (.t 68) (.t 67)⟩]) (.seq (.cond (.t 69) .skip (.exit 2)) (.seq (.block 3 (.seq (.au [⟨some 70,none,.fH (.t 66) (.t 68) 4⟩,⟨some 71,none,.load (some 4) (.t 70)⟩,⟨some 10,none,.new [(.bool false),(.str []),.nil0,.nil0]⟩,⟨none,none,.store 4 (.t 10) (.t 71)⟩]) (.au [⟨some 72,none,.af (.t 8)⟩,⟨some 73,none,.load (some 4) (.t 10)⟩,⟨some 74,none,.af (.t 7)⟩,⟨some 75,none,.rp [(.bool false),(.str []),.nil0,.nil0,(.int .i64 0)] [(0,(4,(.t 73))),(4,(1,(.t 74)))]⟩,⟨some 76,none,.lits 1 5 [(.bool false),(.str []),.nil0,.nil0,(.int .i64 0)] [(0,(.t 75))]⟩,⟨some 77,none,.app (.t 72) (.t 76) 5 80⟩,⟨some 8,none,.af (.t 77)⟩]))) (.au [⟨some 78,none,.bin .add (.t 68) (.c (.int .i64 1))⟩,⟨some 68,none,.af (.t 78)⟩]))))))) (.au [⟨some 79,none,.af (.t 8)⟩,⟨some 80,none,.af (.t 5)⟩,⟨some 81,none,.uM (.t 80) (some (.c (.int .i64 1))) none none 5⟩,⟨some 82,none,.app (.t 79) (.t 81) 5 80⟩,⟨some 5,none,.af (.t 82)⟩])))))))))))))) (.gh .nF (.gh (.tF (.loc 1000) (.loc 4) 0) (.seq (.au [⟨some 83,none,.load (some 1) (.t 4)⟩,⟨none,none,.store 1 (.t 2) (.t 83)⟩,⟨some 3,none,.af (.c (.int .i64 0))⟩]) .ret)))))))
theorem qM (d:List Node) (w:List (Tree×Int)) (r:Row):gU (kM d w++[(.loc 8,r)])=bL (gU (kM d w)) (.loc 8) (.live r):=by
 funext l;rw[uc];by_cases e:l= .loc 8
 ·subst e
  have:gU (kM d w) (.loc 8)= .unused:=sv fun hm=>by
   rw[oV] at hm;rcases cz hm with h|h|h|h|⟨i,h⟩<;>simp[KL] at h
  rw[this];simp[gU,bL]
 ·rw[aA _ _ e];cases h:gU (kM d w) l with
  |unused=>simp[gU,bL,e,Hp.none]
  |dead=>rfl
  |live r=>rfl
theorem qN (d:List Node) (w:List (Tree×Int)) (xs:List IV):∀q∈kM d w++[((.loc 8:Lb),(⟨5,aG xs⟩:Row))],∀cs∈q.2.els,∀l∈ah cs,l∈s8 d++[Lb.loc 8]:=by
 intro q hq cs bx l hl;rcases List.mem_append.1 hq with hq|hq
 ·have:=vA d w q hq cs bx l hl;rw[oV] at this;exact List.mem_append.2 (.inl this)
 ·simp only[List.mem_singleton] at hq;subst hq;rw[bY bx] at hl;simp at hl
theorem hJ {d:List Node} {l:Lb} (h:l∈s8 d++[Lb.loc 8]):l= .loc 2∨l= .loc 4∨l= .loc 1000∨l= .loc 1001∨l= .loc 8∨∃i,l=KL i:=by
 rcases List.mem_append.1 h with h|h
 ·rcases cz h with h|h|h|h|h<;>simp[h]
 ·simp only[List.mem_singleton] at h;simp[h]
theorem GC {a b:Lb} (ha:a= .loc 2∨a= .loc 4∨a= .loc 1000∨a= .loc 1001∨a= .loc 8∨∃i,a=KL i) (hb:b= .loc 2∨b= .loc 4∨b= .loc 1000∨b= .loc 1001∨b= .loc 8∨∃i,b=KL i) :
  bq [(.loc 1000,.loc 43)] a=bq [(.loc 1000,.loc 43)] b→a=b:=by
 rcases ha with rfl|rfl|rfl|rfl|rfl|⟨i,rfl⟩<;>rcases hb with rfl|rfl|rfl|rfl|rfl|⟨j,rfl⟩<;>simp[KL,bq]
theorem IX {a:Lb} (ha:a= .loc 2∨a= .loc 4∨a= .loc 1000∨a= .loc 1001∨a= .loc 8∨∃i,a=KL i):a.fresh=true∧(bq [(.loc 1000,.loc 43)] a).fresh=true:=by
 rcases ha with rfl|rfl|rfl|rfl|rfl|⟨i,rfl⟩<;>simp[KL,bq,Lb.fresh]
theorem GD {q:Nat} {a b:Lb} (ha:a= .loc 2∨a= .loc 4∨a= .loc 1000∨a= .loc 1001∨a= .loc 8∨∃i,a=KL i) (hb:b= .loc 2∨b= .loc 4∨b= .loc 1000∨b= .loc 1001∨b= .loc 8∨∃i,b=KL i) :
  bq [(.loc 1000,.loc 43),(KL q,.loc 61)] a=bq [(.loc 1000,.loc 43),(KL q,.loc 61)] b→a=b:=by
 rcases ha with rfl|rfl|rfl|rfl|rfl|⟨i,rfl⟩<;>rcases hb with rfl|rfl|rfl|rfl|rfl|⟨j,rfl⟩<;>simp[KL,bq]
 all_goals (try split)<;>(try split)<;>simp_all
theorem JT {q:Nat} {a:Lb} (ha:a= .loc 2∨a= .loc 4∨a= .loc 1000∨a= .loc 1001∨a= .loc 8∨∃i,a=KL i):a.fresh=true∧(bq [(.loc 1000,.loc 43),(KL q,.loc 61)] a).fresh=true:=by
 rcases ha with rfl|rfl|rfl|rfl|rfl|⟨i,rfl⟩<;>simp[KL,bq,Lb.fresh]
 split<;>simp[Lb.fresh]
def kX (d:List Node):Lb→Option (Nat×List IV):=fun l=>match l with
 | .nest l i j=>if l= .loc 1000∧j=4 then(d[i]?).bind fun x=>if x.kids=[] then none else some (1,x.kids.map bl) else none
 |_=>none
theorem GF {d:List Node} {i:Nat} {x:Node} (h:d[i]?=some x) (hk:x.kids≠[]):kX d (KL i)=some (1,x.kids.map bl):=by
 simp[kX,KL,h,hk]
theorem vB {d:List Node} {l:Lb} {sz:Nat} {xs:List IV} (h:kX d l=some (sz,xs)):∃i x,d[i]?=some x∧x.kids≠[]∧l=KL i∧sz=1∧xs=x.kids.map bl:=by
 unfold kX at h;split at h
 ·rename_i l0 i j;split at h
  ·rename_i hc;obtain⟨rfl,rfl⟩:=hc;obtain⟨x,h1,h2⟩:=Option.bind_eq_some_iff.1 h;split at h2
   ·cases h2
   ·rename_i hk;simp only[Option.some.injEq,Prod.mk.injEq] at h2;exact⟨i,x,h1,hk,rfl,h2.1.symm,h2.2.symm⟩
  ·cases h
 ·cases h
theorem uf (d:List Node) (n:Nat):kX d (.loc n)=none:=rfl
theorem wJ (d:List Node):((kn d).map fun cs=>cs.map (zZ (fun l=>decide (l= .loc 1000)) (.loc 1000))).map (gP (kX d))=aG (d.map Node.iv):=by
 refine List.ext_getElem? fun i=> ?_
 rw[List.getElem?_map,List.getElem?_map,ju,yx,List.getElem?_map];cases hx:d[i]? with
 |none=>rfl
 |some x=>
  have hn:zZ (fun l=>decide (l=Lb.loc 1000)) (.loc 1000)=norm:=by funext z;simp[zZ]
  simp only[Option.map_some,Option.some.injEq,Node.aU,Node.cs,jK,jr,hn];by_cases hk:x.kids=[]
  ·simp[hk,norm,gP,mo,IV.b7]
  ·rw[if_neg hk];simp only[List.map_cons,List.map_nil,norm,gP,mo,GF hx hk,IV.b7];simp;exact List.take_of_length_le (by simp)
structure K8 (x:Tree) where
 d:List Node
 l:List (Tree×Int)
 hw:whole d l=aR x
 hp:∀y∈l,y.2<(d.length:Int)
 hc:d.length+aY (l.map Prod.fst)=x.dP
 hb:fL (l.map Prod.fst)≤B
 hk:∀y∈d,y.kids.length≤d.length
set_option maxHeartbeats 1000000 in
theorem ze {P : Program} {G : Nat → Option (List IV)} {b_ cm : Nat} (hF : aB P G b_ = some (84,[((some (some 1)),2),(none,3)],(eQ cm).bare)) (x : Tree) (hx : x.wt ≤ B)
   (hI:ai P G cm [x.av] (.bool x.fM)):ai P G b_ [x.av] (.ei [Doc.av (kk x).1,.int .i64 (kk x).2]):=by
 refine gI hF (by simp) (by simp[ah,AV.ar,Tree.av]) (by simp[AV.ar,ah,Doc.av]) ?_
 have rn:B=1073741824:=rfl
 unfold eQ
 simp only[↓aX,mX,reduceCtorEq,Nat.reduceEqDiff,Nat.reduceLT,Nat.reduceLeDiff,Nat.reduceAdd,Nat.reduceMul,Int.reduceToNat,Int.reduceLE,Int.reduceLT,Tree.av]
 refine aj hI ?_
 cases hg:x.fM with
 |false=>
   simp only[↓aX,mX,reduceCtorEq,Nat.reduceEqDiff,Nat.reduceLT,Nat.reduceLeDiff,Nat.reduceAdd,Nat.reduceMul,Int.reduceToNat,Int.reduceLE,Int.reduceLT,Bool.not_false,qI]
   simp[norm,jP,kk,hg,Doc.av]
 |true=>
   simp only[↓aX,mX,reduceCtorEq,Nat.reduceEqDiff,Nat.reduceLT,Nat.reduceLeDiff,Nat.reduceAdd,Nat.reduceMul,Int.reduceToNat,Int.reduceLE,Int.reduceLT,Bool.not_true]
   have K9:=x.qG
   rw[vi (sz:=5) (d:=17) (cs:=[.bool x.text,.str x.s,.list (eh x.attrs),.list (eY x.kids),.int .i64 (-1)]) (by simp[aQ,AV.cells,AV.dk,AV.one]) (by simp[ae,Hp.none]) rfl (by decide)]
   simp only[↓aX,mX,reduceCtorEq,Nat.reduceEqDiff,Nat.reduceLT,Nat.reduceLeDiff,Nat.reduceAdd,Nat.reduceMul,Int.reduceToNat,Int.reduceLE,Int.reduceLT]
   rw[kx]
   refine⟨_,_,iJ (q:= .loc 4) (cs:=[.nil0]) (j:=0) (d:=1000) (sz:=5) (by simp[ae]) rfl (by simp[ae,Hp.none]) (by decide),?_⟩
   simp only[↓aX,mX,reduceCtorEq,Nat.reduceEqDiff,Nat.reduceLT,Nat.reduceLeDiff,Nat.reduceAdd,Nat.reduceMul,Int.reduceToNat,Int.reduceLE,Int.reduceLT]
   refine dA (σ:=K8 x) (fun q=>s8 q.d) (fun _ _=>false)
     (fun q=>[(2,.ptr (.loc 2) 1 0 0),(4,.ptr (.loc 4) 1 0 0),(5,.sl (.loc 1001) 5 0 q.l.length)]) (fun q=>kM q.d q.l) (fun q=>aY (q.l.map Prod.fst))
     {d:=[],l:=[(x,-1)],hw:=r6 x,hp:=by simp,hc:=by simp[aY],hb:=by simp[fL,hx],hk:=by simp} (fun q=>oV _ _) (fun q=>by simp[ah,AV.ar,s8]) (fun q=>by rw[←oV _ q.l];exact vA q.d q.l) ⟨[(.loc 1001,.loc 17)],?_⟩ ?_
   · refine fh ?_ ?_ ?_ (jv _) ?_ ?_
     · intro l hf
       cases l<;>simp_all[Lb.fresh,ae,Hp.none]
     · simp[iq,bq,bQ,put]
     · refine gA ?_ ?_ ?_ ?_ ?_
       · simp[bq,ae]
       · simp[bq,ae]
       · simp[bq,ae,bX,kn]
       · simp[bq,ae,aG,cU,IV.cells,IV.b7]
       · intro i y h;simp at h
     · intro l hl
       rcases cz hl with rfl|rfl|rfl|rfl|⟨i,rfl⟩<;>simp[KL,Lb.fresh,bq]
     · intro a ha b hb
       rcases cz ha with rfl|rfl|rfl|rfl|⟨i,rfl⟩<;>rcases cz hb with rfl|rfl|rfl|rfl|⟨j,rfl⟩<;>simp[KL,bq]
   · rintro ⟨d,l,hw,hp,hc,hb,Fa⟩
     rw[iu]
     simp only[↓aX,mX,reduceCtorEq,Nat.reduceEqDiff,Nat.reduceLT,Nat.reduceLeDiff,Nat.reduceAdd,Nat.reduceMul,Int.reduceToNat,Int.reduceLE,Int.reduceLT,kM,List.cons_append,List.nil_append,cb,bO]
     cases l with
     |nil=>
       rw[wy] at hw
       subst hw
       simp only[List.length_nil,show decide (((0:Nat):Int)>0)=false from rfl,↓aX,mX,reduceCtorEq,Nat.reduceEqDiff,Nat.reduceLT,Nat.reduceLeDiff,Nat.reduceAdd,Nat.reduceMul,Int.reduceToNat,Int.reduceLE,Int.reduceLT]
       have vC:∀n,gU (jX (aR x)) (.loc n)= .unused:=ko _
       rw[kx]
       refine⟨_,_,(so (fun l=>decide (l= .loc 1000))).trans (lv (kX (aR x)) [(2,.ptr (.loc 2) 1 0 0),(4,.ptr (.loc 4) 1 0 0)]
         [(.loc 2,⟨1,[[.nil0]]⟩),(.loc 4,⟨1,[[.sl (.loc 1000) 5 0 (aR x).length]]⟩),(.loc 1000,⟨5,aG ((aR x).map Node.iv)⟩)] [] ?_ ?_ ?_ ?_),?_⟩
       · intro l sz xs h
         obtain⟨i,y,h1,h2,rfl,rfl,rfl⟩:=vB h
         have:=fO h1 h2
         refine⟨?_,by simp[KL,Lb.fresh],oz _⟩
         have e:∀n,KL i≠ .loc n:=fun n=>by simp[KL]
         unfold kL
         simp only[bL,e,if_false,this,qL]
         congr 2
         conv=>rhs;rw[←List.map_id (aG (y.kids.map bl))]
         refine List.map_congr_left fun cs bx=> ?_
         have hn:zZ (fun l=>decide (l= .loc 1000)) (KL i)=id:=by funext z;simp[zZ,e]
         rw[hn];simp
       · simp[ah,AV.ar]
       · rintro q hq cs bx l hl
         simp only[List.mem_cons,List.not_mem_nil,or_false] at hq
         rcases hq with rfl|rfl|rfl
         · simp only[List.mem_singleton] at bx;subst bx;simp[ah,AV.ar] at hl
         · simp only[List.mem_singleton] at bx;subst bx;simp[ah,AV.ar] at hl;subst hl;simp
         · rw[bY bx] at hl;simp at hl
       · refine⟨?_,?_,?_,by simp[bq],fun l hl=>⟨id,fun _=>rfl⟩⟩
         · intro l hf hu
           exfalso;apply hu
           have h1:=gz (aR x) hf
           have h2:kX (aR x) l=none:=by
             cases h3:kX (aR x) l with
             |none=>rfl
             |some q=>
               obtain⟨i,y,_,_,rfl,_⟩:=vB (sz:=q.1) (xs:=q.2) h3
               simp[KL,Lb.fresh] at hf
           have e:∀n,l≠ .loc n:=fun n h=>by subst h;simp[Lb.fresh] at hf
           simp[pb,h2,kL,bL,e,h1]
         · simp[iq,bq,bQ,put,mo]
         · refine⟨?_,?_,?_,trivial⟩
           · simp[bq,pb,uf,kL,ae,gP,mo,zZ,bX,bT,bQ]
           · simp[bq,pb,uf,kL,ae,gP,mo,zZ,bX,bT,bQ]
           · have:=wJ (aR x)
             simp only[bq,cr]
             unfold pb
             simp only[uf]
             unfold kL
             simp only[ae,Lb.loc.injEq,Nat.reduceEqDiff,if_true,if_false,this]
       · rw[iu]
         simp only[↓aX,mX,reduceCtorEq,Nat.reduceEqDiff,Nat.reduceLT,Nat.reduceLeDiff,Nat.reduceAdd,Nat.reduceMul,Int.reduceToNat,Int.reduceLE,Int.reduceLT,cb,bO]
         refine⟨5,(aR x).map Node.iv,0,(aR x).length,[.sl (.loc 1000) 5 0 (aR x).length],rfl,rfl,rfl,by simp,by simp,Cw _,?_⟩
         simp only[↓aX,mX,reduceCtorEq,Nat.reduceEqDiff,Nat.reduceLT,Nat.reduceLeDiff,Nat.reduceAdd,Nat.reduceMul,Int.reduceToNat,Int.reduceLE,Int.reduceLT,qI,norm,jP,kk,hg,Doc.av,List.length_map]
         simp
         exact List.take_of_length_le (by simp)
     |cons it r=>
       obtain⟨t,p⟩:=it
       have L8:t.dP+aY (r.map Prod.fst)+d.length=x.dP:=by simp only[List.map_cons,aY] at hc;omega
       have L9:t.wt+fL (r.map Prod.fst)≤B:=by simpa only[List.map_cons,fL] using hb
       have K':p<d.length:=hp (t,p) (by simp)
       have L':=t.jQ
       have JR:=g_ t.attrs
       have FN:=gy t.kids
       have L_:=t.ft
       have vC:∀n,gU (jX d) (.loc n)= .unused:=ko d
       have FZ:(ia 2 (eh t.attrs)∧Jn (eh t.attrs)∧(eh t.attrs).length*32≤140737488355328∧0<32∧0<2):=⟨nc _,oi _,by rw[de];omega,by decide,by decide⟩
       simp only[List.length_cons,show decide (((r.length+1:Nat):Int)>0)=true by simp,↓aX,mX,reduceCtorEq,Nat.reduceEqDiff,Nat.reduceLT,Nat.reduceLeDiff,Nat.reduceAdd,Nat.reduceMul,Int.reduceToNat,Int.reduceLE,Int.reduceLT,Nat.zero_lt_succ,wI,BO,List.length_map,vC]
       refine⟨rfl,?_⟩
       rw[if_pos FZ]
       simp only[↓aX,mX,reduceCtorEq,Nat.reduceEqDiff,Nat.reduceLT,Nat.reduceLeDiff,Nat.reduceAdd,Nat.reduceMul,Int.reduceToNat,Int.reduceLE,Int.reduceLT,vC]
       rw[vi (sz:=5) (d:=42) (cs:=[.bool t.text,.str t.s,.list (eh t.attrs),.int .i64 p,.nil0]) (by simp[aQ,AV.cells,AV.dk,AV.one]) (by simp[ae,vC]) rfl (by decide)]
       simp only[↓aX,mX,reduceCtorEq,Nat.reduceEqDiff,Nat.reduceLT,Nat.reduceLeDiff,Nat.reduceAdd,Nat.reduceMul,Int.reduceToNat,Int.reduceLE,Int.reduceLT,vC]
       rw[BM (sz:=5) (b:=80) (d:=43) (l:= .loc 1000) (l2:= .loc 42) (els:=kn d) (cs:=[.bool t.text,.str t.s,.list (eh t.attrs),.int .i64 p,.nil0]) (by simp[ae]) (jt d) (by simp[ae]) (by intro y hy;simp only[List.mem_cons,List.not_mem_nil,or_false] at hy;rcases hy with rfl|rfl|rfl|rfl|rfl<;>rfl) (by omega) (by decide) (by simp[Lb.app,Lb.fresh]) (by simp[Lb.app,Lb.fresh,ae,vC])]
       simp only[↓aX,mX,reduceCtorEq,Nat.reduceEqDiff,Nat.reduceLT,Nat.reduceLeDiff,Nat.reduceAdd,Nat.reduceMul,Int.reduceToNat,Int.reduceLE,Int.reduceLT,vC]
       obtain⟨d2,El⟩:∃d2,d2=gn (d++[⟨t.text,t.s,t.attrs,p,[]⟩]) p d.length:=⟨_,rfl⟩
       have qx:d2.length=d.length+1:=by rw[El,oJ];simp
       have yX:whole d2 (t.kids.map (fun k=>(k,(d.length:Int)))++r)=aR x:=by rw[El,←tV d t p r K' (fun y hy=>hp y (by simp[hy]))];exact hw
       have Hy:(t.kids.map fun k=>(k,(d.length:Int))).map Prod.fst=t.kids:=by rw[List.map_map,show(Prod.fst∘fun k:Tree=>(k,(d.length:Int)))=id from rfl,List.map_id]
       have Cj:∀y∈t.kids.map (fun k=>(k,(d.length:Int)))++r,y.2<(d2.length:Int):=by
         intro y hy
         rcases List.mem_append.1 hy with hy|hy
         · obtain⟨k,_,rfl⟩:=List.mem_map.1 hy
           simp only;omega
         · have:=hp y (by simp[hy]);omega
       have IY:d2.length+aY ((t.kids.map (fun k=>(k,(d.length:Int)))++r).map Prod.fst)=x.dP:=by rw[List.map_append,Hy,c7];omega
       have Ch:fL ((t.kids.map (fun k=>(k,(d.length:Int)))++r).map Prod.fst)≤B:=by rw[List.map_append,Hy,kC];omega
       have Cd:∀y∈d2,y.kids.length≤d2.length:=by
         rw[qx,El]
         refine sy ?_
         intro y hy
         rcases List.mem_append.1 hy with hy|hy
         · exact Fa y hy
         · simp only[List.mem_singleton] at hy;subst hy;simp
       have K_:=gy (r.map Prod.fst)
       rw[List.length_map] at K_
       cases Hh:decide (p≥0) with
       |false=>
         have zf:¬0≤p:=of_decide_eq_false Hh
         simp only[↓aX,mX,reduceCtorEq,Nat.reduceEqDiff,Nat.reduceLT,Nat.reduceLeDiff,Nat.reduceAdd,Nat.reduceMul,Int.reduceToNat,Int.reduceLE,Int.reduceLT,vC,bG]
         refine⟨by rintro l (rfl|rfl)<;>simp[Lb.iM],?_⟩
         refine dA (σ:={j:Nat // j≤t.kids.length}) (fun _=>s8 d2++[.loc 8]) (fun _ _=>false)
           (fun j=>[(2,.ptr (.loc 2) 1 0 0),(4,.ptr (.loc 4) 1 0 0),(5,.sl (.loc 1001) 5 0 (r.length+1)),(7,.int .i64 d.length),(8,.sl (.loc 8) 5 0 j.1),(66,.list (eY t.kids)),(67,.int .i64 t.kids.length),(68,.int .i64 j.1)])
           (fun j=>kM d2 ((t,p)::r)++[(.loc 8,⟨5,aG (((t.kids.take j.1).map fun k=>(k,(d.length:Int))).map cU)⟩)]) (fun j=>t.kids.length - j.1) ⟨0,Nat.zero_le _⟩ (fun _=>by rw[List.map_append,oV];rfl) (fun j=>by simp[ah,AV.ar,s8]) (fun j=>qN d2 _ _) ⟨[(.loc 1000,.loc 43)],?_⟩ ?_
         · refine fh ?_ ?_ (jJ (gA ?_ ?_ ?_ ?_ ?_) ⟨?_,trivial⟩) (gq _) ?_ ?_
           · intro l hf
             have:=gz d hf
             have eg:∀i,l≠ .nest (.loc 1000) i 4:=fun i e=>by subst e;simp[Lb.fresh] at hf
             cases l<;>simp_all[Lb.fresh,ae]
           · simp[iq,bq,bQ,put,bG,KL]
           · simp[bq,ae,KL]
           · simp[bq,ae,KL,qx]
           · rw[iz _ _ (fun i y _ _=>by simp[bq,KL])]
             have:kn d2=kn d++[[.bool t.text,.str t.s,.list (eh t.attrs),.int .i64 p,.nil0]]:=by
               rw[El,gn,if_neg zf];simp[kn,List.mapIdx_append,jK,jr]
             simp[bq,ae,this]
           · simp[bq,ae,KL,aG,cU,IV.cells,IV.b7]
           · intro i y h1 h2
             rw[El,gn,if_neg zf] at h1
             have h3:d[i]?=some y:=by
               by_cases hi:i<d.length
               · rwa[List.getElem?_append_left hi] at h1
               · rw[List.getElem?_append_right (by omega)] at h1
                 cases hq:i - d.length with
                 |zero=>rw[hq] at h1;simp at h1;subst h1;simp at h2
                 |succ n=>rw[hq] at h1;simp at h1
             have:=fO h3 h2
             simp[bq,KL,ae] at this ⊢
             exact this
           · simp[bq,ae,KL,aG,bX]
           · intro l hl
             exact IX (hJ hl)
           · exact fun a ha b hb=>GC (hJ ha) (hJ hb)
         · rintro⟨j,hj⟩
           have oW:∀n,gU (jX d2) (.loc n)= .unused:=ko _
           rw[iu]
           have hH:gU (kM d2 ((t,p)::r)++[(.loc 8,⟨5,aG (((t.kids.take j).map fun k=>(k,(d.length:Int))).map cU)⟩)]) =
               bL (gU (kM d2 ((t,p)::r))) (.loc 8) (.live ⟨5,aG (((t.kids.take j).map fun k=>(k,(d.length:Int))).map cU)⟩):=qM _ _ _
           rw[hH]
           have re:(((t.kids.take j).map fun k=>(k,(d.length:Int))).map cU).length=j:=by rw[List.length_map,List.length_map,List.length_take];omega
           simp only[↓aX,mX,reduceCtorEq,Nat.reduceEqDiff,Nat.reduceLT,Nat.reduceLeDiff,Nat.reduceAdd,Nat.reduceMul,Int.reduceToNat,Int.reduceLE,Int.reduceLT,kM,List.cons_append,List.nil_append,cb,bO,bG]
           by_cases bz:j<t.kids.length
           · rw[show decide ((j:Int)<(t.kids.length:Int))=true by simpa using bz]
             obtain⟨k,hk⟩:∃k,t.kids[j]?=some k:=⟨_,List.getElem?_eq_getElem bz⟩
             have hw:IntKind.i64.wrap ((j:Int)+1)=((j+1:Nat):Int):=wrap64 (by omega) (by omega)
             have tm:((t.kids.take (j+1)).map fun k=>(k,(d.length:Int))).map cU=((t.kids.take j).map fun k=>(k,(d.length:Int))).map cU++[cU (k,(d.length:Int))]:=by rw[List.take_add_one,hk];simp
             simp only[↓aX,mX,reduceCtorEq,Nat.reduceEqDiff,Nat.reduceLT,Nat.reduceLeDiff,Nat.reduceAdd,Nat.reduceMul,Int.reduceToNat,Int.reduceLE,Int.reduceLT,iI,hk,lW,Tree.aU,Tree.cs,oW]
             rw[eX 5 80 77 8 (((t.kids.take j).map fun k=>(k,(d.length:Int))).map cU) (.agg [.bool k.text,.str k.s,.list (eh k.attrs),.list (eY k.kids),.int .i64 d.length]) (by simp[ae]) re rfl (by simp[IV.cells]) (by omega) (by decide) (by decide) (by simp[ae,oW])]
             simp only[↓aX,mX,reduceCtorEq,Nat.reduceEqDiff,Nat.reduceLT,Nat.reduceLeDiff,Nat.reduceAdd,Nat.reduceMul,Int.reduceToNat,Int.reduceLE,Int.reduceLT,hw]
             refine⟨⟨j+1,bz⟩,by simp only;omega,[(.loc 8,.loc 77)],?_⟩
             show WU _ _ _ (kM d2 ((t,p)::r)++[(.loc 8,_)]) _ _ _
             refine fh ?_ ?_ (jJ (gA ?_ ?_ ?_ ?_ ?_) ⟨?_,trivial⟩) (gq _) ?_ ?_
             · intro l hf
               have:=gz d2 hf
               cases l<;>simp_all[Lb.fresh,ae]
             · simp[iq,bq,bQ,put,bG,KL]
             · simp[bq,ae,KL]
             · simp[bq,ae,KL]
             · rw[iz _ _ (fun i y _ _=>by simp[bq,KL])]
               simp[bq,ae]
             · simp[bq,ae,aG,cU,IV.cells,IV.b7]
             · intro i y h1 h2
               have:=fO h1 h2
               simp[bq,KL,ae] at this ⊢
               exact this
             · simp only[tm,cr]
               simp[bq,ae,cU]
             · intro l hl
               rcases List.mem_append.1 hl with hl|hl
               · rcases cz hl with rfl|rfl|rfl|rfl|⟨i,rfl⟩<;>simp[KL,Lb.fresh,bq]
               · simp only[List.mem_singleton] at hl;subst hl;simp[KL,Lb.fresh,bq]
             · intro a ha b hb
               have nA:a= .loc 2∨a= .loc 4∨a= .loc 1000∨a= .loc 1001∨a= .loc 8∨∃i,a=KL i:=by
                 rcases List.mem_append.1 ha with h|h
                 · rcases cz h with h|h|h|h|h<;>simp[h]
                 · simp only[List.mem_singleton] at h;simp[h]
               have tp:b= .loc 2∨b= .loc 4∨b= .loc 1000∨b= .loc 1001∨b= .loc 8∨∃i,b=KL i:=by
                 rcases List.mem_append.1 hb with h|h
                 · rcases cz h with h|h|h|h|h<;>simp[h]
                 · simp only[List.mem_singleton] at h;simp[h]
               rcases nA with rfl|rfl|rfl|rfl|rfl|⟨i,rfl⟩<;>rcases tp with rfl|rfl|rfl|rfl|rfl|⟨j,rfl⟩<;>simp[KL,bq]
           · have zg:j=t.kids.length:=by omega
             subst zg
             rw[show decide ((t.kids.length:Int)<(t.kids.length:Int))=false by simp]
             have xz:se (.int .i64 1) (r.length+1)=some 1:=km .i64 1 _ (by omega)
             simp only[↓aX,mX,reduceCtorEq,Nat.reduceEqDiff,Nat.reduceLT,Nat.reduceLeDiff,Nat.reduceAdd,Nat.reduceMul,Int.reduceToNat,Int.reduceLE,Int.reduceLT,qk,j4,sf,sg,xz,Option.bind_some,Option.map_some,Option.isSome_none,List.take_length,Nat.add_sub_cancel]
             rw[oU (sz:=5) (b:=80) (d:=82) (l:= .loc 8) (l2:= .loc 1001) (els:=aG ((t.kids.map fun k=>(k,(d.length:Int))).map cU)) (els2:=aG (cU (t,p)::r.map cU)) (xs:=r.map cU) (by simp[ae]) (by simp[aG]) (by simp[ae])
               (by simp[aG];omega) (by simp[aG];exact List.take_of_length_le (by simp)) (ue r) (by simp) (by omega) (by decide) (by simp[Lb.app,Lb.fresh]) (by simp[Lb.app,Lb.fresh,ae,oW])]
             simp only[↓aX,mX,reduceCtorEq,Nat.reduceEqDiff,Nat.reduceLT,Nat.reduceLeDiff,Nat.reduceAdd,Nat.reduceMul,Int.reduceToNat,Int.reduceLE,Int.reduceLT]
             refine⟨{d:=d2,l:=(t.kids.map fun k=>(k,(d.length:Int)))++r,hw:=yX,hp:=Cj,hc:=IY,hb:=Ch,hk:=Cd},?_,[(.loc 1001,.loc 82)],?_⟩
             · simp only[List.map_append,List.map_map,c7,List.map_cons,aY]
               rw[show(Prod.fst∘fun k:Tree=>(k,(d.length:Int)))=id from rfl,List.map_id]
               omega
             · show WU _ _ _ (kM d2 ((t.kids.map fun k=>(k,(d.length:Int)))++r)) _ _ _
               refine fh ?_ ?_ (gA ?_ ?_ ?_ ?_ ?_) (jv _) ?_ ?_
               · intro l hf
                 have:=gz d2 hf
                 cases l<;>simp_all[Lb.fresh,ae]
               · simp[iq,bq,bQ,put,KL]
               · simp[bq,ae,KL]
               · simp[bq,ae,KL]
               · rw[iz _ _ (fun i y _ _=>by simp[bq,KL])]
                 simp[bq,ae]
               · simp[bq,ae,aG]
               · intro i y h1 h2
                 have:=fO h1 h2
                 simp[bq,KL,ae] at this ⊢
                 exact this
               · intro l hl
                 rcases cz hl with rfl|rfl|rfl|rfl|⟨i,rfl⟩<;>simp[KL,Lb.fresh,bq]
               · intro a ha b hb
                 rcases cz ha with rfl|rfl|rfl|rfl|⟨i,rfl⟩<;>rcases cz hb with rfl|rfl|rfl|rfl|⟨j,rfl⟩<;>simp[KL,bq]
       |true=>
         have zf:=of_decide_eq_true Hh
         obtain⟨q,rfl⟩:=Int.eq_ofNat_of_zero_le zf
         have Cy:q<d.length:=by omega
         obtain⟨y,hy⟩:∃y,d[q]?=some y:=⟨_,List.getElem?_eq_getElem Cy⟩
         have vY:q<d.length+1:=by omega
         have En:d2=List.set (d++[(⟨t.text,t.s,t.attrs,(q:Int),[]⟩:Node)]) q {y with kids:=y.kids++[(d.length:Int)]}:=by
           rw[El,gn,if_pos zf,Int.toNat_natCast,List.getElem?_append_left Cy,hy]
         have pZ:∀new,(kn d++[new])[q]?=some [.bool y.text,.str y.s,.list (eh y.attrs),.int .i64 y.parent,jr q y.kids]:=fun new=>by
           rw[List.getElem?_append_left (by rw[jt];exact Cy),ju,hy];rfl
         have Eo:bX (bq [(.loc 1000,.loc 43),(KL q,.loc 61)]) ⟨5,kn d2⟩=⟨5,List.set (kn d++[[.bool t.text,.str t.s,.list (eh t.attrs),.int .i64 q,.nil0]]) q [.bool y.text,.str y.s,.list (eh y.attrs),.int .i64 y.parent,.sl (.loc 61) 1 0 (y.kids.length+1)]⟩:=by
           simp only[bX,Row.mk.injEq,true_and]
           refine List.ext_getElem? fun i=> ?_
           rw[List.getElem?_map,ju,En,List.getElem?_set,List.getElem?_set]
           by_cases e:q=i
           · subst e
             simp only[if_true,List.length_append,jt,List.length_cons,List.length_nil]
             rw[if_pos (by omega),if_pos (by omega)]
             simp[jK,jr,bT,bQ,bq,KL]
           · rw[if_neg e,if_neg e]
             have e':¬i=q:=fun h=>e h.symm
             by_cases hi:i<d.length
             · rw[List.getElem?_append_left hi,List.getElem?_append_left (by rw[jt];exact hi),ju]
               cases d[i]? with
               |none=>rfl
               |some z=>
                 simp only[Option.map_some,Option.some.injEq,jK,jr]
                 split<;>simp[bT,bQ,bq,KL,e']
             · rw[List.getElem?_append_right (by omega),List.getElem?_append_right (by rw[jt];omega),jt]
               cases i - d.length with
               |zero=>simp[jK,jr,bT,bQ]
               |succ n=>simp
         have La:=Fa y (List.mem_of_getElem? hy)
         by_cases As:y.kids=[]
         · have IZ:jr q y.kids= .nil0:=by simp[jr,As]
           rw[IZ] at pZ
           simp only[↓aX,mX,reduceCtorEq,Nat.reduceEqDiff,Nat.reduceLT,Nat.reduceLeDiff,Nat.reduceAdd,Nat.reduceMul,Int.reduceToNat,Int.reduceLE,Int.reduceLT,vC,vY,pZ]
           refine⟨by rintro l (rfl|rfl)<;>simp[Lb.iM],rfl,?_⟩
           rw[jk 1 8 61 [.int .i64 d.length] (by simp[ia,IV.cells]) (by simp[Flat,IV.cells]) (by simp) (by decide) (by simp[ae,vC])]
           simp only[↓aX,mX,reduceCtorEq,Nat.reduceEqDiff,Nat.reduceLT,Nat.reduceLeDiff,Nat.reduceAdd,Nat.reduceMul,Int.reduceToNat,Int.reduceLE,Int.reduceLT,vC,vY,pZ,bG]
           rw[As] at Eo
           refine dA (σ:={j:Nat // j≤t.kids.length}) (fun _=>s8 d2++[.loc 8]) (fun _ _=>false)
             (fun j=>[(2,.ptr (.loc 2) 1 0 0),(4,.ptr (.loc 4) 1 0 0),(5,.sl (.loc 1001) 5 0 (r.length+1)),(7,.int .i64 d.length),(8,.sl (.loc 8) 5 0 j.1),(66,.list (eY t.kids)),(67,.int .i64 t.kids.length),(68,.int .i64 j.1)])
             (fun j=>kM d2 ((t,(q:Int))::r)++[(.loc 8,⟨5,aG (((t.kids.take j.1).map fun k=>(k,(d.length:Int))).map cU)⟩)]) (fun j=>t.kids.length - j.1) ⟨0,Nat.zero_le _⟩ (fun _=>by rw[List.map_append,oV];rfl) (fun j=>by simp[ah,AV.ar,s8]) (fun j=>qN d2 _ _) ⟨[(.loc 1000,.loc 43),(KL q,.loc 61)],?_⟩ ?_
           · refine fh ?_ ?_ (jJ (gA ?_ ?_ ?_ ?_ ?_) ⟨?_,trivial⟩) (gq _) ?_ ?_
             · intro l hf
               have:=gz d hf
               have eg:∀i,l≠ .nest (.loc 1000) i 4:=fun i e=>by subst e;simp[Lb.fresh] at hf
               cases l<;>simp_all[Lb.fresh,ae]
             · simp[iq,bq,bQ,put,bG,KL]
             · simp[bq,ae,KL]
             · simp[bq,ae,KL,qx]
             · rw[Eo];simp[bq,ae]
             · simp[bq,ae,KL,aG,cU,IV.cells,IV.b7]
             · intro i z h1 h2
               rw[En,List.getElem?_set] at h1
               by_cases e:q=i
               · subst e
                 rw[if_pos rfl,if_pos (by simp;omega)] at h1
                 simp only[Option.some.injEq] at h1
                 subst h1
                 simp[bq,KL,ae,qL,aG,bl]
                 simp[As,IV.cells,IV.b7]
               · rw[if_neg e] at h1
                 have h3:d[i]?=some z:=by
                   by_cases hi:i<d.length
                   · rwa[List.getElem?_append_left hi] at h1
                   · rw[List.getElem?_append_right (by omega)] at h1
                     cases hq:i - d.length with
                     |zero=>rw[hq] at h1;simp at h1;subst h1;simp at h2
                     |succ n=>rw[hq] at h1;simp at h1
                 have:=fO h3 h2
                 have e':¬i=q:=fun h=>e h.symm
                 simp[bq,KL,ae,e,e'] at this ⊢
                 exact this
             · simp[bq,ae,KL,aG,bX]
             · intro l hl
               exact JT (hJ hl)
             · exact fun a ha b hb=>GD (hJ ha) (hJ hb)
           · rintro⟨j,hj⟩
             have oW:∀n,gU (jX d2) (.loc n)= .unused:=ko _
             rw[iu]
             have hH:gU (kM d2 ((t,(q:Int))::r)++[(.loc 8,⟨5,aG (((t.kids.take j).map fun k=>(k,(d.length:Int))).map cU)⟩)]) =
                 bL (gU (kM d2 ((t,(q:Int))::r))) (.loc 8) (.live ⟨5,aG (((t.kids.take j).map fun k=>(k,(d.length:Int))).map cU)⟩):=qM _ _ _
             rw[hH]
             have re:(((t.kids.take j).map fun k=>(k,(d.length:Int))).map cU).length=j:=by rw[List.length_map,List.length_map,List.length_take];omega
             simp only[↓aX,mX,reduceCtorEq,Nat.reduceEqDiff,Nat.reduceLT,Nat.reduceLeDiff,Nat.reduceAdd,Nat.reduceMul,Int.reduceToNat,Int.reduceLE,Int.reduceLT,kM,List.cons_append,List.nil_append,cb,bO,bG]
             by_cases bz:j<t.kids.length
             · rw[show decide ((j:Int)<(t.kids.length:Int))=true by simpa using bz]
               obtain⟨k,hk⟩:∃k,t.kids[j]?=some k:=⟨_,List.getElem?_eq_getElem bz⟩
               have hw:IntKind.i64.wrap ((j:Int)+1)=((j+1:Nat):Int):=wrap64 (by omega) (by omega)
               have tm:((t.kids.take (j+1)).map fun k=>(k,(d.length:Int))).map cU=((t.kids.take j).map fun k=>(k,(d.length:Int))).map cU++[cU (k,(d.length:Int))]:=by rw[List.take_add_one,hk];simp
               simp only[↓aX,mX,reduceCtorEq,Nat.reduceEqDiff,Nat.reduceLT,Nat.reduceLeDiff,Nat.reduceAdd,Nat.reduceMul,Int.reduceToNat,Int.reduceLE,Int.reduceLT,iI,hk,lW,Tree.aU,Tree.cs,oW]
               rw[eX 5 80 77 8 (((t.kids.take j).map fun k=>(k,(d.length:Int))).map cU) (.agg [.bool k.text,.str k.s,.list (eh k.attrs),.list (eY k.kids),.int .i64 d.length]) (by simp[ae]) re rfl (by simp[IV.cells]) (by omega) (by decide) (by decide) (by simp[ae,oW])]
               simp only[↓aX,mX,reduceCtorEq,Nat.reduceEqDiff,Nat.reduceLT,Nat.reduceLeDiff,Nat.reduceAdd,Nat.reduceMul,Int.reduceToNat,Int.reduceLE,Int.reduceLT,hw]
               refine⟨⟨j+1,bz⟩,by simp only;omega,[(.loc 8,.loc 77)],?_⟩
               show WU _ _ _ (kM d2 ((t,(q:Int))::r)++[(.loc 8,_)]) _ _ _
               refine fh ?_ ?_ (jJ (gA ?_ ?_ ?_ ?_ ?_) ⟨?_,trivial⟩) (gq _) ?_ ?_
               · intro l hf
                 have:=gz d2 hf
                 cases l<;>simp_all[Lb.fresh,ae]
               · simp[iq,bq,bQ,put,bG,KL]
               · simp[bq,ae,KL]
               · simp[bq,ae,KL]
               · rw[iz _ _ (fun i y _ _=>by simp[bq,KL])]
                 simp[bq,ae]
               · simp[bq,ae,aG,cU,IV.cells,IV.b7]
               · intro i y h1 h2
                 have:=fO h1 h2
                 simp[bq,KL,ae] at this ⊢
                 exact this
               · simp only[tm,cr]
                 simp[bq,ae,cU]
               · intro l hl
                 rcases List.mem_append.1 hl with hl|hl
                 · rcases cz hl with rfl|rfl|rfl|rfl|⟨i,rfl⟩<;>simp[KL,Lb.fresh,bq]
                 · simp only[List.mem_singleton] at hl;subst hl;simp[KL,Lb.fresh,bq]
               · intro a ha b hb
                 have nA:a= .loc 2∨a= .loc 4∨a= .loc 1000∨a= .loc 1001∨a= .loc 8∨∃i,a=KL i:=by
                   rcases List.mem_append.1 ha with h|h
                   · rcases cz h with h|h|h|h|h<;>simp[h]
                   · simp only[List.mem_singleton] at h;simp[h]
                 have tp:b= .loc 2∨b= .loc 4∨b= .loc 1000∨b= .loc 1001∨b= .loc 8∨∃i,b=KL i:=by
                   rcases List.mem_append.1 hb with h|h
                   · rcases cz h with h|h|h|h|h<;>simp[h]
                   · simp only[List.mem_singleton] at h;simp[h]
                 rcases nA with rfl|rfl|rfl|rfl|rfl|⟨i,rfl⟩<;>rcases tp with rfl|rfl|rfl|rfl|rfl|⟨j,rfl⟩<;>simp[KL,bq]
             · have zg:j=t.kids.length:=by omega
               subst zg
               rw[show decide ((t.kids.length:Int)<(t.kids.length:Int))=false by simp]
               have xz:se (.int .i64 1) (r.length+1)=some 1:=km .i64 1 _ (by omega)
               simp only[↓aX,mX,reduceCtorEq,Nat.reduceEqDiff,Nat.reduceLT,Nat.reduceLeDiff,Nat.reduceAdd,Nat.reduceMul,Int.reduceToNat,Int.reduceLE,Int.reduceLT,qk,j4,sf,sg,xz,Option.bind_some,Option.map_some,Option.isSome_none,List.take_length,Nat.add_sub_cancel]
               rw[oU (sz:=5) (b:=80) (d:=82) (l:= .loc 8) (l2:= .loc 1001) (els:=aG ((t.kids.map fun k=>(k,(d.length:Int))).map cU)) (els2:=aG (cU (t,(q:Int))::r.map cU)) (xs:=r.map cU) (by simp[ae]) (by simp[aG]) (by simp[ae])
                 (by simp[aG];omega) (by simp[aG];exact List.take_of_length_le (by simp)) (ue r) (by simp) (by omega) (by decide) (by simp[Lb.app,Lb.fresh]) (by simp[Lb.app,Lb.fresh,ae,oW])]
               simp only[↓aX,mX,reduceCtorEq,Nat.reduceEqDiff,Nat.reduceLT,Nat.reduceLeDiff,Nat.reduceAdd,Nat.reduceMul,Int.reduceToNat,Int.reduceLE,Int.reduceLT]
               refine⟨{d:=d2,l:=(t.kids.map fun k=>(k,(d.length:Int)))++r,hw:=yX,hp:=Cj,hc:=IY,hb:=Ch,hk:=Cd},?_,[(.loc 1001,.loc 82)],?_⟩
               · simp only[List.map_append,List.map_map,c7,List.map_cons,aY]
                 rw[show(Prod.fst∘fun k:Tree=>(k,(d.length:Int)))=id from rfl,List.map_id]
                 omega
               · show WU _ _ _ (kM d2 ((t.kids.map fun k=>(k,(d.length:Int)))++r)) _ _ _
                 refine fh ?_ ?_ (gA ?_ ?_ ?_ ?_ ?_) (jv _) ?_ ?_
                 · intro l hf
                   have:=gz d2 hf
                   cases l<;>simp_all[Lb.fresh,ae]
                 · simp[iq,bq,bQ,put,KL]
                 · simp[bq,ae,KL]
                 · simp[bq,ae,KL]
                 · rw[iz _ _ (fun i y _ _=>by simp[bq,KL])]
                   simp[bq,ae]
                 · simp[bq,ae,aG]
                 · intro i y h1 h2
                   have:=fO h1 h2
                   simp[bq,KL,ae] at this ⊢
                   exact this
                 · intro l hl
                   rcases cz hl with rfl|rfl|rfl|rfl|⟨i,rfl⟩<;>simp[KL,Lb.fresh,bq]
                 · intro a ha b hb
                   rcases cz ha with rfl|rfl|rfl|rfl|⟨i,rfl⟩<;>rcases cz hb with rfl|rfl|rfl|rfl|⟨j,rfl⟩<;>simp[KL,bq]
         · have IZ:jr q y.kids= .sl (KL q) 1 0 y.kids.length:=by simp[jr,As]
           rw[IZ] at pZ
           have Lc:=fO hy As
           simp only[↓aX,mX,reduceCtorEq,Nat.reduceEqDiff,Nat.reduceLT,Nat.reduceLeDiff,Nat.reduceAdd,Nat.reduceMul,Int.reduceToNat,Int.reduceLE,Int.reduceLT,vC,vY,pZ]
           refine⟨by rintro l (rfl|rfl)<;>simp[Lb.iM],rfl,?_⟩
           rw[vj (sz:=1) (b:=8) (d:=61) (l:=KL q) (els:=aG (y.kids.map bl)) (x:= .int .i64 d.length) (by simp[ae,KL];simpa[KL,qL] using Lc) (by simp[aG]) rfl (by simp[IV.cells]) (by omega) (by decide) (by simp[Lb.app,Lb.fresh,KL]) (by simp[Lb.app,Lb.fresh,KL,ae,vC])]
           simp only[↓aX,mX,reduceCtorEq,Nat.reduceEqDiff,Nat.reduceLT,Nat.reduceLeDiff,Nat.reduceAdd,Nat.reduceMul,Int.reduceToNat,Int.reduceLE,Int.reduceLT,vC,vY,pZ,bG,KL]
           refine⟨by rintro l (rfl|rfl)<;>simp[Lb.iM],?_⟩
           refine dA (σ:={j:Nat // j≤t.kids.length}) (fun _=>s8 d2++[.loc 8]) (fun _ _=>false)
             (fun j=>[(2,.ptr (.loc 2) 1 0 0),(4,.ptr (.loc 4) 1 0 0),(5,.sl (.loc 1001) 5 0 (r.length+1)),(7,.int .i64 d.length),(8,.sl (.loc 8) 5 0 j.1),(66,.list (eY t.kids)),(67,.int .i64 t.kids.length),(68,.int .i64 j.1)])
             (fun j=>kM d2 ((t,(q:Int))::r)++[(.loc 8,⟨5,aG (((t.kids.take j.1).map fun k=>(k,(d.length:Int))).map cU)⟩)]) (fun j=>t.kids.length - j.1) ⟨0,Nat.zero_le _⟩ (fun _=>by rw[List.map_append,oV];rfl) (fun j=>by simp[ah,AV.ar,s8]) (fun j=>qN d2 _ _) ⟨[(.loc 1000,.loc 43),(KL q,.loc 61)],?_⟩ ?_
           · refine fh ?_ ?_ (jJ (gA ?_ ?_ ?_ ?_ ?_) ⟨?_,trivial⟩) (gq _) ?_ ?_
             · intro l hf
               have:=gz d hf
               have eg:∀i,l≠ .nest (.loc 1000) i 4:=fun i e=>by subst e;simp[Lb.fresh] at hf
               cases l<;>simp_all[Lb.fresh,ae]
             · simp[iq,bq,bQ,put,bG,KL]
             · simp[bq,ae,KL]
             · simp[bq,ae,KL,qx]
             · rw[Eo];simp[bq,ae]
             · simp[bq,ae,KL,aG,cU,IV.cells,IV.b7]
             · intro i z h1 h2
               rw[En,List.getElem?_set] at h1
               by_cases e:q=i
               · subst e
                 rw[if_pos rfl,if_pos (by simp;omega)] at h1
                 simp only[Option.some.injEq] at h1
                 subst h1
                 simp[bq,KL,ae,qL,aG,bl]
               · rw[if_neg e] at h1
                 have h3:d[i]?=some z:=by
                   by_cases hi:i<d.length
                   · rwa[List.getElem?_append_left hi] at h1
                   · rw[List.getElem?_append_right (by omega)] at h1
                     cases hq:i - d.length with
                     |zero=>rw[hq] at h1;simp at h1;subst h1;simp at h2
                     |succ n=>rw[hq] at h1;simp at h1
                 have:=fO h3 h2
                 have e':¬i=q:=fun h=>e h.symm
                 simp[bq,KL,ae,e,e'] at this ⊢
                 exact this
             · simp[bq,ae,KL,aG,bX]
             · intro l hl
               exact JT (hJ hl)
             · exact fun a ha b hb=>GD (hJ ha) (hJ hb)
           · rintro⟨j,hj⟩
             have oW:∀n,gU (jX d2) (.loc n)= .unused:=ko _
             rw[iu]
             have hH:gU (kM d2 ((t,(q:Int))::r)++[(.loc 8,⟨5,aG (((t.kids.take j).map fun k=>(k,(d.length:Int))).map cU)⟩)]) =
                 bL (gU (kM d2 ((t,(q:Int))::r))) (.loc 8) (.live ⟨5,aG (((t.kids.take j).map fun k=>(k,(d.length:Int))).map cU)⟩):=qM _ _ _
             rw[hH]
             have re:(((t.kids.take j).map fun k=>(k,(d.length:Int))).map cU).length=j:=by rw[List.length_map,List.length_map,List.length_take];omega
             simp only[↓aX,mX,reduceCtorEq,Nat.reduceEqDiff,Nat.reduceLT,Nat.reduceLeDiff,Nat.reduceAdd,Nat.reduceMul,Int.reduceToNat,Int.reduceLE,Int.reduceLT,kM,List.cons_append,List.nil_append,cb,bO,bG]
             by_cases bz:j<t.kids.length
             · rw[show decide ((j:Int)<(t.kids.length:Int))=true by simpa using bz]
               obtain⟨k,hk⟩:∃k,t.kids[j]?=some k:=⟨_,List.getElem?_eq_getElem bz⟩
               have hw:IntKind.i64.wrap ((j:Int)+1)=((j+1:Nat):Int):=wrap64 (by omega) (by omega)
               have tm:((t.kids.take (j+1)).map fun k=>(k,(d.length:Int))).map cU=((t.kids.take j).map fun k=>(k,(d.length:Int))).map cU++[cU (k,(d.length:Int))]:=by rw[List.take_add_one,hk];simp
               simp only[↓aX,mX,reduceCtorEq,Nat.reduceEqDiff,Nat.reduceLT,Nat.reduceLeDiff,Nat.reduceAdd,Nat.reduceMul,Int.reduceToNat,Int.reduceLE,Int.reduceLT,iI,hk,lW,Tree.aU,Tree.cs,oW]
               rw[eX 5 80 77 8 (((t.kids.take j).map fun k=>(k,(d.length:Int))).map cU) (.agg [.bool k.text,.str k.s,.list (eh k.attrs),.list (eY k.kids),.int .i64 d.length]) (by simp[ae]) re rfl (by simp[IV.cells]) (by omega) (by decide) (by decide) (by simp[ae,oW])]
               simp only[↓aX,mX,reduceCtorEq,Nat.reduceEqDiff,Nat.reduceLT,Nat.reduceLeDiff,Nat.reduceAdd,Nat.reduceMul,Int.reduceToNat,Int.reduceLE,Int.reduceLT,hw]
               refine⟨⟨j+1,bz⟩,by simp only;omega,[(.loc 8,.loc 77)],?_⟩
               show WU _ _ _ (kM d2 ((t,(q:Int))::r)++[(.loc 8,_)]) _ _ _
               refine fh ?_ ?_ (jJ (gA ?_ ?_ ?_ ?_ ?_) ⟨?_,trivial⟩) (gq _) ?_ ?_
               · intro l hf
                 have:=gz d2 hf
                 cases l<;>simp_all[Lb.fresh,ae]
               · simp[iq,bq,bQ,put,bG,KL]
               · simp[bq,ae,KL]
               · simp[bq,ae,KL]
               · rw[iz _ _ (fun i y _ _=>by simp[bq,KL])]
                 simp[bq,ae]
               · simp[bq,ae,aG,cU,IV.cells,IV.b7]
               · intro i y h1 h2
                 have:=fO h1 h2
                 simp[bq,KL,ae] at this ⊢
                 exact this
               · simp only[tm,cr]
                 simp[bq,ae,cU]
               · intro l hl
                 rcases List.mem_append.1 hl with hl|hl
                 · rcases cz hl with rfl|rfl|rfl|rfl|⟨i,rfl⟩<;>simp[KL,Lb.fresh,bq]
                 · simp only[List.mem_singleton] at hl;subst hl;simp[KL,Lb.fresh,bq]
               · intro a ha b hb
                 have nA:a= .loc 2∨a= .loc 4∨a= .loc 1000∨a= .loc 1001∨a= .loc 8∨∃i,a=KL i:=by
                   rcases List.mem_append.1 ha with h|h
                   · rcases cz h with h|h|h|h|h<;>simp[h]
                   · simp only[List.mem_singleton] at h;simp[h]
                 have tp:b= .loc 2∨b= .loc 4∨b= .loc 1000∨b= .loc 1001∨b= .loc 8∨∃i,b=KL i:=by
                   rcases List.mem_append.1 hb with h|h
                   · rcases cz h with h|h|h|h|h<;>simp[h]
                   · simp only[List.mem_singleton] at h;simp[h]
                 rcases nA with rfl|rfl|rfl|rfl|rfl|⟨i,rfl⟩<;>rcases tp with rfl|rfl|rfl|rfl|rfl|⟨j,rfl⟩<;>simp[KL,bq]
             · have zg:j=t.kids.length:=by omega
               subst zg
               rw[show decide ((t.kids.length:Int)<(t.kids.length:Int))=false by simp]
               have xz:se (.int .i64 1) (r.length+1)=some 1:=km .i64 1 _ (by omega)
               simp only[↓aX,mX,reduceCtorEq,Nat.reduceEqDiff,Nat.reduceLT,Nat.reduceLeDiff,Nat.reduceAdd,Nat.reduceMul,Int.reduceToNat,Int.reduceLE,Int.reduceLT,qk,j4,sf,sg,xz,Option.bind_some,Option.map_some,Option.isSome_none,List.take_length,Nat.add_sub_cancel]
               rw[oU (sz:=5) (b:=80) (d:=82) (l:= .loc 8) (l2:= .loc 1001) (els:=aG ((t.kids.map fun k=>(k,(d.length:Int))).map cU)) (els2:=aG (cU (t,(q:Int))::r.map cU)) (xs:=r.map cU) (by simp[ae]) (by simp[aG]) (by simp[ae])
                 (by simp[aG];omega) (by simp[aG];exact List.take_of_length_le (by simp)) (ue r) (by simp) (by omega) (by decide) (by simp[Lb.app,Lb.fresh]) (by simp[Lb.app,Lb.fresh,ae,oW])]
               simp only[↓aX,mX,reduceCtorEq,Nat.reduceEqDiff,Nat.reduceLT,Nat.reduceLeDiff,Nat.reduceAdd,Nat.reduceMul,Int.reduceToNat,Int.reduceLE,Int.reduceLT]
               refine⟨{d:=d2,l:=(t.kids.map fun k=>(k,(d.length:Int)))++r,hw:=yX,hp:=Cj,hc:=IY,hb:=Ch,hk:=Cd},?_,[(.loc 1001,.loc 82)],?_⟩
               · simp only[List.map_append,List.map_map,c7,List.map_cons,aY]
                 rw[show(Prod.fst∘fun k:Tree=>(k,(d.length:Int)))=id from rfl,List.map_id]
                 omega
               · show WU _ _ _ (kM d2 ((t.kids.map fun k=>(k,(d.length:Int)))++r)) _ _ _
                 refine fh ?_ ?_ (gA ?_ ?_ ?_ ?_ ?_) (jv _) ?_ ?_
                 · intro l hf
                   have:=gz d2 hf
                   cases l<;>simp_all[Lb.fresh,ae]
                 · simp[iq,bq,bQ,put,KL]
                 · simp[bq,ae,KL]
                 · simp[bq,ae,KL]
                 · rw[iz _ _ (fun i y _ _=>by simp[bq,KL])]
                   simp[bq,ae]
                 · simp[bq,ae,aG]
                 · intro i y h1 h2
                   have:=fO h1 h2
                   simp[bq,KL,ae] at this ⊢
                   exact this
                 · intro l hl
                   rcases cz hl with rfl|rfl|rfl|rfl|⟨i,rfl⟩<;>simp[KL,Lb.fresh,bq]
                 · intro a ha b hb
                   rcases cz ha with rfl|rfl|rfl|rfl|⟨i,rfl⟩<;>rcases cz hb with rfl|rfl|rfl|rfl|⟨j,rfl⟩<;>simp[KL,bq]
end Go.Am
