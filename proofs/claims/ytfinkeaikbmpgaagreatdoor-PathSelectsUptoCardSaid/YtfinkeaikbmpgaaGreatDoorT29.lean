import Derived.Test.YtfinkeaikbmpgaaGreatDoorKT26
set_option linter.unusedSimpArgs false
set_option linter.unusedVariables false
set_option linter.unnecessarySimpa false
set_option linter.defProp false
/- The tree at a place, by parents. -/
namespace Go.Am
open Go Go.RowKit
theorem mh (m:Int) (j:Nat) (a:List Node) (k:Nat) (h:k∈bA m j a):j≤k∧k<j+a.length:=by
 obtain⟨h1,x,h2,_⟩:=(lr m j a k).1 h;have:=(List.getElem?_eq_some_iff.1 h2).1;omega
theorem oS (m:Int):∀(j:Nat) (a:List Node),(bA m j a).length≤a.length
 |j,[]=>by simp[bA]
 |j,x::r=>by
  have:=oS m (j+1) r;simp only[bA,List.length_append,List.length_cons];split<;>simp<;>omega
theorem mi (d:Doc):∀(f g n:Nat),d.length - n≤f→d.length - n≤g→fj d f n=fj d g n
 |0,0,n,_,_=>rfl
 |0,g+1,n,h,_=>by
  have:d[n]?=none:=List.getElem?_eq_none (by omega);simp[fj,this]
 |f+1,0,n,_,h=>by
  have:d[n]?=none:=List.getElem?_eq_none (by omega);simp[fj,this]
 |f+1,g+1,n,h1,h2=>by
  simp only[fj];cases hx:d[n]? with
  |none=>rfl
  |some x=>
   simp only
   congr 1
   refine List.map_congr_left fun k hk=> ?_
   have:=mh _ _ _ _ hk;exact mi d f g k (by omega) (by omega)
def dy (d:Doc) (n:Nat):Tree:=fj d d.length n
theorem sq {d:Doc} {n:Nat} {x:Node} (hx:d[n]?=some x):dy d n= .mk x.text x.s x.attrs ((bA n (n+1) (d.drop (n+1))).map (dy d)):=by
 have bz:=(List.getElem?_eq_some_iff.1 hx).1;obtain⟨f,hf⟩:∃f,d.length=f+1:=⟨d.length - 1,by omega⟩;unfold dy;rw[hf,fj,hx];simp only
 congr 1
 refine List.map_congr_left fun k hk=> ?_
 have:=mh _ _ _ _ hk;rw[List.length_drop] at this;exact mi d f (f+1) k (by omega) (by omega)
def nG (T:Nat→Nat) (p:Int→Bool):Nat→List Node→Nat
 |_,[]=>0
 |j,x::r=>(if p x.parent then T j else 0)+nG T p (j+1) r
def Node.IW (x:Node):Nat:=1+x.s.length+pI x.attrs
def y9:List Node→Nat
 |[]=>0
 |x::r=>x.IW+y9 r
theorem oT (T:Nat→Nat) (j:Nat):∀(i:Nat) (l:List Node),nG T (fun p=>decide (p<((j+1:Nat):Int))) i l=nG T (fun p=>decide (p<(j:Int))) i l+nG T (fun p=>decide (p=(j:Int))) i l
 |i,[]=>rfl
 |i,x::r=>by
  have ih:=oT T j (i+1) r;simp only[nG,ih];by_cases h1:x.parent<(j:Int)
  ·rw[if_pos (by simp;omega),if_pos (by simpa using h1),if_neg (by simp;omega)];omega
  ·by_cases h2:x.parent=(j:Int)
   ·rw[if_pos (by simp;omega),if_neg (by simpa using h1),if_pos (by simpa using h2)];omega
   ·rw[if_neg (by simp;omega),if_neg (by simpa using h1),if_neg (by simpa using h2)];omega
theorem sr (T:Nat→Nat):∀(l:List Node) (j:Nat),(∀k x,l[k]?=some x→x.parent<((j+k:Nat):Int)) →
  (∀k x,l[k]?=some x→T (j+k)=x.IW+nG T (fun p=>decide (p=((j+k:Nat):Int))) (j+k+1) (l.drop (k+1)))→nG T (fun p=>decide (p<(j:Int))) j l=y9 l
 |[],j,_,_=>rfl
 |x::r,j,h1,h2=>by
  have a1:=h1 0 x rfl;have a2:=h2 0 x rfl
  have ih:=sr T r (j+1) (fun k y hk=>by have:=h1 (k+1) y (by simpa using hk);rw[show j+1+k=j+(k+1) by omega];exact this)
   (fun k y hk=>by have:=h2 (k+1) y (by simpa using hk);rw[show j+1+k=j+(k+1) by omega];simpa using this)
  rw[oT] at ih;simp only[nG,y9,Nat.add_zero,List.drop_succ_cons,List.drop_zero] at a1 a2 ⊢;rw[if_pos (by simpa using a1),a2];omega
theorem ss (T:Nat→Tree) (m:Int):∀(j:Nat) (l:List Node),nG (fun k=>(T k).wt) (fun p=>decide (p=m)) j l=fL ((bA m j l).map T)
 |j,[]=>by simp[nG,bA,fL]
 |j,x::r=>by
  have ih:=ss T m (j+1) r;simp only[nG,bA,List.map_append,kC,ih];by_cases h:x.parent=m
  ·rw[if_pos (by simpa using h),if_pos h];simp[fL]
  ·rw[if_neg (by simpa using h),if_neg h];simp[fL]
theorem vy:∀d:List Node,y9 d≤gO d
 |[]=>Nat.le_refl _
 |x::r=>by have:=vy r;simp only[y9,gO,Node.IW,Node.wt];omega
theorem y_ {d:Doc} (hp:∀(k:Nat) (x:Node),d[k]?=some x→x.parent<(k:Int)) (h:0<d.length):(dy d 0).wt≤gO d:=by
 have dN:=sr (fun k=>(dy d k).wt) d 0 (fun k x hk=>by simpa using hp k x hk) (fun k x hk=>by
  simp only[Nat.zero_add];rw[sq hk,Tree.jQ,ss];rfl)
 have hle:=vy d;cases d with
 |nil=>simp at h
 |cons x r=>
  simp only[nG] at dN;have:=hp 0 x rfl;rw[if_pos (by simpa using this)] at dN;omega
def dR (aV:Nat):AC:=
(.seq (.au [⟨some 2,none,.box (.t 0)⟩,⟨some 4,none,.new [(.bool false),(.str []),.nil0,.nil0]⟩]) (.seq (.au [⟨some 8,none,.bU (.t 2) 0⟩,⟨some 9,none,.load none (.t 8)⟩,⟨some 10,none,.af (.t 1)⟩,⟨some 11,none,.fH (.t 9) (.t 10) 5⟩,⟨some 12,none,.load (some 5) (.t 11)⟩,⟨some 5,none,.new [(.bool false),(.str []),.nil0,(.int .i64 0),.nil0]⟩,⟨none,none,.store 5 (.t 5) (.t 12)⟩]) (.seq (.fY [⟨some 13,none,.bU (.t 5) 0⟩,⟨some 14,none,.load none (.t 13)⟩,⟨some 15,none,.bU (.t 5) 1⟩,⟨some 16,none,.load none (.t 15)⟩,⟨some 17,none,.bU (.t 5) 2⟩,⟨some 18,none,.load none (.t 17)⟩,⟨some 19,none,.app (.c .nil0) (.t 18) 2 32⟩,⟨some 20,none,.rp [(.bool false),(.str []),.nil0,.nil0] [(0,(1,(.t 14))),(1,(1,(.t 16))),(2,(1,(.t 19)))]⟩,⟨some 6,none,.new [(.bool false),(.str []),.nil0,.nil0]⟩,⟨none,none,.store 4 (.t 6) (.t 20)⟩] [[],[0],[],[2],[],[4],[5],[1,3,6],[],[8,7,6,0,1,2,3,4,5,6,7,8]] [.no,.rw [.loc 5] [],.no,.rw [.loc 5] [],.no,.rw [.loc 5] [],.rw [] [.loc 19],.no,.rw [] [.loc 6],.rw [] [.loc 6]]) (.seq (.gh .nF (.seq (.au [⟨some 21,none,.af (.t 1)⟩,⟨some 22,none,.bin .add (.t 21) (.c (.int .i64 1))⟩,⟨some 7,none,.af (.t 22)⟩]) (.block 0 (.loop (.seq (.seq (.au [⟨some 23,none,.af (.t 7)⟩,⟨some 24,none,.bU (.t 2) 0⟩,⟨some 25,none,.load none (.t 24)⟩,⟨some 26,none,.len (.t 25)⟩,⟨some 27,none,.bin .lss (.t 23) (.t 26)⟩]) (.cond (.t 27) .skip (.exit 0))) (.seq (.block 1 (.seq (.au [⟨some 30,none,.bU (.t 2) 0⟩,⟨some 31,none,.load none (.t 30)⟩,⟨some 32,none,.af (.t 7)⟩,⟨some 33,none,.fH (.t 31) (.t 32) 5⟩,⟨some 34,none,.bU (.t 33) 3⟩,⟨some 35,none,.load none (.t 34)⟩,⟨some 36,none,.af (.t 1)⟩,⟨some 37,none,.bin .eql (.t 35) (.t 36)⟩]) (.cond (.t 37) (.fY [⟨some 38,none,.bU (.t 6) 3⟩,⟨some 39,none,.load none (.t 38)⟩,⟨some 40,none,.load (some 1) (.t 2)⟩,⟨some 41,none,.af (.t 7)⟩,⟨some 42,none,.call aV [(.t 40),(.t 41)]⟩,⟨some 43,none,.lits 1 4 [(.bool false),(.str []),.nil0,.nil0] [(0,(.t 42))]⟩,⟨some 44,none,.app (.t 39) (.t 43) 4 72⟩,⟨some 45,none,.bU (.t 6) 3⟩,⟨none,none,.store 1 (.t 45) (.t 44)⟩] [[],[0],[],[],[2,3],[4],[1,5,4],[0,1,2,3,4,5,6],[7,6,6,0,1,2,3,4,5,6]] [.no,.rw [.loc 6] [],.rw [.loc 2] [],.no,.no,.no,(.rw [] [.loc 1000,.loc 44]),.no,.rw [] [.loc 6]]) .skip))) (.au [⟨some 28,none,.af (.t 7)⟩,⟨some 29,none,.bin .add (.t 28) (.c (.int .i64 1))⟩,⟨some 7,none,.af (.t 29)⟩]))))))) (.gh (.tF (.loc 1000) (.loc 6) 3) (.seq (.au [⟨some 46,none,.load (some 4) (.t 6)⟩,⟨none,none,.store 4 (.t 4) (.t 46)⟩]) .ret))))))
theorem wG {l:Lb} {sz:Nat} {xs:List IV} {H:Hp} (h1:H l= .live ⟨sz,aG xs⟩) (h2:l.fresh=true) (h3:Flat xs) :
  ∀q s ys,(fun p:Lb=>if p=l then some (sz,xs) else none) q=some (s,ys)→H q= .live ⟨s,aG ys⟩∧q.fresh=true∧Flat ys:=by
 intro q s ys hq;simp only at hq;split at hq
 ·rename_i e;subst e;simp only[Option.some.injEq,Prod.mk.injEq] at hq;obtain⟨rfl,rfl⟩:=hq;exact⟨h1,h2,h3⟩
 ·cases hq
theorem su (m:Int) (j:Nat) (l:List Node) (i:Nat) (x:Node) (h:l[i]?=some x):bA m j (l.take (i+1))=bA m j (l.take i)++(if x.parent=m then [j+i] else []):=by
 have bz:=(List.getElem?_eq_some_iff.1 h).1;rw[List.take_add_one,h,gp];simp only[Option.toList_some,bA,List.append_nil,List.length_take];rw[Nat.min_eq_left (by omega)]
theorem BL {P:Program} {G:Nat→Option (List IV)} {aV:Nat} (hF:aB P G aV=some (47,[((some (some 4)),4)],(dR aV).bare)) (d:Doc) (hd:gO d≤B) (n:Nat) (hn:n<d.length)
  (hK:∀k,n<k→k<d.length→ai P G aV [Doc.av d,.int .i64 (k:Int)] (dy d k).av):ai P G aV [Doc.av d,.int .i64 (n:Int)] (dy d n).av:=by
 refine gI hF (by simp) (by simp[ah,AV.ar,Doc.av]) (by simp[AV.ar,ah,Tree.av]) ?_;have rn:B=1073741824:=rfl;have vo:=fk d;obtain⟨x,hx⟩:∃x,d[n]?=some x:=⟨_,List.getElem?_eq_getElem hn⟩;have GB:=kG (List.mem_of_getElem? hx);have JR:=g_ x.attrs;simp only[Node.wt] at GB;unfold dR;have ku:IntKind.i64.wrap ((n:Int)+1)=((n+1:Nat):Int):=wrap64 (by omega) (by omega)
 simp only[↓aX,mX,reduceCtorEq,Nat.reduceEqDiff,Nat.reduceLT,Nat.reduceLeDiff,Nat.reduceAdd,Nat.reduceMul,Int.reduceToNat,Int.reduceLE,Int.reduceLT,Doc.av,List.length_map,Doc.er hx,gJ,Node.aU,Node.cs];rw[jk 2 32 19 (eh x.attrs) (nc _) (oi _) (by rw[de];omega) (by decide) (by simp[ae,Hp.none])]
 simp only[↓aX,mX,reduceCtorEq,Nat.reduceEqDiff,Nat.reduceLT,Nat.reduceLeDiff,Nat.reduceAdd,Nat.reduceMul,Int.reduceToNat,Int.reduceLE,Int.reduceLT];refine⟨rfl,?_⟩;rw[kx]
 refine⟨_,_,(lv (fun p:Lb=>if p= .loc 19 then some (2,eh x.attrs) else none)
    [(1,.int .i64 n),(2,.ptr (.loc 2) 1 0 0),(4,.ptr (.loc 4) 4 0 0),(6,.ptr (.loc 6) 4 0 0)]
    [(.loc 2,⟨1,[[.list (d.map Node.iv)]]⟩),(.loc 4,⟨4,[[.bool false,.str [],.nil0,.nil0]]⟩),(.loc 6,⟨4,[[.bool x.text,.str x.s,.list (eh x.attrs),.nil0]]⟩)] []
    (wG (by simp[ae]) rfl (oi _)) ?_ ?_ ?_).trans (iJ (q:= .loc 6) (cs:=[.bool x.text,.str x.s,.list (eh x.attrs),.nil0]) (j:=3) (d:=1000) (sz:=4) rfl rfl rfl (by decide)),?_⟩
 ·simp[ah,AV.ar]
 ·rintro r hr cs bx l hl;simp only[List.mem_cons,List.not_mem_nil,or_false] at hr;rcases hr with rfl|rfl|rfl<;>(simp only[List.mem_singleton] at bx;subst bx;simp[ah,AV.ar] at hl)
 ·refine⟨?_,?_,?_,by simp[bq],fun l hl=>⟨id,fun _=>rfl⟩⟩
  ·intro l hf hu;exfalso;apply hu;cases l<;>simp_all[Lb.fresh,ae,Hp.none,pb]
  ·simp[iq,bq,bQ,put,mo,bE]
  ·simp[jW,bq,pb,ae,bX,bT,bQ,gP,mo,de];exact List.take_of_length_le (by simp[de])
 ·rw[iu];simp only[↓aX,mX,reduceCtorEq,Nat.reduceEqDiff,Nat.reduceLT,Nat.reduceLeDiff,Nat.reduceAdd,Nat.reduceMul,Int.reduceToNat,Int.reduceLE,Int.reduceLT,cb,bO,ku]
  have FN:∀i,i≤d.length - (n+1)→((bA n (n+1) ((d.drop (n+1)).take i)).map (dy d)).length≤i:=fun i hi=>by
   rw[List.length_map];refine Nat.le_trans (oS _ _ _) ?_;rw[List.length_take];omega
  refine dA (σ:={i:Nat // i≤d.length - (n+1)}) (fun _=>[.loc 2,.loc 4,.loc 6,.loc 1000]) (fun _ _=>false)
   (fun q=>[(1,.int .i64 n),(2,.ptr (.loc 2) 1 0 0),(4,.ptr (.loc 4) 4 0 0),(6,.ptr (.loc 6) 4 0 0),(7,.int .i64 ((n+1+q.1:Nat):Int))])
   (fun q=>[(.loc 2,⟨1,[[.list (d.map Node.iv)]]⟩),(.loc 4,⟨4,[[.bool false,.str [],.nil0,.nil0]]⟩),(.loc 6,⟨4,[[.bool x.text,.str x.s,.list (eh x.attrs),.sl (.loc 1000) 4 0 ((bA n (n+1) ((d.drop (n+1)).take q.1)).map (dy d)).length]]⟩),
    (.loc 1000,⟨4,aG (eY ((bA n (n+1) ((d.drop (n+1)).take q.1)).map (dy d)))⟩)])
   (fun q=>d.length - q.1) ⟨0,Nat.zero_le _⟩ (fun _=>rfl) (fun q=>by simp[ah,AV.ar]) ?_ ⟨[],?_⟩ ?_
  ·rintro q r hr cs bx l hl;simp only[List.mem_cons,List.not_mem_nil,or_false] at hr;rcases hr with rfl|rfl|rfl|rfl
   ·simp only[List.mem_singleton] at bx;subst bx;simp[ah,AV.ar] at hl
   ·simp only[List.mem_singleton] at bx;subst bx;simp[ah,AV.ar] at hl
   ·simp only[List.mem_singleton] at bx;subst bx;simp[ah,AV.ar] at hl;subst hl;simp
   ·rw[bY bx] at hl;simp at hl
  ·refine⟨?_,?_,?_,by simp[bq],fun l _=>⟨id,fun _=>rfl⟩⟩
   ·intro l hf hu;exfalso;apply hu;cases l<;>simp_all[Lb.fresh,ae,Hp.none]
   ·simp[iq,bq,bQ,put]
   ·simp[jW,bq,ae,bX,bT,bQ,aG,bA,eY]
  ·rintro⟨i,hi⟩;rw[iu];simp only[↓aX,mX,reduceCtorEq,Nat.reduceEqDiff,Nat.reduceLT,Nat.reduceLeDiff,Nat.reduceAdd,Nat.reduceMul,Int.reduceToNat,Int.reduceLE,Int.reduceLT,cb,bO,List.length_map];have Cm:=FN i hi;by_cases bz:n+1+i<d.length
   ·rw[show decide (((n+1+i:Nat):Int)<(d.length:Int))=true by rw[decide_eq_true_eq];omega];obtain⟨y,hy⟩:∃y,d[n+1+i]?=some y:=⟨_,List.getElem?_eq_getElem bz⟩;have K6:(d.drop (n+1))[i]?=some y:=by rw[List.getElem?_drop];exact hy
    have hw:IntKind.i64.wrap (((n+1+i:Nat):Int)+1)=((n+1+(i+1):Nat):Int):=by rw[wrap64 (by omega) (by omega)];omega
    have jf:=su n (n+1) (d.drop (n+1)) i y K6;have hr:∀(ρ:Lb→Lb) (xs:List IV),bX ρ ⟨4,aG xs⟩=⟨4,aG xs⟩:=fun ρ xs=>cr _ _ _
    simp only[↓aX,mX,reduceCtorEq,Nat.reduceEqDiff,Nat.reduceLT,Nat.reduceLeDiff,Nat.reduceAdd,Nat.reduceMul,Int.reduceToNat,Int.reduceLE,Int.reduceLT,Doc.er hy,gJ,Node.aU,Node.cs];cases JS:(y.parent==(n:Int)) with
    |false=>
     have eg:¬y.parent=(n:Int):=by simpa using JS
     rw[if_neg eg,List.append_nil] at jf;simp only[↓aX,mX,reduceCtorEq,Nat.reduceEqDiff,Nat.reduceLT,Nat.reduceLeDiff,Nat.reduceAdd,Nat.reduceMul,Int.reduceToNat,Int.reduceLE,Int.reduceLT,hw];refine⟨⟨i+1,by omega⟩,by simp only;omega,[],?_⟩;refine⟨?_,?_,?_,by simp[bq],fun l _=>⟨id,fun _=>rfl⟩⟩
     ·intro l hf hu;exfalso;apply hu;cases l<;>simp_all[Lb.fresh,ae,Hp.none]
     ·simp[iq,bq,bQ,put]
     ·simp only[jW,hr,jf];simp[bq,ae,bX,bT,bQ]
    |true=>
     have he:y.parent=(n:Int):=by simpa using JS
     rw[if_pos he] at jf;simp only[↓aX,mX,reduceCtorEq,Nat.reduceEqDiff,Nat.reduceLT,Nat.reduceLeDiff,Nat.reduceAdd,Nat.reduceMul,Int.reduceToNat,Int.reduceLE,Int.reduceLT];refine⟨rfl,ik (hK (n+1+i) (by omega) bz) ?_⟩;simp only[↓aX,mX,reduceCtorEq,Nat.reduceEqDiff,Nat.reduceLT,Nat.reduceLeDiff,Nat.reduceAdd,Nat.reduceMul,Int.reduceToNat,Int.reduceLE,Int.reduceLT,Tree.av]
     rw[eX 4 72 44 1000 (eY ((bA n (n+1) ((d.drop (n+1)).take i)).map (dy d))) (.agg [.bool (dy d (n+1+i)).text,.str (dy d (n+1+i)).s,.list (eh (dy d (n+1+i)).attrs),.list (eY (dy d (n+1+i)).kids)]) (by simp[ae]) (by rw[bG,List.length_map]) rfl (by simp[IV.cells])
      (by rw[List.length_map] at Cm;omega) (by decide) (by decide) (by simp[ae,Hp.none])]
     simp only[↓aX,mX,reduceCtorEq,Nat.reduceEqDiff,Nat.reduceLT,Nat.reduceLeDiff,Nat.reduceAdd,Nat.reduceMul,Int.reduceToNat,Int.reduceLE,Int.reduceLT,hw];refine⟨by rintro l (rfl|rfl)<;>simp[Lb.iM],⟨i+1,by omega⟩,by simp only;omega,[(.loc 1000,.loc 44)],?_⟩;refine⟨?_,?_,?_,by simp[bq],?_⟩
     ·intro l hf hu;exfalso;apply hu;cases l<;>simp_all[Lb.fresh,ae,Hp.none]
     ·simp[iq,bq,bQ,put]
     ·simp only[jW,hr,jf,List.map_append,nO];simp[bq,ae,bX,bT,bQ,eY,Tree.rT,Tree.cs,kf]
     ·intro l hl;simp only[List.mem_cons,List.not_mem_nil,or_false] at hl;rcases hl with rfl|rfl|rfl|rfl
      ·exact⟨fun _=>rfl,fun _=>rfl⟩
      ·exact⟨fun _=>rfl,fun _=>rfl⟩
      ·exact⟨fun _=>rfl,fun _=>rfl⟩
      ·exact⟨fun _=>rfl,fun h=>by simp[Lb.fresh] at h⟩
   ·rw[show decide (((n+1+i:Nat):Int)<(d.length:Int))=false by rw[decide_eq_false_iff_not];omega];have lC:(d.drop (n+1)).take i=d.drop (n+1):=List.take_of_length_le (by rw[List.length_drop];omega);rw[lC];simp only[↓aX,mX,reduceCtorEq,Nat.reduceEqDiff,Nat.reduceLT,Nat.reduceLeDiff,Nat.reduceAdd,Nat.reduceMul,Int.reduceToNat,Int.reduceLE,Int.reduceLT]
    refine⟨4,eY ((bA n (n+1) (d.drop (n+1))).map (dy d)),0,_,[.bool x.text,.str x.s,.list (eh x.attrs),.sl (.loc 1000) 4 0 _],rfl,rfl,rfl,by simp,by rw[bG,List.length_map,Nat.zero_add];exact Nat.le_refl _,vk _,?_⟩
    simp only[↓aX,mX,reduceCtorEq,Nat.reduceEqDiff,Nat.reduceLT,Nat.reduceLeDiff,Nat.reduceAdd,Nat.reduceMul,Int.reduceToNat,Int.reduceLE,Int.reduceLT,List.drop_zero,List.take_of_length_le (show(eY ((bA n (n+1) (d.drop (n+1))).map (dy d))).length≤(bA n (n+1) (d.drop (n+1))).length by rw[bG,List.length_map];exact Nat.le_refl _)];rw[sq hx];rfl
end Go.Am
