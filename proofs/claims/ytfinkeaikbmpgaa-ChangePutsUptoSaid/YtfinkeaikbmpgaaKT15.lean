import Derived.Test.YtfinkeaikbmpgaaKAm33
import Derived.Test.YtfinkeaikbmpgaaKT8
import Derived.Test.YtfinkeaikbmpgaaKAm25
set_option linter.unusedSimpArgs false
set_option linter.unusedVariables false
set_option linter.unnecessarySimpa false
set_option linter.defProp false
/- Documents: made; walked; the trees in them. -/
namespace Go.Am
open Go Go.RowKit
def Doc.av (d:Doc):AV:= .agg [.list (d.map Node.iv)]
section
variable {P:Program} {G:Nat→Option (List IV)}
theorem OI {dF ah:Nat} (hF:aA P G dF=some (58,[(none,6)],(m9 ah dF).bare)) (hC:∀xs:List Attr,xs.length≤B→az P G ah [.list (dY xs)] (.list (dY xs))) (x:Tree) (d:Doc) (p:Int) (hx:d.length+x.wt≤B) :
  AE P G 5 dF [.ptr (.par 0) 1 0 0,x.av,.int .i64 p] (d.map Node.iv) (.int .i64 d.length) ((d++x.flat d.length p).map Node.iv):=by
 have key:=AB (M:=fun l=>∀x∈l,∀(d:Doc) (p:Int),d.length+x.wt≤B→AE P G 5 dF [.ptr (.par 0) 1 0 0,x.av,.int .i64 p] (d.map Node.iv) (.int .i64 d.length) ((d++x.flat d.length p).map Node.iv))
  (fun l h x hx d p hB=>OD hF x d p hB (hC _ (by have:=lr x;have:=jM x.attrs;omega)) fun k hk d' GW=>h x hx k hk d' d.length (by omega))
 exact key [x] x (by simp) d p hx
end
def nZ (eQ dF:Nat):AC:=
(.seq (.aM [⟨some 1,none,.box (.t 0)⟩,⟨some 2,none,.new [.nil0]⟩,⟨some 3,none,.ak (.c (.int .i64 0))⟩]) (.seq (.seq (.aM [⟨some 5,none,.load (some 4) (.t 1)⟩,⟨some 6,none,.call eQ [(.t 5)]⟩,⟨some 7,none,.not (.t 6)⟩]) (.cond (.t 7) (.seq (.aM [⟨some 8,none,.o7 [.nil0] []⟩,⟨none,none,.store 1 (.t 2) (.t 8)⟩,⟨some 3,none,.ak (.c (.int .i64 1))⟩]) .ret) .skip)) (.seq (.aM [⟨some 4,none,.new [.nil0]⟩]) (.seq (.aM [⟨some 9,none,.load (some 4) (.t 1)⟩,⟨some 10,none,.call dF [(.t 4),(.t 9),(.c (.int .i64 (-1)))]⟩]) (.seq (.aM [⟨some 11,none,.load (some 1) (.t 4)⟩,⟨none,none,.store 1 (.t 2) (.t 11)⟩,⟨some 3,none,.ak (.c (.int .i64 0))⟩]) (.gh (.As (.loc 100) (.loc 2) 0) .ret))))))
theorem Ma {P:Program} {G:Nat→Option (List IV)} {db eQ dF:Nat} (hF:aA P G db=some (12,[((some (some 1)),2),(none,3)],(nZ eQ dF).bare)) (x:Tree) (hx:x.wt≤B)
  (hG:az P G eQ [x.av] (.bool x.iu)) (hP:AE P G 5 dF [.ptr (.par 0) 1 0 0,x.av,.int .i64 (-1)] [] (.int .i64 0) ((bF x).map Node.iv)) :
  az P G db [x.av] (.dU [Doc.av (lx x).1,.int .i64 (lx x).2]):=by
 refine jr hF (by simp) (by simp[ax,AV.aI,Tree.av]) (by simp[AV.aI,ax,Doc.av]) ?_;unfold nZ;simp only[↓aX,mX,reduceCtorEq,Nat.reduceEqDiff,Nat.reduceLT,Nat.reduceLeDiff,Nat.reduceAdd,Nat.reduceMul,Int.reduceToNat,Int.reduceLE,Int.reduceLT,Tree.av];refine aO hG ?_;cases hg:x.iu with
 |false=>
  simp only[↓aX,mX,reduceCtorEq,Nat.reduceEqDiff,Nat.reduceLT,Nat.reduceLeDiff,Nat.reduceAdd,Nat.reduceMul,Int.reduceToNat,Int.reduceLE,Int.reduceLT,iZ];simp[norm,ln,lx,hg,Doc.av]
 |true=>
  simp only[↓aX,mX,reduceCtorEq,Nat.reduceEqDiff,Nat.reduceLT,Nat.reduceLeDiff,Nat.reduceAdd,Nat.reduceMul,Int.reduceToNat,Int.reduceLE,Int.reduceLT]
  refine pr (l:= .loc 4) (N:= .loc 100) (o:=none) hP rfl ⟨by simp only[↓aX,mX,reduceCtorEq,Nat.reduceEqDiff,Nat.reduceLT,Nat.reduceLeDiff,Nat.reduceAdd,Nat.reduceMul,Int.reduceToNat,Int.reduceLE,Int.reduceLT],rfl⟩ (by simp only[↓aX,mX,reduceCtorEq,Nat.reduceEqDiff,Nat.reduceLT,Nat.reduceLeDiff,Nat.reduceAdd,Nat.reduceMul,Int.reduceToNat,Int.reduceLE,Int.reduceLT]) (fun _=>⟨rfl,by simp⟩) ?_
  rintro L' iy AI ⟨b1,b2,b3⟩ dM nG;have hL:L'= .loc 100:=by simpa using AI
  subst hL;have c2:iy (.loc 2)= .live ⟨1,[[.nil0]]⟩:=by rw[dM _ (by simp) (by simp) (by simp)];simp only[↓aX,mX,reduceCtorEq,Nat.reduceEqDiff,Nat.reduceLT,Nat.reduceLeDiff,Nat.reduceAdd,Nat.reduceMul,Int.reduceToNat,Int.reduceLE,Int.reduceLT]
  simp only[↓aX,mX,reduceCtorEq,Nat.reduceEqDiff,Nat.reduceLT,Nat.reduceLeDiff,Nat.reduceAdd,Nat.reduceMul,Int.reduceToNat,Int.reduceLE,Int.reduceLT,b2,c2,iZ];refine⟨5,(bF x).map Node.iv,0,(bF x).length,[.sl (.loc 100) 5 0 (bF x).length],rfl,rfl,b3,by simp,by simp,Ha _,?_⟩
  simp only[↓aX,mX,reduceCtorEq,Nat.reduceEqDiff,Nat.reduceLT,Nat.reduceLeDiff,Nat.reduceAdd,Nat.reduceMul,Int.reduceToNat,Int.reduceLE,Int.reduceLT,iZ,norm,ln,lx,hg,Doc.av,List.length_map];simp;exact List.take_of_length_le (by simp)
def lL (eZ:Nat):AC:=
(.seq (.aM [⟨some 5,none,.box (.t 0)⟩,⟨some 10,none,.ak (.c (.bool false))⟩]) (.seq (.seq (.aM [⟨some 13,none,.ak (.t 1)⟩,⟨some 14,none,.ak (.t 4)⟩,⟨some 15,none,.ef (.t 14)⟩,⟨some 16,none,.load none (.t 15)⟩,⟨some 17,none,.bin .neq (.t 13) (.t 16)⟩,⟨some 18,none,.ak (.t 17)⟩,⟨some 19,(some (18,false)),(.ak (.t 1))⟩,⟨some 20,(some (18,false)),(.bV (.t 5) 0)⟩,⟨some 21,(some (18,false)),(.load none (.t 20))⟩,⟨some 22,(some (18,false)),(.len (.t 21))⟩,⟨some 23,(some (18,false)),(.bin .geq (.t 19) (.t 22))⟩,⟨some 24,none,.pick (.t 18) (.c (.bool true)) (.t 23)⟩,⟨some 25,none,.ak (.t 24)⟩,⟨some 26,(some (25,false)),(.bV (.t 5) 0)⟩,⟨some 27,(some (25,false)),(.load none (.t 26))⟩,⟨some 28,(some (25,false)),(.ak (.t 1))⟩,⟨some 29,(some (25,false)),(.fJ (.t 27) (.t 28) 5)⟩,⟨some 30,(some (25,false)),(.bV (.t 29) 3)⟩,⟨some 31,(some (25,false)),(.load none (.t 30))⟩,⟨some 32,(some (25,false)),(.ak (.t 2))⟩,⟨some 33,(some (25,false)),(.bin .neq (.t 31) (.t 32))⟩,⟨some 34,none,.pick (.t 25) (.c (.bool true)) (.t 33)⟩,⟨some 35,none,.ak (.t 34)⟩,⟨some 36,(some (35,false)),(.ak (.t 3))⟩,⟨some 37,(some (35,false)),(.bin .gtr (.t 36) (.c (.int .i64 8)))⟩,⟨some 38,none,.pick (.t 35) (.c (.bool true)) (.t 37)⟩]) (.cond (.t 38) (.seq (.aM [⟨some 10,none,.ak (.c (.bool false))⟩]) .ret) .skip)) (.seq (.aM [⟨some 39,none,.ak (.t 4)⟩,⟨some 40,none,.ef (.t 39)⟩,⟨some 41,none,.load none (.t 40)⟩,⟨some 42,none,.bin .add (.t 41) (.c (.int .i64 1))⟩,⟨some 43,none,.ef (.t 39)⟩,⟨none,none,.store 1 (.t 43) (.t 42)⟩]) (.seq (.seq (.aM [⟨some 44,none,.bV (.t 5) 0⟩,⟨some 45,none,.load none (.t 44)⟩,⟨some 46,none,.ak (.t 1)⟩,⟨some 47,none,.fJ (.t 45) (.t 46) 5⟩,⟨some 48,none,.bV (.t 47) 4⟩,⟨some 49,none,.load none (.t 48)⟩,⟨some 50,none,.len (.t 49)⟩,⟨some 51,none,.ak (.c (.int .i64 0))⟩]) (.block 0 (.loop (.seq (.aM [⟨some 52,none,.bin .lss (.t 51) (.t 50)⟩]) (.seq (.cond (.t 52) .skip (.exit 0)) (.seq (.block 1 (.seq (.aM [⟨some 53,none,.fJ (.t 49) (.t 51) 1⟩,⟨some 54,none,.load none (.t 53)⟩,⟨some 12,none,.ak (.t 54)⟩]) (.seq (.aM [⟨some 55,none,.load (some 1) (.t 5)⟩,⟨some 56,none,.ak (.t 12)⟩,⟨some 57,none,.ak (.t 1)⟩,⟨some 58,none,.ak (.t 3)⟩,⟨some 59,none,.bin .add (.t 58) (.c (.int .i64 1))⟩,⟨some 60,none,.ak (.t 4)⟩,⟨some 61,none,.call eZ [(.t 55),(.t 56),(.t 57),(.t 59),(.t 60)]⟩,⟨some 62,none,.not (.t 61)⟩]) (.cond (.t 62) (.seq (.aM [⟨some 10,none,.ak (.c (.bool false))⟩]) .ret) .skip)))) (.aM [⟨some 63,none,.bin .add (.t 51) (.c (.int .i64 1))⟩,⟨some 51,none,.ak (.t 63)⟩]))))))) (.seq (.aM [⟨some 10,none,.ak (.c (.bool true))⟩]) .ret)))))
theorem FM {d:Doc} {f:Nat} {n p nx:Int} {x:Node} (hn:n=nx) (hx:d[n.toNat]?=some x) (hp:x.parent=p):wk d (f+1) n p nx=x.kids.foldlM (fun q k=>wk d f k n q) (nx+1):=by
 rw[wk,if_pos hn,hx];simp[hp]
theorem CH {d:Doc}:∀{f:Nat} {n p nx v:Int},0≤nx→wk d f n p nx=some v→nx<v∧v≤d.length:=by
 intro f n p nx v h0 h
 have hn:n=nx:=by
  cases f with
  |zero=>simp[wk] at h
  |succ f=>rw[wk] at h;split at h;assumption;simp at h
 obtain⟨m,rfl⟩:∃m:Nat,nx=m:=⟨nx.toNat,by omega⟩;obtain⟨_,x,_,⟨post,h2⟩,rfl⟩:=zj d f m n p v h;have hc:=x.cu;have:=congrArg List.length h2;rw[List.length_drop,List.length_append,x.dJ] at this;omega
theorem Doc.pt {d:Doc} {n:Nat} {x:Node} (h:d[n]?=some x):(d.map Node.iv)[n]?=some x.iv:=by rw[List.getElem?_map,h];rfl
theorem uV (l:List Int) (i:Nat):(l.map a6)[i]?=(l[i]?).map a6:=List.getElem?_map ..
theorem Hj {d:Doc} {f:Nat} {n p nx:Int} (h:n≠nx):wk d f n p nx=none:=by
 cases f with
 |zero=>rfl
 |succ f=>rw[wk,if_neg h]
theorem JG {d:Doc} {f:Nat} {n p nx:Int} (h:d[n.toNat]?=none):wk d f n p nx=none:=by
 cases f with
 |zero=>rfl
 |succ f=>rw[wk,h];simp
theorem JH {d:Doc} {f:Nat} {n p nx:Int} {x:Node} (h:d[n.toNat]?=some x) (hp:x.parent≠p):wk d f n p nx=none:=by
 cases f with
 |zero=>rfl
 |succ f=>rw[wk,h];simp[hp]
theorem Mb {P : Program} {G : Nat → Option (List IV)} {eZ : Nat} (hF : aA P G eZ = some (64,[(none,10)],(lL eZ).bare)) (d : Doc) (hd : d.length ≤ B) (hk : ∀ x ∈ d,x.kids.length ≤ B) : ∀ (f : Nat) (n p nx : Int),f ≤ 8 → 0 ≤ nx → nx ≤ B →
   xQ P G eZ [Doc.av d,.int .i64 n,.int .i64 p,.int .i64 (9 - (f:Int)),.ptr (.par 0) 1 0 0] [.int .i64 nx] fun x cs=>∃v,x= .bool (wk d f n p nx).isSome∧cs=[.int .i64 v]∧∀r,wk d f n p nx=some r→v=r:=by
 intro f
 induction f with
 |zero=>
   intro n p nx hf h0 hB
   refine tj hF (by simp) (by simp[ax,AV.aI,Doc.av]) (by simp[ax,AV.aI]) ?_
   unfold lL
   have OJ:decide ((9:Int) - ((0:Nat):Int)>8)=true:=by decide
   simp only[↓aX,mX,reduceCtorEq,Nat.reduceEqDiff,Nat.reduceLT,Nat.reduceLeDiff,Nat.reduceAdd,Nat.reduceMul,Int.reduceToNat,Int.reduceLE,Int.reduceLT,Doc.av,oB]
   cases h1:(n !=nx) with
   |true=>
     simp only[↓aX,mX,reduceCtorEq,Nat.reduceEqDiff,Nat.reduceLT,Nat.reduceLeDiff,Nat.reduceAdd,Nat.reduceMul,Int.reduceToNat,Int.reduceLE,Int.reduceLT]
     exact⟨_,⟨nx,rfl,rfl,by simp[wk]⟩,rfl,rfl,rfl,rfl⟩
   |false=>
     have:n=nx:=by simpa using h1
     subst this
     obtain⟨m,rfl⟩:∃m:Nat,n=m:=⟨n.toNat,by omega⟩
     cases hx:d[m]? with
     |none=>
       have o_:decide ((m:Int)≥(d.length:Int))=true:=by
         have:=List.getElem?_eq_none_iff.1 hx
         simp;omega
       simp only[↓aX,mX,reduceCtorEq,Nat.reduceEqDiff,Nat.reduceLT,Nat.reduceLeDiff,Nat.reduceAdd,Nat.reduceMul,Int.reduceToNat,Int.reduceLE,Int.reduceLT,List.length_map,o_]
       exact⟨_,⟨m,rfl,rfl,by simp[wk]⟩,rfl,rfl,rfl,rfl⟩
     |some x=>
       have cj:=(List.getElem?_eq_some_iff.1 hx).1
       have o_:decide ((m:Int)≥(d.length:Int))=false:=by simp;omega
       simp only[↓aX,mX,reduceCtorEq,Nat.reduceEqDiff,Nat.reduceLT,Nat.reduceLeDiff,Nat.reduceAdd,Nat.reduceMul,Int.reduceToNat,Int.reduceLE,Int.reduceLT,List.length_map,o_,Doc.pt hx,oE,Node.bL,Node.cs]
       cases h2:(x.parent !=p) with
       |true=>
         simp only[↓aX,mX,reduceCtorEq,Nat.reduceEqDiff,Nat.reduceLT,Nat.reduceLeDiff,Nat.reduceAdd,Nat.reduceMul,Int.reduceToNat,Int.reduceLE,Int.reduceLT]
         exact⟨_,⟨m,rfl,rfl,by simp[wk]⟩,rfl,rfl,rfl,rfl⟩
       |false=>
         simp only[↓aX,mX,reduceCtorEq,Nat.reduceEqDiff,Nat.reduceLT,Nat.reduceLeDiff,Nat.reduceAdd,Nat.reduceMul,Int.reduceToNat,Int.reduceLE,Int.reduceLT,OJ]
         exact⟨_,⟨m,rfl,rfl,by simp[wk]⟩,rfl,rfl,rfl,rfl⟩
 |succ f ih=>
   intro n p nx hf h0 hB
   refine tj hF (by simp) (by simp[ax,AV.aI,Doc.av]) (by simp[ax,AV.aI]) ?_
   unfold lL
   have OJ:decide ((9:Int) - ((f+1:Nat):Int)>8)=false:=by simp;omega
   have Re:IntKind.i64.wrap ((9:Int) - ((f+1:Nat):Int)+1)=9 - (f:Int):=by rw[wrap64 (by omega) (by omega)];omega
   simp only[↓aX,mX,reduceCtorEq,Nat.reduceEqDiff,Nat.reduceLT,Nat.reduceLeDiff,Nat.reduceAdd,Nat.reduceMul,Int.reduceToNat,Int.reduceLE,Int.reduceLT,Doc.av,oB]
   cases h1:(n !=nx) with
   |true=>
     have HS:n≠nx:=by simpa using h1
     simp only[↓aX,mX,reduceCtorEq,Nat.reduceEqDiff,Nat.reduceLT,Nat.reduceLeDiff,Nat.reduceAdd,Nat.reduceMul,Int.reduceToNat,Int.reduceLE,Int.reduceLT]
     exact⟨_,⟨nx,by rw[Hj HS];rfl,rfl,by rw[Hj HS];simp⟩,rfl,rfl,rfl,rfl⟩
   |false=>
     have:n=nx:=by simpa using h1
     subst this
     obtain⟨m,rfl⟩:∃m:Nat,n=m:=⟨n.toNat,by omega⟩
     cases hx:d[m]? with
     |none=>
       have o_:decide ((m:Int)≥(d.length:Int))=true:=by
         have:=List.getElem?_eq_none_iff.1 hx
         simp;omega
       have FL:wk d (f+1) (m:Int) p (m:Int)=none:=JG (by simpa using hx)
       simp only[↓aX,mX,reduceCtorEq,Nat.reduceEqDiff,Nat.reduceLT,Nat.reduceLeDiff,Nat.reduceAdd,Nat.reduceMul,Int.reduceToNat,Int.reduceLE,Int.reduceLT,List.length_map,o_]
       exact⟨_,⟨m,by rw[FL];rfl,rfl,by rw[FL];simp⟩,rfl,rfl,rfl,rfl⟩
     |some x=>
       have cj:=(List.getElem?_eq_some_iff.1 hx).1
       have o_:decide ((m:Int)≥(d.length:Int))=false:=by simp;omega
       have CI:=hk x (List.mem_of_getElem? hx)
       have Rf:IntKind.i64.wrap ((m:Int)+1)=(m:Int)+1:=wrap64 (by omega) (by unfold B at hd;omega)
       simp only[↓aX,mX,reduceCtorEq,Nat.reduceEqDiff,Nat.reduceLT,Nat.reduceLeDiff,Nat.reduceAdd,Nat.reduceMul,Int.reduceToNat,Int.reduceLE,Int.reduceLT,List.length_map,o_,Doc.pt hx,oE,Node.bL,Node.cs]
       cases h2:(x.parent !=p) with
       |true=>
         have FL:wk d (f+1) (m:Int) p (m:Int)=none:=JH (by simpa using hx) (by simpa using h2)
         simp only[↓aX,mX,reduceCtorEq,Nat.reduceEqDiff,Nat.reduceLT,Nat.reduceLeDiff,Nat.reduceAdd,Nat.reduceMul,Int.reduceToNat,Int.reduceLE,Int.reduceLT]
         exact⟨_,⟨m,by rw[FL];rfl,rfl,by rw[FL];simp⟩,rfl,rfl,rfl,rfl⟩
       |false=>
         have hp:x.parent=p:=by simpa using h2
         have mS:=FM (d:=d) (f:=f) (n:=m) (nx:=m) rfl (by simpa using hx) hp
         simp only[↓aX,mX,reduceCtorEq,Nat.reduceEqDiff,Nat.reduceLT,Nat.reduceLeDiff,Nat.reduceAdd,Nat.reduceMul,Int.reduceToNat,Int.reduceLE,Int.reduceLT,OJ,Rf,List.length_map,Doc.pt hx,oE,Node.bL,Node.cs]
         refine jX (σ:={q:Nat×Int // q.1≤x.kids.length∧0≤q.2∧q.2≤d.length∧wk d (f+1) (m:Int) p (m:Int)=(x.kids.drop q.1).foldlM (fun q k=>wk d f k (m:Int) q) q.2}) [.par 0,.loc 5]
           (fun q=>[(1,.int .i64 m),(3,.int .i64 (9 - ((f+1:Nat):Int))),(4,.ptr (.par 0) 1 0 0),(5,.ptr (.loc 5) 1 0 0),(49,.list (x.kids.map a6)),(50,.int .i64 x.kids.length),(51,.int .i64 q.1.1)])
           (fun q=>[(.par 0,⟨1,[[.int .i64 q.1.2]]⟩),(.loc 5,⟨1,[[.list (d.map Node.iv)]]⟩)]) (fun q=>x.kids.length - q.1.1) ⟨(0,(m:Int)+1),by simp,by simp only;omega,by simp only;omega,by rw[mS];rfl⟩
           (fun _=>rfl) (by decide) (by simp[ax,AV.aI]) (by simp[ax,AV.aI]) ?_ ?_
         · refine ma ?_ (by repeat' constructor) (by repeat' constructor)
           intro l hl hu
           by_cases e:l= .par 0
           · subst e;simp
           · exfalso;apply hu;cases l<;>simp_all[Lb.fresh,ai,Hp.none]
         · rintro⟨⟨i,q⟩,hi,K1,JE,hs⟩
           simp only at hi K1 JE hs
           simp only[↓aX,mX,reduceCtorEq,Nat.reduceEqDiff,Nat.reduceLT,Nat.reduceLeDiff,Nat.reduceAdd,Nat.reduceMul,Int.reduceToNat,Int.reduceLE,Int.reduceLT,jQ,iD]
           by_cases cj:i<x.kids.length
           · obtain⟨k,nE⟩:∃k,x.kids[i]?=some k:=⟨_,List.getElem?_eq_getElem cj⟩
             have hw:IntKind.i64.wrap ((i:Int)+1)=((i+1:Nat):Int):=wrap64 (by omega) (by unfold B at CI;omega)
             rw[show decide ((i:Int)<(x.kids.length:Int))=true by simpa using cj]
             simp only[↓aX,mX,reduceCtorEq,Nat.reduceEqDiff,Nat.reduceLT,Nat.reduceLeDiff,Nat.reduceAdd,Nat.reduceMul,Int.reduceToNat,Int.reduceLE,Int.reduceLT,uV,nE,oD,List.length_map,Option.map_some,a6,IV.cells,Re]
             refine th (l:= .par 0) (ih k m q (by omega) K1 (by unfold B at hd ⊢;omega)) rfl (by simp only[↓aX,mX,reduceCtorEq,Nat.reduceEqDiff,Nat.reduceLT,Nat.reduceLeDiff,Nat.reduceAdd,Nat.reduceMul,Int.reduceToNat,Int.reduceLE,Int.reduceLT];try rfl) ?_
             rintro x1 oe ⟨v,rfl,rfl,hv⟩ _ _ _
             have Rg:x.kids.drop i=k::x.kids.drop (i+1):=drop_eq nE
             rw[Rg,List.foldlM_cons] at hs
             cases hr:wk d f k m q with
             |none=>
               rw[hr] at hs
               simp only[Option.bind_eq_bind,Option.bind_none] at hs
               simp only[↓aX,mX,reduceCtorEq,Nat.reduceEqDiff,Nat.reduceLT,Nat.reduceLeDiff,Nat.reduceAdd,Nat.reduceMul,Int.reduceToNat,Int.reduceLE,Int.reduceLT,Option.isSome_none,Bool.not_false]
               exact⟨_,⟨v,by rw[hs];rfl,rfl,by rw[hs];simp⟩,rfl,rfl,rfl,rfl⟩
             |some r=>
               have Rh:=hv r hr
               subst Rh
               rw[hr] at hs
               simp only[Option.bind_eq_bind,Option.bind_some] at hs
               have hb:=CH K1 hr
               simp only[↓aX,mX,reduceCtorEq,Nat.reduceEqDiff,Nat.reduceLT,Nat.reduceLeDiff,Nat.reduceAdd,Nat.reduceMul,Int.reduceToNat,Int.reduceLE,Int.reduceLT,Option.isSome_some,Bool.not_true,hw]
               refine⟨⟨(i+1,v),cj,by simp only;omega,by simp only;omega,hs⟩,by simp only;omega,ma ?_ (by repeat' constructor) (by repeat' constructor)⟩
               intro l hl hu
               by_cases e:l= .par 0
               · subst e;simp
               · exfalso;apply hu;cases l<;>simp_all[Lb.fresh,ai,Hp.none]
           · have qT:i=x.kids.length:=by omega
             subst qT
             rw[List.drop_length] at hs
             simp only[List.foldlM_nil] at hs
             rw[show decide ((x.kids.length:Int)<(x.kids.length:Int))=false by simp]
             simp only[↓aX,mX,reduceCtorEq,Nat.reduceEqDiff,Nat.reduceLT,Nat.reduceLeDiff,Nat.reduceAdd,Nat.reduceMul,Int.reduceToNat,Int.reduceLE,Int.reduceLT]
             exact⟨_,⟨q,by rw[hs];rfl,rfl,by rw[hs];rintro r h;cases h;rfl⟩,rfl,rfl,rfl,rfl⟩
end Go.Am

/- Documents: the tree at a place. -/
namespace Go.Am
open Go Go.RowKit
theorem CJ (rs:List (Lb×Row)):fM (fun _=>false) rs=jD rs:=by
 funext q;unfold fM;cases jD rs q<;>rfl
theorem rT:∀(off:Nat) (xs:List Tree) (i:Nat),i<xs.length→(aS off xs)[i]?=some ((off+bC (xs.take i):Nat):Int)
 |_,[],i,h=>by simp at h
 |off,x::r,0,_=>by simp[aS,bC]
 |off,x::r,i+1,h=>by
  simp only[aS,List.getElem?_cons_succ,List.take_succ_cons,bC];rw[rT (off+x.dg) r i (by simpa using h),Nat.add_assoc]
def oL (ah dh:Nat):AC:=
(.seq (.aM [⟨some 2,none,.box (.t 0)⟩,⟨some 4,none,.new [(.bool false),(.str []),.nil0,.nil0]⟩]) (.seq (.aM [⟨some 9,none,.bV (.t 2) 0⟩,⟨some 10,none,.load none (.t 9)⟩,⟨some 11,none,.ak (.t 1)⟩,⟨some 12,none,.fJ (.t 10) (.t 11) 5⟩,⟨some 13,none,.load (some 5) (.t 12)⟩,⟨some 5,none,.new [(.bool false),(.str []),.nil0,(.int .i64 0),.nil0]⟩,⟨none,none,.store 5 (.t 5) (.t 13)⟩]) (.seq (.eY [⟨some 14,none,.bV (.t 5) 0⟩,⟨some 15,none,.load none (.t 14)⟩,⟨some 16,none,.bV (.t 5) 1⟩,⟨some 17,none,.load none (.t 16)⟩,⟨some 18,none,.bV (.t 5) 2⟩,⟨some 19,none,.load none (.t 18)⟩,⟨some 20,none,.call ah [(.t 19)]⟩,⟨some 21,none,.o7 [(.bool false),(.str []),.nil0,.nil0] [(0,(1,(.t 15))),(1,(1,(.t 17))),(2,(1,(.t 20)))]⟩,⟨some 6,none,.new [(.bool false),(.str []),.nil0,.nil0]⟩,⟨none,none,.store 4 (.t 6) (.t 21)⟩] [[],[0],[],[2],[],[4],[5],[1,3,6],[],[8,7,6,0,1,2,3,4,5,6,7,8]] [.no,.rw [.loc 5] [],.no,.rw [.loc 5] [],.no,.rw [.loc 5] [],.no,.no,.rw [] [.loc 6],.rw [] [.loc 6]]) (.seq (.gh .qn (.seq (.aM [⟨some 22,none,.bV (.t 5) 4⟩,⟨some 23,none,.load none (.t 22)⟩,⟨some 24,none,.len (.t 23)⟩,⟨some 25,none,.ak (.c (.int .i64 0))⟩]) (.block 0 (.loop (.seq (.aM [⟨some 26,none,.bin .lss (.t 25) (.t 24)⟩]) (.seq (.cond (.t 26) .skip (.exit 0)) (.seq (.block 1 (.seq (.aM [⟨some 27,none,.fJ (.t 23) (.t 25) 1⟩,⟨some 28,none,.load none (.t 27)⟩,⟨some 8,none,.ak (.t 28)⟩]) (.eY [⟨some 29,none,.bV (.t 6) 3⟩,⟨some 30,none,.load none (.t 29)⟩,⟨some 31,none,.load (some 1) (.t 2)⟩,⟨some 32,none,.ak (.t 8)⟩,⟨some 33,none,.call dh [(.t 31),(.t 32)]⟩,⟨some 34,none,.lits 1 4 [(.bool false),(.str []),.nil0,.nil0] [(0,(.t 33))]⟩,⟨some 35,none,.app (.t 30) (.t 34) 4 72⟩,⟨some 36,none,.bV (.t 6) 3⟩,⟨none,none,.store 1 (.t 36) (.t 35)⟩] [[],[0],[],[],[2,3],[4],[1,5,4],[0,1,2,3,4,5,6],[7,6,6,0,1,2,3,4,5,6]] [.no,.rw [.loc 6] [],.rw [.loc 2] [],.no,.no,.no,(.rw [] [.loc 50,.loc 35]),.no,.rw [] [.loc 6]]))) (.aM [⟨some 37,none,.bin .add (.t 25) (.c (.int .i64 1))⟩,⟨some 25,none,.ak (.t 37)⟩])))))))) (.gh (.As (.loc 50) (.loc 6) 3) (.seq (.aM [⟨some 38,none,.load (some 4) (.t 6)⟩,⟨none,none,.store 4 (.t 4) (.t 38)⟩]) .ret))))))
theorem Ri {P:Program} {G:Nat→Option (List IV)} {dh ah:Nat} (hF:aA P G dh=some (39,[((some (some 4)),4)],(oL ah dh).bare)) (d:Doc) (hd:d.length≤B) (n:Nat) (q:Int) (x:Tree) (hL:gU d n q x) (hx:x.wt≤B)
  (hC:az P G ah [.list (dY x.attrs)] (.list (dY x.attrs)))
  (hK:∀k∈x.kids,∀(m:Nat) (p:Int),gU d m p k→az P G dh [Doc.av d,.int .i64 m] k.av):az P G dh [Doc.av d,.int .i64 n] x.av:=by
 refine jr hF (by simp) (by simp[ax,AV.aI,Doc.av]) (by simp[AV.aI,Tree.av,ax]) ?_;have pY:=hL.node;have hlen:=hL.len;have cj:=(List.getElem?_eq_some_iff.1 pY).1;have OE:=x.iB;have yU:=fu x.kids;have sx:(aS (n+1) x.kids).length=x.kids.length:=ep _ _;unfold oL
 simp only[↓aX,mX,reduceCtorEq,Nat.reduceEqDiff,Nat.reduceLT,Nat.reduceLeDiff,Nat.reduceAdd,Nat.reduceMul,Int.reduceToNat,Int.reduceLE,Int.reduceLT,Doc.av,List.length_map,Doc.pt pY,oE,Node.bL,Node.cs,Tree.node];refine⟨rfl,kb hC ?_⟩;simp only[↓aX,mX,reduceCtorEq,Nat.reduceEqDiff,Nat.reduceLT,Nat.reduceLeDiff,Nat.reduceAdd,Nat.reduceMul,Int.reduceToNat,Int.reduceLE,Int.reduceLT,List.length_map]
 rw[mV];refine⟨_,_,pZ (q:= .loc 6) (cs:=[.bool x.text,.str x.s,.list (dY x.attrs),.nil0]) (j:=3) (d:=50) (sz:=4) rfl rfl (by simp[ai,Hp.none]) (by decide),?_⟩;simp only[↓aX,mX,reduceCtorEq,Nat.reduceEqDiff,Nat.reduceLT,Nat.reduceLeDiff,Nat.reduceAdd,Nat.reduceMul,Int.reduceToNat,Int.reduceLE,Int.reduceLT]
 refine lv (σ:={i:Nat // i≤x.kids.length}) (fun _=>[.loc 2,.loc 4,.loc 6,.loc 50]) (fun _ _=>false)
  (fun q=>[(2,.ptr (.loc 2) 1 0 0),(4,.ptr (.loc 4) 4 0 0),(6,.ptr (.loc 6) 4 0 0),(23,.list ((aS (n+1) x.kids).map a6)),(24,.int .i64 x.kids.length),(25,.int .i64 q.1)])
  (fun q=>[(.loc 2,⟨1,[[.list (d.map Node.iv)]]⟩),(.loc 4,⟨4,[[.bool false,.str [],.nil0,.nil0]]⟩),(.loc 6,⟨4,[[.bool x.text,.str x.s,.list (dY x.attrs),.sl (.loc 50) 4 0 q.1]]⟩),(.loc 50,⟨4,ay (dc (x.kids.take q.1))⟩)])
  (fun q=>x.kids.length - q.1) ⟨0,Nat.zero_le _⟩ (fun _=>rfl) (fun q=>by simp[ax,AV.aI]) ?_ ⟨[],?_⟩ ?_
 ·rintro q r hr cs b5 l hl;simp only[List.mem_cons,List.not_mem_nil,or_false] at hr;rcases hr with rfl|rfl|rfl|rfl
  ·simp only[List.mem_singleton] at b5;subst b5;simp[ax,AV.aI] at hl
  ·simp only[List.mem_singleton] at b5;subst b5;simp[ax,AV.aI] at hl
  ·simp only[List.mem_singleton] at b5;subst b5;simp[ax,AV.aI] at hl;subst hl;simp
  ·rw[dK b5] at hl;simp at hl
 ·refine⟨?_,?_,?_,by simp[dS],fun l _=>⟨id,fun _=>rfl⟩⟩
  ·intro l hf hu;exfalso;apply hu;cases l<;>simp_all[Lb.fresh,ai,Hp.none]
  ·simp[nt,dS,cG,put,sx]
  ·simp[zb,dS,ai,dB,cn,cG,ay,dc]
 ·rintro⟨i,hi⟩;rw[CJ];simp only[↓aX,mX,reduceCtorEq,Nat.reduceEqDiff,Nat.reduceLT,Nat.reduceLeDiff,Nat.reduceAdd,Nat.reduceMul,Int.reduceToNat,Int.reduceLE,Int.reduceLT,jQ,iD];by_cases cj:i<x.kids.length
  ·rw[show decide ((i:Int)<(x.kids.length:Int))=true by simpa using cj];obtain⟨k,nE⟩:∃k,x.kids[i]?=some k:=⟨_,List.getElem?_eq_getElem cj⟩;have hw:IntKind.i64.wrap ((i:Int)+1)=((i+1:Nat):Int):=wrap64 (by omega) (by unfold B at hx;omega);have hg:=rT (n+1) x.kids i cj
   simp only[↓aX,mX,reduceCtorEq,Nat.reduceEqDiff,Nat.reduceLT,Nat.reduceLeDiff,Nat.reduceAdd,Nat.reduceMul,Int.reduceToNat,Int.reduceLE,Int.reduceLT,uV,hg,oD,List.length_map,Option.map_some,a6,IV.cells];have OK:=List.mem_of_getElem? nE;have Rj:gU d (n+1+bC (x.kids.take i)) n k:=hL.rM (x.kids.take i) (x.kids.drop (i+1)) k (by rw[←drop_eq nE,List.take_append_drop])
   have Mc:(dc (x.kids.take i)).length=i:=by rw[bb,List.length_take];omega
   have Km:dc (x.kids.take (i+1))=dc (x.kids.take i)++[.agg [.bool k.text,.str k.s,.list (dY k.attrs),.list (dc k.kids)]]:=by rw[eo nE,uL];simp[dc,Tree.y_,Tree.cs]
   refine⟨rfl,kb (hK k OK _ _ Rj) ?_⟩;simp only[↓aX,mX,reduceCtorEq,Nat.reduceEqDiff,Nat.reduceLT,Nat.reduceLeDiff,Nat.reduceAdd,Nat.reduceMul,Int.reduceToNat,Int.reduceLE,Int.reduceLT,Tree.av]
   rw[jO 4 72 35 50 (dc (x.kids.take i)) (.agg [.bool k.text,.str k.s,.list (dY k.attrs),.list (dc k.kids)]) (by simp[ai]) Mc rfl (by simp[IV.cells]) (by unfold B at hx;omega) (by decide) (by decide) (by simp[ai,Hp.none])];simp only[↓aX,mX,reduceCtorEq,Nat.reduceEqDiff,Nat.reduceLT,Nat.reduceLeDiff,Nat.reduceAdd,Nat.reduceMul,Int.reduceToNat,Int.reduceLE,Int.reduceLT,hw]
   refine⟨by rintro l (rfl|rfl)<;>simp[Lb.iJ],?_⟩;refine⟨⟨i+1,cj⟩,by simp only;omega,[(.loc 50,.loc 35)],?_⟩;refine⟨?_,?_,?_,by simp[dS],?_⟩
   ·intro l hf hu;exfalso;apply hu;cases l<;>simp_all[Lb.fresh,ai,Hp.none]
   ·simp[nt,dS,cG,put]
   ·have hr:∀xs:List IV,dB (dS [(.loc 50,.loc 35)]) ⟨4,ay xs⟩=⟨4,ay xs⟩:=fun xs=>de _ _ _
    simp[zb,dS,ai,dB,cn,cG,Km];simp[ay,ll]
   ·intro l hl;simp only[List.mem_cons,List.not_mem_nil,or_false] at hl;rcases hl with rfl|rfl|rfl|rfl
    ·exact⟨fun _=>rfl,fun _=>rfl⟩
    ·exact⟨fun _=>rfl,fun _=>rfl⟩
    ·exact⟨fun _=>rfl,fun _=>rfl⟩
    ·exact⟨fun _=>rfl,fun h=>by simp[Lb.fresh] at h⟩
  ·have qT:i=x.kids.length:=by omega
   subst qT;rw[show decide ((x.kids.length:Int)<(x.kids.length:Int))=false by simp];simp only[↓aX,mX,reduceCtorEq,Nat.reduceEqDiff,Nat.reduceLT,Nat.reduceLeDiff,Nat.reduceAdd,Nat.reduceMul,Int.reduceToNat,Int.reduceLE,Int.reduceLT,List.take_length];refine⟨4,dc x.kids,0,x.kids.length,[.bool x.text,.str x.s,.list (dY x.attrs),.sl (.loc 50) 4 0 x.kids.length],rfl,rfl,rfl,by simp,by rw[bb];omega,Ck _,?_⟩
   simp only[↓aX,mX,reduceCtorEq,Nat.reduceEqDiff,Nat.reduceLT,Nat.reduceLeDiff,Nat.reduceAdd,Nat.reduceMul,Int.reduceToNat,Int.reduceLE,Int.reduceLT,List.drop_zero,List.take_of_length_le (show(dc x.kids).length≤x.kids.length by rw[bb];exact Nat.le_refl _)];rfl
end Go.Am

/- Documents: which are good; what is told of them. -/
namespace Go.Am
open Go Go.RowKit
def Node.wt (x:Node):Nat:=1+x.s.length+l_ x.attrs+x.kids.length
def kY:Doc→Nat
 |[]=>0
 |x::r=>x.wt+kY r
theorem oM:∀a b:Doc,kY (a++b)=kY a+kY b
 |[],b=>by simp[kY]
 |x::r,b=>by simp[kY,oM r b,Nat.add_assoc]
theorem oN:∀d:Doc,d.length≤kY d
 |[]=>by simp
 |x::r=>by have:=oN r;simp only[kY,Node.wt,List.length_cons];omega
theorem qD:∀{d:Doc} {x:Node},x∈d→x.wt≤kY d
 |[],x,h=>by simp at h
 |y::r,x,h=>by
  simp only[List.mem_cons] at h;rcases h with rfl|h
  ·simp[kY]
  ·have:=qD h;simp only[kY];omega
mutual
theorem Tree.zp (off:Nat) (p:Int):∀x:Tree,x.wt≤kY (x.flat off p)
 | .mk t s as ks=>by
  have:=wb (off+1) off ks;simp only[Tree.flat,kY,Node.wt,Tree.wt];omega
theorem wb (off p:Nat):∀xs:List Tree,di xs≤kY (cR off p xs)
 |[]=>by simp[di]
 |k::r=>by
  have:=k.zp off p;have:=wb (off+k.dg) p r;simp only[cR,oM,di];omega
end
theorem gU.wt {d:Doc} {n:Nat} {q:Int} {y:Tree} (h:gU d n q y):y.wt≤kY d:=by
 obtain⟨post,h⟩:=h;have h1:=y.zp n q;have h2:=oM (d.take n) (d.drop n);rw[List.take_append_drop,h,oM] at h2;omega
section
variable {P:Program} {G:Nat→Option (List IV)}
theorem Rk {dh ah:Nat} (hF:aA P G dh=some (39,[((some (some 4)),4)],(oL ah dh).bare)) (hC:∀xs:List Attr,xs.length≤B→az P G ah [.list (dY xs)] (.list (dY xs))) (d:Doc) (hd:kY d≤B) (n:Nat) (q:Int) (x:Tree) (hL:gU d n q x) :
  az P G dh [Doc.av d,.int .i64 n] x.av:=by
 have key:=AB (M:=fun l=>∀x∈l,∀(n:Nat) (q:Int),gU d n q x→az P G dh [Doc.av d,.int .i64 n] x.av)
  (fun l h x hx n q hL=>Ri hF d (by have:=oN d;omega) n q x hL (by have:=hL.wt;omega) (hC _ (by have:=hL.wt;have:=lr x;have:=jM x.attrs;omega)) fun k hk m p AI=>h x hx k hk m p AI)
 exact key [x] x (by simp) n q hL
end
theorem wc (x:Tree):fX (bF x)=x.iu:=by
 cases h:x.iu with
 |true=>exact oF h
 |false=>exact lu fun⟨y,h1,h2⟩=>by rw[AD h2,h1] at h;cases h
theorem rK.len {d:Doc} (h:rK d):1≤d.length∧d.length≤80:=by
 obtain⟨x,hx,rfl⟩:=h;have:=(jt x).1 hx;have:=x.cu;rw[iS];omega
theorem rK.wk {d:Doc} (h:rK d):wk d 8 0 (-1) 0=some (d.length:Int):=by
 obtain⟨x,hx,rfl⟩:=h;exact FG ((jt x).1 hx).2.1
def n3 (eZ dh eQ:Nat):AC:=
(.seq (.aM [⟨some 1,none,.box (.t 0)⟩,⟨some 2,none,.ak (.c (.bool false))⟩]) (.seq (.seq (.aM [⟨some 4,none,.bV (.t 1) 0⟩,⟨some 5,none,.load none (.t 4)⟩,⟨some 6,none,.len (.t 5)⟩,⟨some 7,none,.bin .lss (.t 6) (.c (.int .i64 1))⟩,⟨some 8,none,.ak (.t 7)⟩,⟨some 9,(some (8,false)),(.bV (.t 1) 0)⟩,⟨some 10,(some (8,false)),(.load none (.t 9))⟩,⟨some 11,(some (8,false)),(.len (.t 10))⟩,⟨some 12,(some (8,false)),(.bin .gtr (.t 11) (.c (.int .i64 80)))⟩,⟨some 13,none,.pick (.t 8) (.c (.bool true)) (.t 12)⟩]) (.cond (.t 13) (.seq (.aM [⟨some 2,none,.ak (.c (.bool false))⟩]) .ret) .skip)) (.seq (.aM [⟨some 3,none,.new [(.int .i64 0)]⟩,⟨none,none,.store 1 (.t 3) (.c (.int .i64 0))⟩]) (.seq (.seq (.aM [⟨some 14,none,.load (some 1) (.t 1)⟩,⟨some 15,none,.call eZ [(.t 14),(.c (.int .i64 0)),(.c (.int .i64 (-1))),(.c (.int .i64 1)),(.t 3)]⟩,⟨some 16,none,.not (.t 15)⟩,⟨some 17,none,.ak (.t 16)⟩,⟨some 18,(some (17,false)),(.load none (.t 3))⟩,⟨some 19,(some (17,false)),(.bV (.t 1) 0)⟩,⟨some 20,(some (17,false)),(.load none (.t 19))⟩,⟨some 21,(some (17,false)),(.len (.t 20))⟩,⟨some 22,(some (17,false)),(.bin .neq (.t 18) (.t 21))⟩,⟨some 23,none,.pick (.t 17) (.c (.bool true)) (.t 22)⟩]) (.cond (.t 23) (.seq (.aM [⟨some 2,none,.ak (.c (.bool false))⟩]) .ret) .skip)) (.seq (.aM [⟨some 24,none,.load (some 1) (.t 1)⟩,⟨some 25,none,.call dh [(.t 24),(.c (.int .i64 0))]⟩,⟨some 26,none,.call eQ [(.t 25)]⟩,⟨some 2,none,.ak (.t 26)⟩]) .ret)))))
theorem CK {P:Program} {G:Nat→Option (List IV)} {cp eZ dh eQ:Nat} (hF:aA P G cp=some (27,[(none,2)],(n3 eZ dh eQ).bare)) (d:Doc) (hd:kY d≤B)
  (hW:xQ P G eZ [Doc.av d,.int .i64 0,.int .i64 (-1),.int .i64 (9 - ((8:Nat):Int)),.ptr (.par 0) 1 0 0] [.int .i64 0] fun x cs=>∃v,x= .bool (wk d 8 0 (-1) 0).isSome∧cs=[.int .i64 v]∧∀r,wk d 8 0 (-1) 0=some r→v=r)
  (hA:∀x,d=bF x→az P G dh [Doc.av d,.int .i64 0] x.av) (hG:∀x,d=bF x→az P G eQ [x.av] (.bool x.iu)):az P G cp [Doc.av d] (.bool (fX d)):=by
 refine bm hF (by simp) (by simp[ax,AV.aI,Doc.av]) (by simp[AV.aI]) ?_;have hlen:=oN d;unfold n3;simp only[↓aX,mX,reduceCtorEq,Nat.reduceEqDiff,Nat.reduceLT,Nat.reduceLeDiff,Nat.reduceAdd,Nat.reduceMul,Int.reduceToNat,Int.reduceLE,Int.reduceLT,Doc.av,List.length_map];cases h1:decide ((d.length:Int)<1) with
 |true=>
  have:fX d=false:=lu fun h=>by have:=h.len;simp at h1;omega
  simp only[↓aX,mX,reduceCtorEq,Nat.reduceEqDiff,Nat.reduceLT,Nat.reduceLeDiff,Nat.reduceAdd,Nat.reduceMul,Int.reduceToNat,Int.reduceLE,Int.reduceLT,this]
 |false=>
  cases h2:decide ((d.length:Int)>80) with
  |true=>
   have:fX d=false:=lu fun h=>by have:=h.len;simp at h2;omega
   simp only[↓aX,mX,reduceCtorEq,Nat.reduceEqDiff,Nat.reduceLT,Nat.reduceLeDiff,Nat.reduceAdd,Nat.reduceMul,Int.reduceToNat,Int.reduceLE,Int.reduceLT,List.length_map,h2,this]
  |false=>
   simp only[↓aX,mX,reduceCtorEq,Nat.reduceEqDiff,Nat.reduceLT,Nat.reduceLeDiff,Nat.reduceAdd,Nat.reduceMul,Int.reduceToNat,Int.reduceLE,Int.reduceLT,List.length_map,h2];refine th (l:= .loc 3) hW rfl (by simp only[↓aX,mX,reduceCtorEq,Nat.reduceEqDiff,Nat.reduceLT,Nat.reduceLeDiff,Nat.reduceAdd,Nat.reduceMul,Int.reduceToNat,Int.reduceLE,Int.reduceLT];try rfl) ?_
   rintro x1 oe ⟨v,rfl,rfl,hv⟩ _ _ _;cases hr:wk d 8 0 (-1) 0 with
   |none=>
    have:fX d=false:=lu fun h=>by have:=h.wk;rw[hr] at this;cases this
    simp only[↓aX,mX,reduceCtorEq,Nat.reduceEqDiff,Nat.reduceLT,Nat.reduceLeDiff,Nat.reduceAdd,Nat.reduceMul,Int.reduceToNat,Int.reduceLE,Int.reduceLT,Option.isSome_none,Bool.not_false,this]
   |some r=>
    have:=hv r hr;subst this;simp only[↓aX,mX,reduceCtorEq,Nat.reduceEqDiff,Nat.reduceLT,Nat.reduceLeDiff,Nat.reduceAdd,Nat.reduceMul,Int.reduceToNat,Int.reduceLE,Int.reduceLT,Option.isSome_some,Bool.not_true,List.length_map];cases h3:(v !=(d.length:Int)) with
    |true=>
     have:fX d=false:=lu fun h=>by have:=h.wk;rw[hr] at this;cases this;simp at h3
     simp only[↓aX,mX,reduceCtorEq,Nat.reduceEqDiff,Nat.reduceLT,Nat.reduceLeDiff,Nat.reduceAdd,Nat.reduceMul,Int.reduceToNat,Int.reduceLE,Int.reduceLT,this]
    |false=>
     have vn:v=d.length:=by simpa using h3
     rw[vn] at hr;obtain⟨x,mj,Hl⟩:=Jt hr;simp only[↓aX,mX,reduceCtorEq,Nat.reduceEqDiff,Nat.reduceLT,Nat.reduceLeDiff,Nat.reduceAdd,Nat.reduceMul,Int.reduceToNat,Int.reduceLE,Int.reduceLT];refine aO (hA x Hl) ?_;simp only[↓aX,mX,reduceCtorEq,Nat.reduceEqDiff,Nat.reduceLT,Nat.reduceLeDiff,Nat.reduceAdd,Nat.reduceMul,Int.reduceToNat,Int.reduceLE,Int.reduceLT];refine aO (hG x Hl) ?_
     simp only[↓aX,mX,reduceCtorEq,Nat.reduceEqDiff,Nat.reduceLT,Nat.reduceLeDiff,Nat.reduceAdd,Nat.reduceMul,Int.reduceToNat,Int.reduceLE,Int.reduceLT];rw[Hl,wc]
def n4 (cp dh:Nat):AC:=
(.seq (.aM [⟨some 2,none,.box (.t 0)⟩,⟨some 4,none,.new [(.bool false),(.str []),.nil0,.nil0]⟩,⟨some 5,none,.ak (.c (.int .i64 0))⟩]) (.seq (.seq (.aM [⟨some 6,none,.load (some 1) (.t 2)⟩,⟨some 7,none,.call cp [(.t 6)]⟩,⟨some 8,none,.not (.t 7)⟩]) (.cond (.t 8) (.seq (.aM [⟨some 9,none,.o7 [(.bool false),(.str []),.nil0,.nil0] []⟩,⟨none,none,.store 4 (.t 4) (.t 9)⟩,⟨some 5,none,.ak (.c (.int .i64 1))⟩]) .ret) .skip)) (.seq (.seq (.aM [⟨some 10,none,.ak (.t 1)⟩,⟨some 11,none,.bin .lss (.t 10) (.c (.int .i64 0))⟩,⟨some 12,none,.ak (.t 11)⟩,⟨some 13,(some (12,false)),(.ak (.t 1))⟩,⟨some 14,(some (12,false)),(.bV (.t 2) 0)⟩,⟨some 15,(some (12,false)),(.load none (.t 14))⟩,⟨some 16,(some (12,false)),(.len (.t 15))⟩,⟨some 17,(some (12,false)),(.bin .geq (.t 13) (.t 16))⟩,⟨some 18,none,.pick (.t 12) (.c (.bool true)) (.t 17)⟩]) (.cond (.t 18) (.seq (.aM [⟨some 19,none,.o7 [(.bool false),(.str []),.nil0,.nil0] []⟩,⟨none,none,.store 4 (.t 4) (.t 19)⟩,⟨some 5,none,.ak (.c (.int .i64 3))⟩]) .ret) .skip)) (.seq (.aM [⟨some 20,none,.load (some 1) (.t 2)⟩,⟨some 21,none,.ak (.t 1)⟩,⟨some 22,none,.call dh [(.t 20),(.t 21)]⟩,⟨none,none,.store 4 (.t 4) (.t 22)⟩,⟨some 5,none,.ak (.c (.int .i64 0))⟩]) .ret))))
theorem CL {P:Program} {G:Nat→Option (List IV)} {h_ cp dh:Nat} (hF:aA P G h_=some (23,[((some (some 4)),4),(none,5)],(n4 cp dh).bare)) (d:Doc) (hd:kY d≤B) (n:Int)
  (hG:az P G cp [Doc.av d] (.bool (fX d))) (hA:∀(m:Nat) (q:Int) (x:Tree),gU d m q x→az P G dh [Doc.av d,.int .i64 m] x.av) :
  az P G h_ [Doc.av d,.int .i64 n] (.dU [(kK d n).1.av,.int .i64 (kK d n).2]):=by
 refine jr hF (by simp) (by simp[ax,AV.aI,Doc.av]) (by simp[AV.aI,ax,Tree.av]) ?_;unfold n4;simp only[↓aX,mX,reduceCtorEq,Nat.reduceEqDiff,Nat.reduceLT,Nat.reduceLeDiff,Nat.reduceAdd,Nat.reduceMul,Int.reduceToNat,Int.reduceLE,Int.reduceLT,Doc.av,List.length_map];refine aO hG ?_;cases hg:fX d with
 |false=>
  simp only[↓aX,mX,reduceCtorEq,Nat.reduceEqDiff,Nat.reduceLT,Nat.reduceLeDiff,Nat.reduceAdd,Nat.reduceMul,Int.reduceToNat,Int.reduceLE,Int.reduceLT,iZ];simp[norm,ln,kK,hg,Tree.av,Tree.text,Tree.s,Tree.attrs,Tree.kids];exact⟨rfl,rfl⟩
 |true=>
  obtain⟨t,ht,rfl⟩:=m8.1 hg;simp only[↓aX,mX,reduceCtorEq,Nat.reduceEqDiff,Nat.reduceLT,Nat.reduceLeDiff,Nat.reduceAdd,Nat.reduceMul,Int.reduceToNat,Int.reduceLE,Int.reduceLT,List.length_map];cases h1:decide (n<0) with
  |true=>
   have:kK (bF t) n=(.mk false [] [] [],3):=by unfold kK;rw[if_pos hg,if_neg (by simp at h1;omega)]
   simp only[↓aX,mX,reduceCtorEq,Nat.reduceEqDiff,Nat.reduceLT,Nat.reduceLeDiff,Nat.reduceAdd,Nat.reduceMul,Int.reduceToNat,Int.reduceLE,Int.reduceLT,iZ];rw[this];rfl
  |false=>
   obtain⟨m,rfl⟩:∃m:Nat,n=m:=⟨n.toNat,by simp at h1;omega⟩;simp only[↓aX,mX,reduceCtorEq,Nat.reduceEqDiff,Nat.reduceLT,Nat.reduceLeDiff,Nat.reduceAdd,Nat.reduceMul,Int.reduceToNat,Int.reduceLE,Int.reduceLT,List.length_map];cases h2:decide ((m:Int)≥((bF t).length:Int)) with
   |true=>
    have:kK (bF t) m=(.mk false [] [] [],3):=by unfold kK;rw[if_pos hg,if_neg (by simp at h2;omega)]
    simp only[↓aX,mX,reduceCtorEq,Nat.reduceEqDiff,Nat.reduceLT,Nat.reduceLeDiff,Nat.reduceAdd,Nat.reduceMul,Int.reduceToNat,Int.reduceLE,Int.reduceLT,iZ];rw[this];rfl
   |false=>
    obtain⟨q,y,l,s⟩:=rO (t:=t) (n:=m) (by simp at h2;omega);simp only[↓aX,mX,reduceCtorEq,Nat.reduceEqDiff,Nat.reduceLT,Nat.reduceLeDiff,Nat.reduceAdd,Nat.reduceMul,Int.reduceToNat,Int.reduceLE,Int.reduceLT];refine aO (hA m q y l) ?_;simp only[↓aX,mX,reduceCtorEq,Nat.reduceEqDiff,Nat.reduceLT,Nat.reduceLeDiff,Nat.reduceAdd,Nat.reduceMul,Int.reduceToNat,Int.reduceLE,Int.reduceLT,iZ,Tree.av];rw[wa ht s]
    rfl
end Go.Am

/- DocBack and DocNests. -/
namespace Go.Am
open Go Go.RowKit
theorem yc (x:Tree):gU (bF x) 0 (-1) x:=⟨[],by simp[bF]⟩
end Go.Am

/- Documents: out of readings. -/
namespace Go.Am
open Go Go.RowKit
mutual
theorem Tree.rU (off:Nat) (p:Int):∀x:Tree,kY (x.flat off p)+1≤2*x.wt
 | .mk t s as ks=>by
  have:=p_ (off+1) off ks;simp only[Tree.flat,kY,Node.wt,Tree.wt,ep];omega
theorem p_ (off p:Nat):∀xs:List Tree,kY (cR off p xs)+xs.length≤2*di xs
 |[]=>by simp[di,cR,kY]
 |k::r=>by
  have:=k.rU off p;have:=p_ (off+k.dg) p r;simp only[cR,oM,di,List.length_cons];omega
end
theorem wg (x:Tree):kY (bF x)≤2*x.wt:=by have:=x.rU 0 (-1);unfold bF;omega
section
variable {P:Program}
structure Md (P:Program) (T:za P) where
 tI:TypeId
 Nr:TypeId
 tN:TypeId
 Ns:TypeId
 tD:TypeId
 fN:Array Field
 fD:Array Field
 uI:P.underlying tI=some (.int .i64)
 P6:P.underlying Nr=some (.slice tI)
 uN:P.underlying tN=some (.struct fN)
 P7:P.underlying Ns=some (.slice tN)
 uD:P.underlying tD=some (.struct fD)
 sN:fN.toList.map (·.type)=[T.tB,T.tS,T.Ky,tI,Nr]
 sD:fD.toList.map (·.type)=[Ns]
theorem Sh.ints {T:za P} (D:Md P T):∀(ys:List IV),(∀y∈ys,Sh P D.tI y)→∃xs:List Int,ys=xs.map a6∧xs.length≤lC ys
 |[],_=>⟨[],rfl,by simp[lC]⟩
 |y::r,h=>by
  obtain⟨n,rfl,_⟩:=(h y (by simp)).vS D.uI;obtain⟨xs,rfl,h2⟩:=Sh.ints D r (fun z hz=>h z (by simp[hz]));exact⟨n::xs,rfl,by simp only[List.length_cons,lC,IV.wt];omega⟩
theorem Sh.node {T:za P} (D:Md P T) {y:IV} (h:Sh P D.tN y):∃x:Node,y=x.iv∧x.wt≤y.wt:=by
 obtain⟨ys,rfl,hl,n8⟩:=h.vT D.uN;have hs:D.fN.size=5:=by have:=congrArg List.length D.sN;simpa using this
 match ys,hl.trans hs,n8 with
 |[y0,y1,y2,y3,y4],_,n8=>
  obtain⟨f0,e0,t0⟩:=dR D.sN 0 T.tB rfl;obtain⟨f1,e1,t1⟩:=dR D.sN 1 T.tS rfl;obtain⟨f2,e2,t2⟩:=dR D.sN 2 T.Ky rfl;obtain⟨f3,e3,t3⟩:=dR D.sN 3 D.tI rfl;obtain⟨f4,e4,t4⟩:=dR D.sN 4 D.Nr rfl;have h0:=n8 0 f0 y0 e0 rfl;have h1:=n8 1 f1 y1 e1 rfl;have h2:=n8 2 f2 y2 e2 rfl;have h3:=n8 3 f3 y3 e3 rfl;have h4:=n8 4 f4 y4 e4 rfl;rw[t0] at h0;rw[t1] at h1;rw[t2] at h2;rw[t3] at h3;rw[t4] at h4
  obtain⟨b,rfl⟩:=h0.G2 T.uB;obtain⟨s,rfl⟩:=h1.tg T.uS;obtain⟨z2,rfl,g2⟩:=h2.rh T.Ol;obtain⟨p,rfl,_⟩:=h3.vS D.uI;obtain⟨z4,rfl,g4⟩:=h4.rh D.P6;obtain⟨as,rfl,w2⟩:=Sh.attrs T z2 g2;obtain⟨ks,rfl,w4⟩:=Sh.ints D z4 g4;exact⟨⟨b,s,as,p,ks⟩,rfl,by simp only[Node.wt,IV.wt,lC];omega⟩
theorem Sh.nodes {T:za P} (D:Md P T):∀(ys:List IV),(∀y∈ys,Sh P D.tN y)→∃d:Doc,ys=d.map Node.iv∧kY d≤lC ys
 |[],_=>⟨[],rfl,by simp[lC,kY]⟩
 |y::r,h=>by
  obtain⟨x,rfl,h1⟩:=(h y (by simp)).node D;obtain⟨d,rfl,h2⟩:=Sh.nodes D r (fun z hz=>h z (by simp[hz]));exact⟨x::d,rfl,by simp only[kY,lC];omega⟩
theorem Sh.doc {T:za P} (D:Md P T) {y:IV} (h:Sh P D.tD y):∃d:Doc,y= .agg [.list (d.map Node.iv)]∧kY d≤y.wt:=by
 obtain⟨ys,rfl,hl,n8⟩:=h.vT D.uD;have hs:D.fD.size=1:=by have:=congrArg List.length D.sD;simpa using this
 match ys,hl.trans hs,n8 with
 |[y0],_,n8=>
  obtain⟨f0,e0,t0⟩:=dR D.sD 0 D.Ns rfl;have h0:=n8 0 f0 y0 e0 rfl;rw[t0] at h0;obtain⟨z,rfl,g⟩:=h0.rh D.P7;obtain⟨d,rfl,w⟩:=Sh.nodes D z g;exact⟨d,rfl,by simp only[IV.wt,lC];omega⟩
end
end Go.Am
