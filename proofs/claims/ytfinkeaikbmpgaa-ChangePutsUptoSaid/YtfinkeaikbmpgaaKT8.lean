import Derived.Test.YtfinkeaikbmpgaaKAm27
import Derived.Test.YtfinkeaikbmpgaaKT7
set_option linter.unusedSimpArgs false
set_option linter.unusedVariables false
set_option linter.unnecessarySimpa false
set_option linter.defProp false
/- Joined. -/
namespace Go.Am
open Go Go.RowKit
def iY (bD:Nat):AC:=
(.seq (.aM [⟨some 2,none,.ak (.c .nil0)⟩]) (.seq (.aM [⟨some 3,none,.ak (.c .nil0)⟩]) (.gh (.own 3 4) (.seq (.seq (.aM [⟨some 7,none,.ak (.t 0)⟩,⟨some 8,none,.len (.t 7)⟩,⟨some 9,none,.ak (.c (.int .i64 0))⟩]) (.block 0 (.loop (.seq (.aM [⟨some 10,none,.bin .lss (.t 9) (.t 8)⟩]) (.seq (.cond (.t 10) .skip (.exit 0)) (.seq (.block 1 (.seq (.aM [⟨some 11,none,.fJ (.t 7) (.t 9) 4⟩,⟨some 12,none,.load (some 4) (.t 11)⟩,⟨some 5,none,.new [(.bool false),(.str []),.nil0,.nil0]⟩,⟨none,none,.store 4 (.t 5) (.t 12)⟩]) (.seq (.aM [⟨some 13,none,.bV (.t 5) 3⟩,⟨some 14,none,.load none (.t 13)⟩,⟨some 15,none,.call bD [(.t 14)]⟩,⟨some 16,none,.bV (.t 5) 3⟩,⟨none,none,.store 1 (.t 16) (.t 15)⟩]) (.seq (.aM [⟨some 17,none,.ak (.t 3)⟩,⟨some 18,none,.len (.t 17)⟩,⟨some 6,none,.ak (.t 18)⟩]) (.block 2 (.seq (.aM [⟨some 24,none,.bV (.t 5) 0⟩,⟨some 25,none,.load none (.t 24)⟩,⟨some 26,none,.ak (.t 25)⟩,⟨some 27,(some (26,true)),(.bV (.t 5) 1)⟩,⟨some 28,(some (26,true)),(.load none (.t 27))⟩,⟨some 29,(some (26,true)),(.bin .eql (.t 28) (.c (.str [])))⟩,⟨some 30,none,.pick (.t 26) (.t 29) (.c (.bool false))⟩,⟨some 23,none,.ak (.t 30)⟩]) (.cond (.t 23) .skip (.seq (.aM [⟨some 32,none,.bV (.t 5) 0⟩,⟨some 33,none,.load none (.t 32)⟩,⟨some 34,none,.ak (.t 33)⟩,⟨some 35,(some (34,true)),(.ak (.t 6))⟩,⟨some 36,(some (34,true)),(.bin .gtr (.t 35) (.c (.int .i64 0)))⟩,⟨some 37,none,.pick (.t 34) (.t 36) (.c (.bool false))⟩,⟨some 38,none,.ak (.t 37)⟩,⟨some 39,(some (38,true)),(.ak (.t 3))⟩,⟨some 40,(some (38,true)),(.ak (.t 6))⟩,⟨some 41,(some (38,true)),(.bin .sub (.t 40) (.c (.int .i64 1)))⟩,⟨some 42,(some (38,true)),(.fJ (.t 39) (.t 41) 4)⟩,⟨some 43,(some (38,true)),(.bV (.t 42) 0)⟩,⟨some 44,(some (38,true)),(.load none (.t 43))⟩,⟨some 45,none,.pick (.t 38) (.t 44) (.c (.bool false))⟩,⟨some 31,none,.ak (.t 45)⟩]) (.cond (.t 31) (.eY [⟨some 46,none,.ak (.t 3)⟩,⟨some 47,none,.ak (.t 6)⟩,⟨some 48,none,.bin .sub (.t 47) (.c (.int .i64 1))⟩,⟨some 49,none,.fJ (.t 46) (.t 48) 4⟩,⟨some 50,none,.bV (.t 49) 1⟩,⟨some 51,none,.load none (.t 50)⟩,⟨some 52,none,.bV (.t 5) 1⟩,⟨some 53,none,.load none (.t 52)⟩,⟨some 54,none,.bin .add (.t 51) (.t 53)⟩,⟨some 55,none,.fJ (.t 46) (.t 48) 4⟩,⟨some 56,none,.bV (.t 55) 1⟩,⟨none,none,.store 1 (.t 56) (.t 54)⟩] [[],[],[1],[0,2],[3],[4],[],[6],[5,7],[0,2,0,1,2,3,4,5,6,7,8],[9,0,1,2,3,4,5,6,7,8],[10,8,0,1,2,3,4,5,6,7,8]] [.no,.no,.no,.no,.no,(.rw [.loc 3] []),.no,.rw [.loc 5] [],.no,.no,.no,(.rw [] [.loc 3])]) (.aM [⟨some 19,none,.ak (.t 3)⟩,⟨some 20,none,.load (some 4) (.t 5)⟩,⟨some 21,none,.lits 1 4 [(.bool false),(.str []),.nil0,.nil0] [(0,(.t 20))]⟩,⟨some 22,none,.app (.t 19) (.t 21) 4 72⟩,⟨some 3,none,.ak (.t 22)⟩])))))))))) (.aM [⟨some 57,none,.bin .add (.t 9) (.c (.int .i64 1))⟩,⟨some 9,none,.ak (.t 57)⟩]))))))) (.seq (.aM [⟨some 58,none,.ak (.t 3)⟩,⟨some 2,none,.ak (.t 58)⟩]) (.gh (.Ez (.loc 3) 2) .ret))))))
theorem Tree.LQ (x:Tree):x.cs.map IV.cW=[.bool x.text,.str x.s,.list (dY x.attrs),.list (dc x.kids)]:=rfl
theorem FD {P : Program} {G : Nat → Option (List IV)} {bD : Nat} (hF : aA P G bD = some (59,[(none,2)],(iY bD).bare)) (l : List Tree) (hx : di l ≤ B)
   (hJ:∀x∈l,az P G bD [.list (dc x.kids)] (.list (dc (eD x.kids)))):az P G bD [.list (dc l)] (.list (dc (eD l))):=by
 refine bm hF (by simp) (by simp[ax,AV.aI]) (by simp[AV.aI]) ?_
 have hl:=fu l
 unfold iY
 simp only[↓aX,mX,reduceCtorEq,Nat.reduceEqDiff,Nat.reduceLT,Nat.reduceLeDiff,Nat.reduceAdd,Nat.reduceMul,Int.reduceToNat,Int.reduceLE,Int.reduceLT,bb]
 refine Cm (σ:={i:Nat // i≤l.length}) 3 4 (fun q=>[(7,.list (dc l)),(8,.int .i64 l.length),(9,.int .i64 q.1)]) (fun q=>dc (gT [] (l.take q.1))) (fun q=>l.length - q.1) ⟨0,by simp⟩ (fun _=>rfl) ?_ ?_
 · simp only[G5,↓aX,mX,reduceCtorEq,Nat.reduceEqDiff,Nat.reduceLT,Nat.reduceLeDiff,Nat.reduceAdd,Nat.reduceMul,Int.reduceToNat,Int.reduceLE,Int.reduceLT]
   exact⟨rfl,3,[],rfl,rfl,rfl⟩
 · rintro ⟨i,hi⟩
   have DZ:=m6 [] (l.take i)
   have mT:=gn l i
   have G9:=fu (gT [] (l.take i))
   simp only[di] at DZ
   simp only[↓aX,mX,reduceCtorEq,Nat.reduceEqDiff,Nat.reduceLT,Nat.reduceLeDiff,Nat.reduceAdd,Nat.reduceMul,Int.reduceToNat,Int.reduceLE,Int.reduceLT,bb]
   refine nu (fun h=> ?_) (fun h=> ?_)
   · have cj:i<l.length:=by simpa using h
     obtain⟨x,D3⟩:∃x,l[i]?=some x:=⟨_,List.getElem?_eq_getElem cj⟩
     have hw:IntKind.i64.wrap ((i:Int)+1)=((i+1:Nat):Int):=wrap64 (by omega) (by unfold B at hx;omega)
     have BS:gT [] (l.take (i+1))=push (gT [] (l.take i)) x.jn:=by rw[List.take_add_one,D3,tk];rfl
     simp only[↓aX,mX,reduceCtorEq,Nat.reduceEqDiff,Nat.reduceLT,Nat.reduceLeDiff,Nat.reduceAdd,Nat.reduceMul,Int.reduceToNat,Int.reduceLE,Int.reduceLT,h,hw,gC,D3,l9,Tree.bL,Tree.cs]
     generalize Q7:gT [] (l.take i)=out at *
     refine aO (hJ x (List.mem_of_getElem? D3)) ?_
     have hlen:(dc out).length=out.length:=bb _
     have Js:dc (out++[x.jn])=dc out++[.agg [.bool x.text,.str x.s,.list (dY x.attrs),.list (dc (eD x.kids))]]:=by
       rw[uL];simp[dc,Tree.y_,Tree.cs,x.m5,x.Cv,x.Cw,x.FB]
     have next:∀(FE:List Tree) (env:Env) (H:Hp) (n:Nat),push out x.jn=FE→NF H→env 7= .list (dc l)→env 8= .int .i64 l.length→env 9= .int .i64 ((i+1:Nat):Int)→env 3= .sl (.loc n) 4 0 FE.length→H (.loc n)= .live ⟨4,ay (dc FE)⟩ →
         ∃s:{i:Nat // i≤l.length},l.length - s.1<l.length - i∧WR 3 4 (fun q:{i:Nat // i≤l.length}=>[(7,.list (dc l)),(8,.int .i64 l.length),(9,.int .i64 q.1)]) (fun q=>dc (gT [] (l.take q.1))) env H s:=by
       intro FE env H n h1 h2 h3 h4 h5 h6 h7
       refine⟨⟨i+1,cj⟩,by simp only;omega,?_⟩
       rw[G5]
       simp only[vV,zc,and_true,BS,h1,bb]
       exact⟨h2,⟨h3,h4,h5⟩,n,_,h6,h7,rfl⟩
     simp only[↓aX,mX,reduceCtorEq,Nat.reduceEqDiff,Nat.reduceLT,Nat.reduceLeDiff,Nat.reduceAdd,Nat.reduceMul,Int.reduceToNat,Int.reduceLE,Int.reduceLT,bb]
     cases ht:x.text with
     |false=>
       have hp:push out x.jn=out++[x.jn]:=by unfold push;rw[x.m5,ht];simp
       simp only[↓aX,mX,reduceCtorEq,Nat.reduceEqDiff,Nat.reduceLT,Nat.reduceLeDiff,Nat.reduceAdd,Nat.reduceMul,Int.reduceToNat,Int.reduceLE,Int.reduceLT,bb]
       rw[jO 4 72 22 3 (dc out) (.agg [.bool false,.str x.s,.list (dY x.attrs),.list (dc (eD x.kids))]) (by simp[ai]) hlen rfl (by simp[IV.cells]) (by unfold B at hx;omega) (by decide) (by decide) (by simp[ai,Hp.none])]
       simp only[↓aX,mX,reduceCtorEq,Nat.reduceEqDiff,Nat.reduceLT,Nat.reduceLeDiff,Nat.reduceAdd,Nat.reduceMul,Int.reduceToNat,Int.reduceLE,Int.reduceLT,hw]
       refine next _ _ _ 22 hp (by simp only[↓aX,mX,reduceCtorEq,Nat.reduceEqDiff,Nat.reduceLT,Nat.reduceLeDiff,Nat.reduceAdd,Nat.reduceMul,Int.reduceToNat,Int.reduceLE,Int.reduceLT]) rfl rfl rfl (by simp only[↓aX,mX,reduceCtorEq,Nat.reduceEqDiff,Nat.reduceLT,Nat.reduceLeDiff,Nat.reduceAdd,Nat.reduceMul,Int.reduceToNat,Int.reduceLE,Int.reduceLT];simp) ?_
       rw[Js,ht];simp only[↓aX,mX,reduceCtorEq,Nat.reduceEqDiff,Nat.reduceLT,Nat.reduceLeDiff,Nat.reduceAdd,Nat.reduceMul,Int.reduceToNat,Int.reduceLE,Int.reduceLT]
     |true=>
       simp only[↓aX,mX,reduceCtorEq,Nat.reduceEqDiff,Nat.reduceLT,Nat.reduceLeDiff,Nat.reduceAdd,Nat.reduceMul,Int.reduceToNat,Int.reduceLE,Int.reduceLT,bb]
       cases hs:(x.s==[]) with
       |true=>
         have hp:push out x.jn=out:=by unfold push;rw[x.m5,ht,x.Cv,hs];rfl
         simp only[↓aX,mX,reduceCtorEq,Nat.reduceEqDiff,Nat.reduceLT,Nat.reduceLeDiff,Nat.reduceAdd,Nat.reduceMul,Int.reduceToNat,Int.reduceLE,Int.reduceLT,hw]
         exact next _ _ _ 3 hp (by simp only[↓aX,mX,reduceCtorEq,Nat.reduceEqDiff,Nat.reduceLT,Nat.reduceLeDiff,Nat.reduceAdd,Nat.reduceMul,Int.reduceToNat,Int.reduceLE,Int.reduceLT]) rfl rfl rfl (by simp only[↓aX,mX,reduceCtorEq,Nat.reduceEqDiff,Nat.reduceLT,Nat.reduceLeDiff,Nat.reduceAdd,Nat.reduceMul,Int.reduceToNat,Int.reduceLE,Int.reduceLT,bb]) rfl
       |false=>
         simp only[↓aX,mX,reduceCtorEq,Nat.reduceEqDiff,Nat.reduceLT,Nat.reduceLeDiff,Nat.reduceAdd,Nat.reduceMul,Int.reduceToNat,Int.reduceLE,Int.reduceLT]
         by_cases h0:out=[]
         · have hp:push out x.jn=out++[x.jn]:=by unfold push;rw[x.m5,ht,x.Cv,hs,h0];rfl
           rw[show decide ((out.length:Int)>0)=false by rw[h0];rfl]
           simp only[↓aX,mX,reduceCtorEq,Nat.reduceEqDiff,Nat.reduceLT,Nat.reduceLeDiff,Nat.reduceAdd,Nat.reduceMul,Int.reduceToNat,Int.reduceLE,Int.reduceLT,bb]
           rw[jO 4 72 22 3 (dc out) (.agg [.bool true,.str x.s,.list (dY x.attrs),.list (dc (eD x.kids))]) (by simp[ai]) hlen rfl (by simp[IV.cells]) (by unfold B at hx;omega) (by decide) (by decide) (by simp[ai,Hp.none])]
           simp only[↓aX,mX,reduceCtorEq,Nat.reduceEqDiff,Nat.reduceLT,Nat.reduceLeDiff,Nat.reduceAdd,Nat.reduceMul,Int.reduceToNat,Int.reduceLE,Int.reduceLT,hw]
           refine next _ _ _ 22 hp (by simp only[↓aX,mX,reduceCtorEq,Nat.reduceEqDiff,Nat.reduceLT,Nat.reduceLeDiff,Nat.reduceAdd,Nat.reduceMul,Int.reduceToNat,Int.reduceLE,Int.reduceLT]) rfl rfl rfl (by simp only[↓aX,mX,reduceCtorEq,Nat.reduceEqDiff,Nat.reduceLT,Nat.reduceLeDiff,Nat.reduceAdd,Nat.reduceMul,Int.reduceToNat,Int.reduceLE,Int.reduceLT];simp) ?_
           rw[Js,ht];simp only[↓aX,mX,reduceCtorEq,Nat.reduceEqDiff,Nat.reduceLT,Nat.reduceLeDiff,Nat.reduceAdd,Nat.reduceMul,Int.reduceToNat,Int.reduceLE,Int.reduceLT]
         · have BU:0<out.length:=List.length_pos_iff.2 h0
           obtain⟨y,hy,G'⟩:=tl false out h0
           have xV:IntKind.i64.wrap ((out.length:Int) - 1)=((out.length - 1:Nat):Int):=by rw[wrap64 (by omega) (by unfold B at hx;omega)];omega
           have cM:(ay (dc out))[out.length - 1]?=some [.bool y.text,.str y.s,.list (dY y.attrs),.list (dc y.kids)]:=by rw[rj,gC,hy];simp[Tree.bL,Tree.cs,IV.cW]
           have jl:out.length - 1<out.length:=by omega
           rw[show decide ((out.length:Int)>0)=true by simp;exact BU]
           simp only[↓aX,mX,reduceCtorEq,Nat.reduceEqDiff,Nat.reduceLT,Nat.reduceLeDiff,Nat.reduceAdd,Nat.reduceMul,Int.reduceToNat,Int.reduceLE,Int.reduceLT,xV,jl,cM,bb]
           cases LR:y.text with
           |false=>
             have hp:push out x.jn=out++[x.jn]:=by unfold push;rw[x.m5,ht,x.Cv,hs,G',LR];rfl
             simp only[↓aX,mX,reduceCtorEq,Nat.reduceEqDiff,Nat.reduceLT,Nat.reduceLeDiff,Nat.reduceAdd,Nat.reduceMul,Int.reduceToNat,Int.reduceLE,Int.reduceLT,bb]
             rw[jO 4 72 22 3 (dc out) (.agg [.bool true,.str x.s,.list (dY x.attrs),.list (dc (eD x.kids))]) (by simp[ai]) hlen rfl (by simp[IV.cells]) (by unfold B at hx;omega) (by decide) (by decide) (by simp[ai,Hp.none])]
             simp only[↓aX,mX,reduceCtorEq,Nat.reduceEqDiff,Nat.reduceLT,Nat.reduceLeDiff,Nat.reduceAdd,Nat.reduceMul,Int.reduceToNat,Int.reduceLE,Int.reduceLT,hw]
             refine next _ _ _ 22 hp (by simp only[↓aX,mX,reduceCtorEq,Nat.reduceEqDiff,Nat.reduceLT,Nat.reduceLeDiff,Nat.reduceAdd,Nat.reduceMul,Int.reduceToNat,Int.reduceLE,Int.reduceLT]) rfl rfl rfl (by simp only[↓aX,mX,reduceCtorEq,Nat.reduceEqDiff,Nat.reduceLT,Nat.reduceLeDiff,Nat.reduceAdd,Nat.reduceMul,Int.reduceToNat,Int.reduceLE,Int.reduceLT];simp) ?_
             rw[Js,ht];simp only[↓aX,mX,reduceCtorEq,Nat.reduceEqDiff,Nat.reduceLT,Nat.reduceLeDiff,Nat.reduceAdd,Nat.reduceMul,Int.reduceToNat,Int.reduceLE,Int.reduceLT]
           |true=>
             have hp:push out x.jn=grow x.s out:=by unfold push;rw[x.m5,ht,x.Cv,hs,G',LR];rfl
             have hg:=zi x.s out y hy
             simp only[↓aX,mX,reduceCtorEq,Nat.reduceEqDiff,Nat.reduceLT,Nat.reduceLeDiff,Nat.reduceAdd,Nat.reduceMul,Int.reduceToNat,Int.reduceLE,Int.reduceLT,xV,jl,cM,bb,LR]
             refine⟨rfl,?_⟩
             have Oz:y.s.length+x.s.length≤9223372036854775807:=by
               have h1:=jN _ _ _ hy
               have h2:=y.iB
               have h3:=jN _ _ _ D3
               have h4:=x.iB
               unfold B at hx;omega
             simp only[↓aX,mX,reduceCtorEq,Nat.reduceEqDiff,Nat.reduceLT,Nat.reduceLeDiff,Nat.reduceAdd,Nat.reduceMul,Int.reduceToNat,Int.reduceLE,Int.reduceLT,Oz,xV,jl,cM,bb,LR,cB,hw]
             refine next (grow x.s out) _ _ 3 hp (by simp only[↓aX,mX,reduceCtorEq,Nat.reduceEqDiff,Nat.reduceLT,Nat.reduceLeDiff,Nat.reduceAdd,Nat.reduceMul,Int.reduceToNat,Int.reduceLE,Int.reduceLT]) rfl rfl rfl (by simp only[↓aX,mX,reduceCtorEq,Nat.reduceEqDiff,Nat.reduceLT,Nat.reduceLeDiff,Nat.reduceAdd,Nat.reduceMul,Int.reduceToNat,Int.reduceLE,Int.reduceLT,bb,v8]) ?_
             have Q8:(y.rC (y.s++x.s)).iv.cells.map IV.cW=[.bool true,.str (y.s++x.s),.list (dY y.attrs),.list (dc y.kids)]:=by
               rw[Tree.bL,Tree.LQ];simp[Tree.rC,Tree.text,Tree.s,Tree.attrs,Tree.kids];rw[←LR];rfl
             simp only[↓aX,mX,reduceCtorEq,Nat.reduceEqDiff,Nat.reduceLT,Nat.reduceLeDiff,Nat.reduceAdd,Nat.reduceMul,Int.reduceToNat,Int.reduceLE,Int.reduceLT]
             have ld:dc (out.set (out.length - 1) (y.rC (y.s++x.s)))=(dc out).set (out.length - 1) (y.rC (y.s++x.s)).iv:=by rw[kE,kE,List.map_set]
             rw[hg,ld,←rk,Q8]
   · simp only[↓aX,mX,reduceCtorEq,Nat.reduceEqDiff,Nat.reduceLT,Nat.reduceLeDiff,Nat.reduceAdd,Nat.reduceMul,Int.reduceToNat,Int.reduceLE,Int.reduceLT,h]
     refine⟨4,dc (gT [] (l.take i)),0,_,rfl,rfl,by rw[bb];omega,Ck _,?_⟩
     have qT:i=l.length:=by simp at h;omega
     subst qT
     simp only[eD,List.take_length,List.drop_zero,bb]
     congr 1
     exact List.take_of_length_le (by rw[bb];exact Nat.le_refl _)
end Go.Am

/- JoinedOf. -/
namespace Go.Am
open Go Go.RowKit
theorem eo {α:Type} {l:List α} {i:Nat} {x:α} (h:l[i]?=some x):l.take (i+1)=l.take i++[x]:=by rw[List.take_add_one,h];rfl
end Go.Am

/- Trees: the contracts, for all trees. -/
namespace Go.Am
open Go Go.RowKit
theorem AB {M:List Tree→Prop} (step:∀l,(∀x∈l,M x.kids)→M l):∀l,M l:=by
 have key:∀(n:Nat) (l:List Tree),di l≤n→M l:=by
  intro n
  induction n with
  |zero=>
   intro l hn;refine step l fun x hx=> ?_
   obtain⟨i,hi⟩:=List.getElem?_of_mem hx;have:=jN l i x hi;have:=x.iB;omega
  |succ n ih=>
   intro l hn;refine step l fun x hx=>ih _ ?_
   obtain⟨i,hi⟩:=List.getElem?_of_mem hx;have:=jN l i x hi;have:=x.iB;omega
 exact fun l=>key _ l (Nat.le_refl _)
theorem pq {l:List Tree} {x:Tree} (h:x∈l):x.wt≤di l:=by
 obtain⟨i,hi⟩:=List.getElem?_of_mem h;exact jN l i x hi
theorem m7 (x:Tree):di x.kids≤x.wt:=by have:=x.iB;omega
theorem LS (x:Tree):x.s.length≤x.wt:=by have:=x.iB;omega
theorem lr (x:Tree):l_ x.attrs≤x.wt:=by have:=x.iB;omega
theorem oC:∀{l:List Attr} {a:Attr},a∈l→a.wt≤l_ l
 |[],a,h=>by simp at h
 |b::r,a,h=>by
  simp only[List.mem_cons] at h;rcases h with rfl|h
  ·simp[l_]
  ·have:=oC h;simp only[l_];omega
section
variable {P:Program} {G:Nat→Option (List IV)}
theorem FF {bD:Nat} (hF:aA P G bD=some (59,[(none,2)],(iY bD).bare)) (l:List Tree):di l≤B→az P G bD [.list (dc l)] (.list (dc (eD l))):=
 AB (M:=fun l=>di l≤B→az P G bD [.list (dc l)] (.list (dc (eD l)))) (fun l h hB=>FD hF l hB fun x hx=>h x hx (by have:=pq hx;have:=m7 x;omega)) l
theorem G_ {g:Nat} (hF:aA P G g=some (32,[(none,2),(none,3)],(zg g).bare)):∀x:Tree,x.wt≤B→az P G g [x.av] (.dU [.int .i64 x.dep,.int .i64 x.dg]):=by
 have key:=AB (M:=fun l=>∀x∈l,x.wt≤B→az P G g [x.av] (.dU [.int .i64 x.dep,.int .i64 x.dg])) (fun l h x hx hB=>LM hF x hB fun k hk=>h x hx k hk (by have:=pq hk;have:=m7 x;omega));exact fun x=>key [x] x (by simp)
theorem Cy {fP fN D2 fF Br:Nat} (hP:aA P G fP=some (29,[(none,2)],rl.bare)) (hN:aA P G fN=some (28,[(none,2)],rq.bare)) (hA:aA P G D2=some (41,[(none,2)],(kc fN fP).bare))
  (hF:aA P G fF=some (38,[(none,2)],(vZ fP fN D2 Br).bare)) (Jq:aA P G Br=some (32,[(none,2)],(rA fF).bare)) (l:List Tree):di l≤B→az P G Br [.list (dc l)] (.bool (dT none l)):=by
 refine AB (M:=fun l=>di l≤B→az P G Br [.list (dc l)] (.bool (dT none l))) (fun l h hB=>Jr Jq l (by have:=fu l;omega) fun x hx=> ?_) l;have h1:=pq hx;have h2:=m7 x;have h3:=LS x;have h4:=lr x;have h5:=jM x.attrs;refine G7 hF x (rn hP _ (by omega)) (rr hN _ (by omega)) (rz hA _ (by omega) (fun a ha=>rr hN _ ?_) (fun a ha=>rn hP _ ?_)) (h x hx (by omega))
 ·have:=oC ha;unfold Attr.wt at this;omega
 ·have:=oC ha;unfold Attr.wt at this;omega
theorem LU {fP fN D2 fF Br:Nat} (hP:aA P G fP=some (29,[(none,2)],rl.bare)) (hN:aA P G fN=some (28,[(none,2)],rq.bare)) (hA:aA P G D2=some (41,[(none,2)],(kc fN fP).bare))
  (hF:aA P G fF=some (38,[(none,2)],(vZ fP fN D2 Br).bare)) (Jq:aA P G Br=some (32,[(none,2)],(rA fF).bare)) (x:Tree) (hB:x.wt≤B):az P G fF [x.av] (.bool x.fy):=by
 have h2:=m7 x;have h3:=LS x;have h4:=lr x;have h5:=jM x.attrs;refine G7 hF x (rn hP _ (by omega)) (rr hN _ (by omega)) (rz hA _ (by omega) (fun a ha=>rr hN _ ?_) (fun a ha=>rn hP _ ?_)) (Cy hP hN hA hF Jq _ (by omega))
 ·have:=oC ha;unfold Attr.wt at this;omega
 ·have:=oC ha;unfold Attr.wt at this;omega
end
end Go.Am

/- THE ABSTRACT MACHINE, part 32: loops whose rows stay where they are. -/
namespace Go.Am
open Go Go.RowKit
def D4 (H:Hp):List (Lb×Row)→Prop
 |[]=>True
 |(l,r)::t=>H l= .live r∧D4 H t
theorem D4.rw {H:Hp}:∀{rs:List (Lb×Row)},D4 H rs→zb (dS []) H rs
 |[],_=>trivial
 |(l,r)::t,h=>⟨by show H l= .live (dB id r);rw[uG];exact h.1,D4.rw h.2⟩
def WS {σ:Type} (ls:List Lb) (ps:σ→List (Nat×AV)) (rs:σ→List (Lb×Row)) (env:Env) (H:Hp) (s:σ):Prop:=I_ H ls∧xO env (ps s)∧D4 H (rs s)
theorem jX {σ:Type} {S:St} {Q:ka} {c:AC} {k:List It} {env:Env} {H:Hp} (ls:List Lb) (ps:σ→List (Nat×AV)) (rs:σ→List (Lb×Row)) (μ:σ→Nat) (s0:σ)
  (nr:∀s,(rs s).map Prod.fst=ls) (xW:ls.Nodup) (hp:∀s,∀l∈ax ((ps s).map Prod.snd),l∈ls) (hr:∀s,∀q∈rs s,∀cs∈q.2.els,∀l∈ax cs,l∈ls) (h0:WS ls ps rs env H s0)
  (round:∀s,go S (nD S Q k (WS ls ps rs) μ (μ s)) [.code c] (kF (ps s)) (jD (rs s))):oq S Q c k env H:=by
 refine mB (fun s=>kF (ps s)) (fun s=>jD (rs s)) (WS ls ps rs) ?_ μ s0 h0 round;rintro env H s ⟨h1,h2,h3⟩;refine⟨dS [],Oq.wk (m:=[]) ⟨h1,h2.eql,D4.rw h3,?_,fun l _=>⟨id,fun _=>rfl⟩⟩ (nr s) (hp s) (hr s)⟩;have:dS []=id:=rfl;rw[this,List.map_id];exact xW
theorem ma {σ:Type} {ls:List Lb} {ps:σ→List (Nat×AV)} {rs:σ→List (Lb×Row)} {env:Env} {H:Hp} {s:σ} (h1:I_ H ls) (h2:xO env (ps s)) (h3:D4 H (rs s)):WS ls ps rs env H s:=⟨h1,h2,h3⟩
theorem jQ:jD []=Hp.none:=rfl
theorem iD (l:Lb) (r:Row) (t:List (Lb×Row)):jD ((l,r)::t)=bG (jD t) l (.live r):=rfl
theorem uQ (H:Hp):D4 H []=True:=rfl
theorem rF (H:Hp) (l:Lb) (r:Row) (t:List (Lb×Row)):D4 H ((l,r)::t)=(H l= .live r∧D4 H t):=rfl
end Go.Am

/- Documents: their values; how a tree lies in one. -/
namespace Go.Am
open Go Go.RowKit
structure Node where
 text:Bool
 s:Bs
 attrs:List Attr
 parent:Int
 kids:List Int
abbrev Doc:=List Node
def a6 (n:Int):IV:= .int .i64 n
def Node.cs (x:Node):List IV:=[.bool x.text,.str x.s,.list (dY x.attrs),.int .i64 x.parent,.list (x.kids.map a6)]
def Node.iv (x:Node):IV:= .agg x.cs
def Node.av (x:Node):AV:= .agg [.bool x.text,.str x.s,.list (dY x.attrs),.int .i64 x.parent,.list (x.kids.map a6)]
theorem Node.bL (x:Node):x.iv.cells=x.cs:=rfl
theorem rG {α:Type} (f:α→IV) (n:Nat) (h:∀x,(f x).cells.length=n) (xs:List α):iw n (xs.map f):=by
 intro x hx;obtain⟨a,_,rfl⟩:=List.mem_map.1 hx;exact h a
theorem rH {α:Type} (f:α→IV) (h:∀x,∀z∈(f x).cells,∀cs,z≠ .agg cs) (xs:List α):Flat (xs.map f):=by
 intro x hx;obtain⟨a,_,rfl⟩:=List.mem_map.1 hx;exact h a
theorem oD (xs:List Int):iw 1 (xs.map a6):=rG a6 1 (fun _=>rfl) xs
theorem mb (xs:List Int):Flat (xs.map a6):=rH _ (by intro x z hz cs;simp[a6,IV.cells] at hz;subst hz;simp) _
theorem Node.ow (x:Node):∀z∈x.cs,∀cs,z≠ .agg cs:=by
 intro z hz cs;simp only[Node.cs,List.mem_cons,List.not_mem_nil,or_false] at hz;rcases hz with rfl|rfl|rfl|rfl|rfl<;>simp
theorem oE (xs:List Node):iw 5 (xs.map Node.iv):=rG Node.iv 5 (fun _=>rfl) xs
theorem Ha (xs:List Node):Flat (xs.map Node.iv):=rH _ (fun x=>x.ow) _
theorem Node.ext' {x y:Node} (h1:x.text=y.text) (h2:x.s=y.s) (h3:x.attrs=y.attrs) (h4:x.parent=y.parent) (h5:x.kids=y.kids):x=y:=by
 cases x;cases y;simp_all
def aS (off:Nat):List Tree→List Int
 |[]=>[]
 |k::r=>(off:Int)::aS (off+k.dg) r
mutual
def Tree.flat (off:Nat) (p:Int):Tree→List Node
 | .mk t s as ks=>⟨t,s,as,p,aS (off+1) ks⟩::cR (off+1) off ks
def cR (off:Nat) (p:Nat):List Tree→List Node
 |[]=>[]
 |k::r=>k.flat off p++cR (off+k.dg) p r
end
def Tree.node (off:Nat) (p:Int) (x:Tree):Node:=⟨x.text,x.s,x.attrs,p,aS (off+1) x.kids⟩
theorem Tree.kG (off:Nat) (p:Int) (x:Tree):x.flat off p=x.node off p::cR (off+1) off x.kids:=by
 cases x;simp[Tree.flat,Tree.node,Tree.text,Tree.s,Tree.attrs,Tree.kids]
mutual
theorem Tree.dJ (off:Nat) (p:Int):∀x:Tree,(x.flat off p).length=x.dg
 | .mk t s as ks=>by simp[Tree.flat,Tree.dg,ik (off+1) off ks]
theorem ik (off:Nat) (p:Nat):∀xs:List Tree,(cR off p xs).length=bC xs
 |[]=>by simp[cR,bC]
 |k::r=>by simp[cR,bC,k.dJ,ik _ p r]
end
theorem ep:∀(off:Nat) (xs:List Tree),(aS off xs).length=xs.length
 |_,[]=>rfl
 |off,k::r=>by simp[aS,ep _ r]
theorem jY:∀(off p:Nat) (xs ys:List Tree),cR off p (xs++ys)=cR off p xs++cR (off+bC xs) p ys
 |off,p,[],ys=>by simp[cR,bC]
 |off,p,k::r,ys=>by simp[cR,bC,jY _ p r ys,Nat.add_assoc]
theorem hZ:∀(off:Nat) (xs ys:List Tree),aS off (xs++ys)=aS off xs++aS (off+bC xs) ys
 |off,[],ys=>by simp[aS,bC]
 |off,k::r,ys=>by simp[aS,bC,hZ _ r ys,Nat.add_assoc]
def bF (x:Tree):Doc:=x.flat 0 (-1)
theorem Tree.cu (x:Tree):0<x.dg:=by rw[x.gm];omega
end Go.Am

/- Documents: which lists of nodes are some. -/
namespace Go.Am
open Go Go.RowKit
def wk (d:Doc):Nat→Int→Int→Int→Option Int
 |0,_,_,_=>none
 |f+1,n,p,nx=>if n=nx then match d[n.toNat]? with
   |some x=>if x.parent=p then x.kids.foldlM (fun q k=>wk d f k n q) (nx+1) else none
   |none=>none
  else none
theorem rI {α:Type} {l:List α} {n:Nat} {x:α} {r:List α} (h:l.drop n=x::r):l[n]?=some x∧l.drop (n+1)=r:=by
 have h1:(l.drop n)[0]?=some x:=by rw[h];rfl
 refine⟨by simpa[List.getElem?_drop] using h1,?_⟩;have:(l.drop n).drop 1=r:=by rw[h];rfl
 rwa[List.drop_drop] at this
theorem drop_eq {α:Type} {l:List α} {n:Nat} {x:α} (h:l[n]?=some x):l.drop n=x::l.drop (n+1):=by
 obtain⟨hn,rfl⟩:=List.getElem?_eq_some_iff.1 h;exact List.drop_eq_getElem_cons hn
theorem zj (d : Doc) : ∀ (f : Nat),
   (∀(m:Nat) (n p r:Int),wk d f n p m=some r→n=m∧∃x:Tree,x.dep≤f∧(∃post,d.drop m=x.flat m p++post)∧r=((m+x.dg:Nat):Int)):=by
 intro f
 induction f with
 |zero=>intro m n p r h;simp[wk] at h
 |succ f ih=>
   intro m n p r h
   unfold wk at h
   split at h
   · rename_i hn
     subst hn
     simp only[Int.toNat_natCast] at h
     cases hx:d[m]? with
     |none=>rw[hx] at h;simp at h
     |some nd=>
       rw[hx] at h
       simp only at h
       split at h
       · rename_i hp
         refine⟨rfl,?_⟩
         have kids:∀(ks:List Int) (q:Nat) (r:Int),ks.foldlM (fun q k=>wk d f k (m:Int) q) (q:Int)=some r→∃xs:List Tree,ks=aS q xs∧ff xs≤f∧(∃post,d.drop q=cR q m xs++post)∧r=((q+bC xs:Nat):Int):=by
           intro ks
           induction ks with
           |nil=>intro q r h;simp at h;subst h;exact⟨[],rfl,by simp[ff],⟨_,by simp[cR];rfl⟩,by simp[bC]⟩
           |cons k ks LV=>
             intro q r h
             rw[List.foldlM_cons] at h
             obtain⟨q',h1,h2⟩:=Option.bind_eq_some_iff.1 h
             obtain⟨rfl,x,x1,⟨post,x2⟩,rfl⟩:=ih q k m q' h1
             obtain⟨xs,e1,e2,⟨LW,e3⟩,rfl⟩:=LV _ _ h2
             refine⟨x::xs,by simp only[aS,e1],by simp only[ff];omega,⟨LW,?_⟩,by simp only[bC,Nat.add_assoc]⟩
             have:d.drop (q+x.dg)=post:=by
               rw[←List.drop_drop,x2,List.drop_append_of_le_length (by rw[x.dJ];exact Nat.le_refl _),List.drop_eq_nil_of_le (by rw[x.dJ];exact Nat.le_refl _)];rfl
             rw[x2,←this,e3];simp[cR]
         obtain⟨xs,e1,e2,⟨post,e3⟩,rfl⟩:=kids nd.kids (m+1) r (by simpa using h)
         refine⟨.mk nd.text nd.s nd.attrs xs,by simp only[Tree.dep];omega,⟨post,?_⟩,by simp only[Tree.dg];congr 1;omega⟩
         rw[drop_eq hx,e3]
         simp only[Tree.flat,List.cons_append,List.cons.injEq,and_true]
         exact Node.ext' rfl rfl rfl hp e1
       · simp at h
   · simp at h
theorem LX (d:Doc):∀(f:Nat) (x:Tree) (m:Nat) (p:Int),x.dep≤f→(∃post,d.drop m=x.flat m p++post)→wk d f m p m=some ((m+x.dg:Nat):Int):=by
 intro f
 induction f with
 |zero=>intro x m p h;rw[x.pn] at h;omega
 |succ f ih=>
  intro x m p hd ⟨post,hx⟩;rw[x.kG] at hx;obtain⟨h1,h2⟩:=rI hx;unfold wk;rw[if_pos rfl,Int.toNat_natCast,h1];simp only[Tree.node,if_true]
  have kids:∀(xs:List Tree) (q:Nat),ff xs≤f→(∃post,d.drop q=cR q m xs++post)→(aS q xs).foldlM (fun q k=>wk d f k (m:Int) q) (q:Int)=some ((q+bC xs:Nat):Int):=by
   intro xs
   induction xs with
   |nil=>intro q _ _;simp[aS,bC]
   |cons y ys LV=>
    intro q hq ⟨post,hp⟩;simp only[ff] at hq;simp only[cR,List.append_assoc] at hp;simp only[aS,List.foldlM_cons];rw[ih y q m (by omega) ⟨_,hp⟩];simp only[Option.bind_eq_bind,Option.bind_some];rw[LV (q+y.dg) (by omega) ⟨post,by rw[←List.drop_drop,hp,List.drop_append_of_le_length (by rw[y.dJ];exact Nat.le_refl _),List.drop_eq_nil_of_le (by rw[y.dJ];exact Nat.le_refl _)];rfl⟩]
    simp only[bC,Nat.add_assoc]
  have LY:=x.pn;have:=kids x.kids (m+1) (by omega) ⟨post,h2⟩;rw[show((m:Int)+1)=((m+1:Nat):Int) by omega,this,x.gm]
  congr 2;omega
mutual
theorem Tree.rJ:∀(x y:Tree) (off:Nat) (p:Int) (r r':List Node),x.flat off p++r=y.flat off p++r'→x=y
 | .mk t s as ks,.mk t' s' Sy nN,off,p,r,r',h=>by
  simp only[Tree.flat,List.cons_append,List.cons.injEq,Node.mk.injEq] at h;obtain⟨⟨rfl,rfl,rfl,_,hk⟩,h⟩:=h;have hl:ks.length=nN.length:=by have:=congrArg List.length hk;simpa[ep] using this
  rw[tn ks nN (off+1) off r r' hl h]
theorem tn:∀(xs ys:List Tree) (off p:Nat) (r r':List Node),xs.length=ys.length→cR off p xs++r=cR off p ys++r'→xs=ys
 |[],[],_,_,_,_,_,_=>rfl
 |[],_::_,_,_,_,_,h,_=>by simp at h
 |_::_,[],_,_,_,_,h,_=>by simp at h
 |x::xs,y::ys,off,p,r,r',hl,h=>by
  simp only[cR,List.append_assoc] at h;have e:=x.rJ y off p _ _ h;subst e;have:=List.append_cancel_left h;rw[tn xs ys _ p r r' (by simpa using hl) this]
end
theorem AD {x y:Tree} (h:bF x=bF y):x=y:=x.rJ y 0 (-1) [] [] (by simpa[bF] using h)
theorem iS (x:Tree):(bF x).length=x.dg:=x.dJ 0 (-1)
def rK (d:Doc):Prop:=∃x:Tree,x.iu=true∧d=bF x
open Classical in
noncomputable def fX (d:Doc):Bool:=decide (rK d)
theorem m8 {d:Doc}:fX d=true↔rK d:=by simp[fX]
theorem oF {x:Tree} (h:x.iu=true):fX (bF x)=true:=m8.2 ⟨x,h,rfl⟩
theorem lu {d:Doc} (h:¬rK d):fX d=false:=by simp[fX,h]
theorem jt (x:Tree):x.iu=true↔x.text=false∧x.dep≤8∧x.dg≤80∧x.fy=true:=by
 simp only[Tree.iu,Bool.and_eq_true,Bool.not_eq_true',decide_eq_true_eq];constructor
 ·rintro⟨h1,h2,h3,h4⟩;exact⟨h1,by omega,by omega,h4⟩
 ·rintro⟨h1,h2,h3,h4⟩;exact⟨h1,by omega,by omega,h4⟩
theorem Jt {d:Doc} (h:wk d 8 0 (-1) 0=some (d.length:Int)):∃x:Tree,x.dep≤8∧d=bF x:=by
 obtain⟨_,x,h1,⟨post,h2⟩,h3⟩:=zj d 8 0 0 (-1) _ h;refine⟨x,h1,?_⟩;simp only[List.drop_zero,Nat.zero_add] at h2 h3
 have hl:post=[]:=by
  have:=congrArg List.length h2;rw[List.length_append,x.dJ] at this;have:x.dg=d.length:=by omega
  exact List.length_eq_zero_iff.1 (by omega)
 rw[h2,hl,List.append_nil];rfl
theorem FG {x:Tree} (h:x.dep≤8):wk (bF x) 8 0 (-1) 0=some ((bF x).length:Int):=by
 have:=LX (bF x) 8 x 0 (-1) h ⟨[],by simp[bF]⟩;rw[iS];simpa using this
end Go.Am

/- Documents: what lies where. -/
namespace Go.Am
open Go Go.RowKit
inductive Sub:Nat→Int→Tree→Nat→Int→Tree→Prop
 |self (off:Nat) (p:Int) (t:Tree):Sub off p t off p t
 |rM {off:Nat} {p:Int} {t:Tree} {n:Nat} {q:Int} {y:Tree} (a b:List Tree) (k:Tree):t.kids=a++k::b→Sub (off+1+bC a) off k n q y→Sub off p t n q y
def gU (d:Doc) (n:Nat) (q:Int) (y:Tree):Prop:=∃post,d.drop n=y.flat n q++post
theorem Sub.xX {off:Nat} {p:Int} {t:Tree} {n:Nat} {q:Int} {y:Tree} (h:Sub off p t n q y):off≤n∧n+y.dg≤off+t.dg:=by
 induction h with
 |self=>exact⟨Nat.le_refl _,Nat.le_refl _⟩
 |@rM off p t n q y a b k hk _ ih=>
  have h1:=t.gm;rw[hk,eP] at h1;simp only[bC] at h1;omega
theorem Cz {α:Type} {a b c:List α} {n:Nat} (h:a.length=n):(a++b).drop n=b:=by subst h;simp
theorem Sub.rN {off:Nat} {p:Int} {t:Tree} {n:Nat} {q:Int} {y:Tree} (h:Sub off p t n q y):∀d:Doc,gU d off p t→gU d n q y:=by
 induction h with
 |self=>exact fun _ h=>h
 |@rM off p t n q y a b k hk _ ih=>
  rintro d ⟨post,h⟩;refine ih d ⟨cR (off+1+bC a+k.dg) off b++post,?_⟩;rw[t.kG,hk] at h;have h2:=(rI h).2;rw[jY] at h2;have h3:d.drop (off+1)=cR (off+1) off a++(cR (off+1+bC a) off (k::b)++post):=by rw[h2];exact List.append_assoc _ _ _
  rw[←List.drop_drop,h3,Cz (c:=[]) (ik _ _ _)];simp[cR]
theorem Sub.parent {off:Nat} {p:Int} {t:Tree} {n:Nat} {q:Int} {y:Tree} (h:Sub off p t n q y) :
  (n=off∧q=p∧y=t)∨∃(m:Nat) (z:Tree) (r:Int),q=(m:Int)∧Sub off p t m r z∧m<n∧n+y.dg≤m+z.dg∧y∈z.kids∧off≤m:=by
 induction h with
 |self=>exact .inl ⟨rfl,rfl,rfl⟩
 |@rM off p t n q y a b k hk hs ih=>
  right;rcases ih with⟨rfl,rfl,rfl⟩|⟨m,z,r,e1,e2,e3,e4,e5,e6⟩
  ·have h1:=t.gm;rw[hk,eP] at h1;simp only[bC] at h1;exact⟨off,t,p,rfl,.self _ _ _,by omega,by omega,by rw[hk];simp,Nat.le_refl _⟩
  ·exact⟨m,z,r,e1,.rM a b k hk e2,e3,e4,e5,by omega⟩
theorem Sub.trans {off:Nat} {p:Int} {t:Tree} {n:Nat} {q:Int} {y:Tree} (h:Sub off p t n q y) {m:Nat} {r:Int} {z:Tree} (h2:Sub n q y m r z):Sub off p t m r z:=by
 induction h with
 |self=>exact h2
 |rM a b k hk _ ih=>exact .rM a b k hk (ih h2)
theorem FH:∀(sz:Nat) (t:Tree) (off:Nat) (p:Int) (n:Nat),t.dg≤sz→off≤n→n<off+t.dg→∃q y,Sub off p t n q y:=by
 intro sz
 induction sz with
 |zero=>intro t off p n h;have:=t.cu;omega
 |succ sz ih=>
   intro t off p n h h1 h2
   by_cases e:n=off
   · subst e;exact⟨_,_,.self _ _ _⟩
   · have key:∀(ks a:List Tree),t.kids=a++ks→off+1+bC a≤n→n<off+1+bC a+bC ks→∃q y,Sub off p t n q y:=by
       intro ks
       induction ks with
       |nil=>intro a _ h3 h4;simp[bC] at h4;omega
       |cons k ks LV=>
         intro a hk h3 h4
         by_cases cj:n<off+1+bC a+k.dg
         · have hc:=t.gm
           rw[hk,eP] at hc
           simp only[bC] at hc
           obtain⟨q,y,hs⟩:=ih k (off+1+bC a) off n (by omega) h3 cj
           exact⟨q,y,.rM a ks k hk hs⟩
         · simp only[bC] at h4
           refine LV (a++[k]) (by rw[hk];simp) ?_ ?_
           · rw[eP];simp only[bC];omega
           · rw[eP];simp only[bC];omega
     refine key t.kids [] rfl ?_ ?_
     · simp[bC];omega
     · have:=t.gm;simp[bC];omega
theorem gU.node {d:Doc} {n:Nat} {q:Int} {y:Tree} (h:gU d n q y):d[n]?=some (y.node n q):=by
 obtain⟨post,h⟩:=h;rw[y.kG] at h;exact(rI h).1
theorem gU.len {d:Doc} {n:Nat} {q:Int} {y:Tree} (h:gU d n q y):n+y.dg≤d.length:=by
 obtain⟨post,h⟩:=h;have:=congrArg List.length h;rw[List.length_drop,List.length_append,y.dJ] at this;have:=y.cu;omega
theorem gU.rM {d:Doc} {n:Nat} {q:Int} {y:Tree} (h:gU d n q y) (a b:List Tree) (k:Tree) (hk:y.kids=a++k::b):gU d (n+1+bC a) n k:=
 (Sub.rM (off:=n) (p:=q) a b k hk (.self _ _ _)).rN d h
theorem gU.uniq {d:Doc} {n:Nat} {q q':Int} {y y':Tree} (h:gU d n q y) (h':gU d n q' y'):y=y'∧q=q':=by
 have e:q=q':=by
  have:=h.node.symm.trans h'.node;simp only[Option.some.injEq] at this;exact congrArg Node.parent this
 subst e;obtain⟨post,h⟩:=h;obtain⟨LZ,h'⟩:=h';exact⟨y.rJ y' n q post LZ (h.symm.trans h'),rfl⟩
theorem rO {t:Tree} {n:Nat} (h:n<(bF t).length):∃q y,gU (bF t) n q y∧Sub 0 (-1) t n q y:=by
 rw[iS] at h;obtain⟨q,y,hs⟩:=FH t.dg t 0 (-1) n (Nat.le_refl _) (Nat.zero_le _) (by omega);exact⟨q,y,hs.rN _ ⟨[],by simp[bF]⟩,hs⟩
theorem il:∀{p:Option Bool} {l:List Tree},dT p l=true→∀x∈l,x.fy=true
 |_,[],_,x,hx=>by simp at hx
 |p,y::r,h,x,hx=>by
  simp only[dT,Bool.and_eq_true] at h;simp only[List.mem_cons] at hx;rcases hx with rfl|hx
  ·exact h.1
  ·exact il h.2.2 x hx
theorem Tree.iT {x:Tree} (h:x.fy=true):dT none x.kids=true:=by
 cases ht:x.text with
 |true=>
  rw[x.xT ht] at h;simp only[Bool.and_eq_true,beq_iff_eq,List.length_eq_zero_iff] at h;rw[h.2.2.2];rfl
 |false=>
  rw[x.rB ht] at h;simp only[Bool.and_eq_true] at h;exact h.2.2
theorem Sub.fy {off:Nat} {p:Int} {t:Tree} {n:Nat} {q:Int} {y:Tree} (h:Sub off p t n q y):t.fy=true→y.fy=true:=by
 induction h with
 |self=>exact id
 |rM a b k hk _ ih=>exact fun h=>ih (il (Tree.iT h) k (by rw[hk];simp))
theorem Tree.iU {x:Tree} (h:x.fy=true) (ht:x.text=true):x.kids=[]∧x.attrs=[]∧x.s≠[]:=by
 rw[x.xT ht] at h;simp only[Bool.and_eq_true,beq_iff_eq,List.length_eq_zero_iff,bne_iff_ne] at h;exact⟨h.2.2.2,h.2.2.1,h.2.1⟩
end Go.Am

/- Content; what is told; sameness, once more. -/
namespace Go.Am
open Go Go.RowKit
def ke (kH jR:Nat):AC:=
(.seq (.aM [⟨some 2,none,.ak (.c (.bool false))⟩]) (.seq (.aM [⟨some 3,none,.ak (.c (.int .i64 0))⟩]) (.seq (.seq (.aM [⟨some 8,none,.ak (.t 0)⟩,⟨some 9,none,.len (.t 8)⟩,⟨some 10,none,.ak (.c (.int .i64 0))⟩]) (.block 0 (.loop (.seq (.aM [⟨some 11,none,.bin .lss (.t 10) (.t 9)⟩]) (.seq (.cond (.t 11) .skip (.exit 0)) (.seq (.block 1 (.seq (.aM [⟨some 12,none,.fJ (.t 8) (.t 10) 4⟩,⟨some 13,none,.load (some 4) (.t 12)⟩,⟨some 5,none,.new [(.bool false),(.str []),.nil0,.nil0]⟩,⟨none,none,.store 4 (.t 5) (.t 13)⟩]) (.seq (.aM [⟨some 15,none,.load (some 4) (.t 5)⟩,⟨some 16,none,.call kH [(.t 15)]⟩,⟨some 14,none,.ak (.t 16)⟩,⟨some 17,none,.ext (.t 14) 0⟩,⟨some 18,none,.ext (.t 14) 1⟩,⟨some 6,none,.ak (.t 17)⟩,⟨some 7,none,.ak (.t 18)⟩]) (.seq (.seq (.aM [⟨some 19,none,.ak (.t 6)⟩,⟨some 20,none,.bin .gtr (.t 19) (.c (.int .i64 8))⟩]) (.cond (.t 20) (.seq (.aM [⟨some 2,none,.ak (.c (.bool false))⟩]) .ret) .skip)) (.aM [⟨some 21,none,.ak (.t 3)⟩,⟨some 22,none,.ak (.t 7)⟩,⟨some 23,none,.bin .add (.t 21) (.t 22)⟩,⟨some 3,none,.ak (.t 23)⟩]))))) (.aM [⟨some 24,none,.bin .add (.t 10) (.c (.int .i64 1))⟩,⟨some 10,none,.ak (.t 24)⟩]))))))) (.seq (.aM [⟨some 25,none,.ak (.t 3)⟩,⟨some 26,none,.bin .leq (.t 25) (.c (.int .i64 80))⟩,⟨some 27,none,.ak (.t 26)⟩,⟨some 28,(some (27,true)),(.ak (.t 0))⟩,⟨some 29,(some (27,true)),(.call jR [(.t 28)])⟩,⟨some 30,none,.pick (.t 27) (.t 29) (.c (.bool false))⟩,⟨some 2,none,.ak (.t 30)⟩]) .ret))))
def content (l:List Tree):Bool:=l.all (fun x=>decide (x.dep≤8))&&(decide (bC l≤80)&&dT none l)
theorem CA {P:Program} {G:Nat→Option (List IV)} {aB kH jR:Nat} (hF:aA P G aB=some (31,[(none,2)],(ke kH jR).bare)) (l:List Tree) (hx:di l≤B)
  (hS:∀x∈l,az P G kH [x.av] (.dU [.int .i64 x.dep,.int .i64 x.dg])) (Jq:az P G jR [.list (dc l)] (.bool (dT none l))):az P G aB [.list (dc l)] (.bool (content l)):=by
 refine bm hF (by simp) (by simp[ax,AV.aI]) (by simp[AV.aI]) ?_;have hl:=fu l;unfold ke;simp only[↓aX,mX,reduceCtorEq,Nat.reduceEqDiff,Nat.reduceLT,Nat.reduceLeDiff,Nat.reduceAdd,Nat.reduceMul,Int.reduceToNat,Int.reduceLE,Int.reduceLT,bb]
 refine jW (σ:={i:Nat // i≤l.length∧(l.take i).all (fun x=>decide (x.dep≤8))=true}) (fun q=>[(0,.list (dc l)),(3,.int .i64 (bC (l.take q.1))),(8,.list (dc l)),(9,.int .i64 l.length),(10,.int .i64 q.1)]) (fun q=>l.length - q.1) ⟨0,by simp⟩ (fun _=>rfl) ?_ ?_
 ·exact⟨by simp only[↓aX,mX,reduceCtorEq,Nat.reduceEqDiff,Nat.reduceLT,Nat.reduceLeDiff,Nat.reduceAdd,Nat.reduceMul,Int.reduceToNat,Int.reduceLE,Int.reduceLT],by repeat' constructor⟩
 ·rintro⟨i,hi,hs⟩;simp only[↓aX,mX,reduceCtorEq,Nat.reduceEqDiff,Nat.reduceLT,Nat.reduceLeDiff,Nat.reduceAdd,Nat.reduceMul,Int.reduceToNat,Int.reduceLE,Int.reduceLT,bb];refine nu (fun h=> ?_) (fun h=> ?_)
  ·have cj:i<l.length:=by simpa using h
   obtain⟨x,D3⟩:∃x,l[i]?=some x:=⟨_,List.getElem?_eq_getElem cj⟩;have hw:IntKind.i64.wrap ((i:Int)+1)=((i+1:Nat):Int):=wrap64 (by omega) (by unfold B at hx;omega);have h2:=gn l i;have h3:=jP (l.take i);have h5:=jN _ _ _ D3;have h6:=x.xS;have h1:l.take (i+1)=l.take i++[x]:=by rw[List.take_add_one,D3];rfl
   have hc:IntKind.i64.wrap ((bC (l.take i):Int)+(x.dg:Int))=((bC (l.take (i+1)):Nat):Int):=by
    rw[wrap64 (by omega) (by unfold B at hx;omega),h1,eP];simp[bC]
   simp only[↓aX,mX,reduceCtorEq,Nat.reduceEqDiff,Nat.reduceLT,Nat.reduceLeDiff,Nat.reduceAdd,Nat.reduceMul,Int.reduceToNat,Int.reduceLE,Int.reduceLT,gC,D3,l9,Tree.bL,Tree.cs];refine aO (hS x (List.mem_of_getElem? D3)) ?_;simp only[↓aX,mX,reduceCtorEq,Nat.reduceEqDiff,Nat.reduceLT,Nat.reduceLeDiff,Nat.reduceAdd,Nat.reduceMul,Int.reduceToNat,Int.reduceLE,Int.reduceLT]
   refine nu (fun h9=> ?_) (fun h9=> ?_)
   ·simp only[↓aX,mX,reduceCtorEq,Nat.reduceEqDiff,Nat.reduceLT,Nat.reduceLeDiff,Nat.reduceAdd,Nat.reduceMul,Int.reduceToNat,Int.reduceLE,Int.reduceLT]
    have:l.all (fun x=>decide (x.dep≤8))=false:=by
     rw[Bool.eq_false_iff];intro gf;have:=List.all_eq_true.1 gf x (List.mem_of_getElem? D3);simp at this h9;omega
    rw[content,this];rfl
   ·simp only[↓aX,mX,reduceCtorEq,Nat.reduceEqDiff,Nat.reduceLT,Nat.reduceLeDiff,Nat.reduceAdd,Nat.reduceMul,Int.reduceToNat,Int.reduceLE,Int.reduceLT,hw,hc];refine⟨⟨i+1,cj,?_⟩,by simp only;omega,by simp only[↓aX,mX,reduceCtorEq,Nat.reduceEqDiff,Nat.reduceLT,Nat.reduceLeDiff,Nat.reduceAdd,Nat.reduceMul,Int.reduceToNat,Int.reduceLE,Int.reduceLT],by repeat' constructor⟩;rw[h1,List.all_append,hs]
    simp at h9 ⊢;omega
  ·have qT:i=l.length:=by simp at h;omega
   subst qT;rw[List.take_length] at hs;simp only[↓aX,mX,reduceCtorEq,Nat.reduceEqDiff,Nat.reduceLT,Nat.reduceLeDiff,Nat.reduceAdd,Nat.reduceMul,Int.reduceToNat,Int.reduceLE,Int.reduceLT,List.take_length];cases h9:decide ((bC l:Int)≤80) with
   |true=>
    simp only[↓aX,mX,reduceCtorEq,Nat.reduceEqDiff,Nat.reduceLT,Nat.reduceLeDiff,Nat.reduceAdd,Nat.reduceMul,Int.reduceToNat,Int.reduceLE,Int.reduceLT];refine aO Jq ?_;simp only[↓aX,mX,reduceCtorEq,Nat.reduceEqDiff,Nat.reduceLT,Nat.reduceLeDiff,Nat.reduceAdd,Nat.reduceMul,Int.reduceToNat,Int.reduceLE,Int.reduceLT];have:decide (bC l≤80)=true:=by simp at h9 ⊢;omega
    rw[content,hs,this];rfl
   |false=>
    simp only[↓aX,mX,reduceCtorEq,Nat.reduceEqDiff,Nat.reduceLT,Nat.reduceLeDiff,Nat.reduceAdd,Nat.reduceMul,Int.reduceToNat,Int.reduceLE,Int.reduceLT];have:decide (bC l≤80)=false:=by simp at h9 ⊢;omega
    rw[content,hs,this];rfl
end Go.Am

/- Are two trees alike? TreeOnce. -/
namespace Go.Am
open Go Go.RowKit
def fB (cH:Nat):AC:=
(.seq (.aM [⟨some 2,none,.box (.t 0)⟩,⟨some 3,none,.box (.t 1)⟩,⟨some 4,none,.ak (.c (.bool false))⟩]) (.seq (.seq (.aM [⟨some 6,none,.bV (.t 2) 0⟩,⟨some 7,none,.load none (.t 6)⟩,⟨some 8,none,.bV (.t 3) 0⟩,⟨some 9,none,.load none (.t 8)⟩,⟨some 10,none,.Bu true (.t 7) (.t 9)⟩,⟨some 11,none,.ak (.t 10)⟩,⟨some 12,(some (11,false)),(.bV (.t 2) 1)⟩,⟨some 13,(some (11,false)),(.load none (.t 12))⟩,⟨some 14,(some (11,false)),(.bV (.t 3) 1)⟩,⟨some 15,(some (11,false)),(.load none (.t 14))⟩,⟨some 16,(some (11,false)),(.bin .neq (.t 13) (.t 15))⟩,⟨some 17,none,.pick (.t 11) (.c (.bool true)) (.t 16)⟩,⟨some 18,none,.ak (.t 17)⟩,⟨some 19,(some (18,false)),(.bV (.t 2) 2)⟩,⟨some 20,(some (18,false)),(.load none (.t 19))⟩,⟨some 21,(some (18,false)),(.len (.t 20))⟩,⟨some 22,(some (18,false)),(.bV (.t 3) 2)⟩,⟨some 23,(some (18,false)),(.load none (.t 22))⟩,⟨some 24,(some (18,false)),(.len (.t 23))⟩,⟨some 25,(some (18,false)),(.bin .neq (.t 21) (.t 24))⟩,⟨some 26,none,.pick (.t 18) (.c (.bool true)) (.t 25)⟩]) (.cond (.t 26) (.seq (.aM [⟨some 4,none,.ak (.c (.bool false))⟩]) .ret) .skip)) (.seq (.seq (.aM [⟨some 27,none,.bV (.t 2) 2⟩,⟨some 28,none,.load none (.t 27)⟩,⟨some 29,none,.len (.t 28)⟩,⟨some 30,none,.ak (.c (.int .i64 0))⟩]) (.block 0 (.loop (.seq (.aM [⟨some 31,none,.bin .lss (.t 30) (.t 29)⟩]) (.seq (.cond (.t 31) .skip (.exit 0)) (.seq (.block 1 (.seq (.aM [⟨some 32,none,.ak (.t 30)⟩,⟨some 5,none,.ak (.t 32)⟩]) (.seq (.eY [⟨some 33,none,.bV (.t 2) 2⟩,⟨some 34,none,.load none (.t 33)⟩,⟨some 35,none,.ak (.t 5)⟩,⟨some 36,none,.fJ (.t 34) (.t 35) 2⟩,⟨some 37,none,.load (some 2) (.t 36)⟩,⟨some 38,none,.bV (.t 3) 2⟩,⟨some 39,none,.load none (.t 38)⟩,⟨some 40,none,.ak (.t 5)⟩,⟨some 41,none,.fJ (.t 39) (.t 40) 2⟩,⟨some 42,none,.load (some 2) (.t 41)⟩,⟨some 43,none,.qJ true [.s,.s] (.t 37) (.t 42)⟩] [[],[0],[],[1,2],[3],[],[5],[],[6,7],[8],[4,9]] [.no,.rw [.loc 2] [],.no,.no,.no,.no,(.rw [.loc 3] []),.no,.no,.no,.no]) (.cond (.t 43) (.seq (.aM [⟨some 4,none,.ak (.c (.bool false))⟩]) .ret) .skip)))) (.aM [⟨some 44,none,.bin .add (.t 30) (.c (.int .i64 1))⟩,⟨some 30,none,.ak (.t 44)⟩]))))))) (.seq (.aM [⟨some 45,none,.bV (.t 2) 3⟩,⟨some 46,none,.load none (.t 45)⟩,⟨some 47,none,.bV (.t 3) 3⟩,⟨some 48,none,.load none (.t 47)⟩,⟨some 49,none,.call cH [(.t 46),(.t 48)]⟩,⟨some 4,none,.ak (.t 49)⟩]) .ret))))
theorem tp {P : Program} {G : Nat → Option (List IV)} {cy cH : Nat} (hF : aA P G cy = some (50,[(none,4)],(fB cH).bare)) (x y : Tree) (hx : x.attrs.length ≤ B)
   (hS:az P G cH [.list (dc x.kids),.list (dc y.kids)] (.bool (vp x.kids y.kids))):az P G cy [x.av,y.av] (.bool (vp x y)):=by
 refine bm hF (by simp) (by simp[ax,AV.aI,Tree.av]) (by simp[AV.aI]) ?_
 unfold fB
 simp only[↓aX,mX,reduceCtorEq,Nat.reduceEqDiff,Nat.reduceLT,Nat.reduceLeDiff,Nat.reduceAdd,Nat.reduceMul,Int.reduceToNat,Int.reduceLE,Int.reduceLT,Tree.av]
 by_cases h1:x.text=y.text
 · have e1 : (x.text == y.text) = true := by rw [h1]; simp
   simp only[e1,↓aX,mX,reduceCtorEq,Nat.reduceEqDiff,Nat.reduceLT,Nat.reduceLeDiff,Nat.reduceAdd,Nat.reduceMul,Int.reduceToNat,Int.reduceLE,Int.reduceLT]
   by_cases h2:x.s=y.s
   · have e2:(x.s==y.s)=true:=by rw[h2];simp
     simp only[e2,↓aX,mX,reduceCtorEq,Nat.reduceEqDiff,Nat.reduceLT,Nat.reduceLeDiff,Nat.reduceAdd,Nat.reduceMul,Int.reduceToNat,Int.reduceLE,Int.reduceLT,cX]
     by_cases h3:x.attrs.length=y.attrs.length
     · rw[show((x.attrs.length:Int) !=(y.attrs.length:Int))=false by simp[h3]]
       simp only[↓aX,mX,reduceCtorEq,Nat.reduceEqDiff,Nat.reduceLT,Nat.reduceLeDiff,Nat.reduceAdd,Nat.reduceMul,Int.reduceToNat,Int.reduceLE,Int.reduceLT,cX]
       refine jX (σ:={i:Nat // i≤x.attrs.length∧∀j,j<i→x.attrs[j]?=y.attrs[j]?}) [.loc 3,.loc 2] (fun q=>[(2,.ptr (.loc 2) 4 0 0),(3,.ptr (.loc 3) 4 0 0),(29,.int .i64 x.attrs.length),(30,.int .i64 q.1)])
         (fun _=>[(.loc 3,⟨4,[[.bool y.text,.str y.s,.list (dY y.attrs),.list (dc y.kids)]]⟩),(.loc 2,⟨4,[[.bool x.text,.str x.s,.list (dY x.attrs),.list (dc x.kids)]]⟩)]) (fun q=>x.attrs.length - q.1) ⟨0,by simp⟩
         (fun _=>rfl) (by decide) (by simp[ax,AV.aI]) (by simp[ax,AV.aI]) ?_ ?_
       · exact ma (by simp only[uM,ri]) (by repeat' constructor) (by repeat' constructor)
       · rintro⟨i,hi,hs⟩
         simp only[↓aX,mX,reduceCtorEq,Nat.reduceEqDiff,Nat.reduceLT,Nat.reduceLeDiff,Nat.reduceAdd,Nat.reduceMul,Int.reduceToNat,Int.reduceLE,Int.reduceLT,jQ,iD]
         by_cases cj:i<x.attrs.length
         · rw[show decide ((i:Int)<(x.attrs.length:Int))=true by simpa using cj]
           obtain⟨a,ha⟩:∃a,x.attrs[i]?=some a:=⟨_,List.getElem?_eq_getElem cj⟩
           obtain⟨b,hb⟩:∃b,y.attrs[i]?=some b:=⟨_,List.getElem?_eq_getElem (h3▸cj)⟩
           have hw:IntKind.i64.wrap ((i:Int)+1)=((i+1:Nat):Int):=wrap64 (by omega) (by unfold B at hx;omega)
           simp only[↓aX,mX,reduceCtorEq,Nat.reduceEqDiff,Nat.reduceLT,Nat.reduceLeDiff,Nat.reduceAdd,Nat.reduceMul,Int.reduceToNat,Int.reduceLE,Int.reduceLT,mY,ha,hb,mA,Attr.bL,Attr.cs,eqs,M_]
           refine⟨rfl,?_⟩
           by_cases OA:a=b
           · subst OA
             rw[show(a.name==a.name&&a.val==a.val)=true by simp]
             simp only[↓aX,mX,reduceCtorEq,Nat.reduceEqDiff,Nat.reduceLT,Nat.reduceLeDiff,Nat.reduceAdd,Nat.reduceMul,Int.reduceToNat,Int.reduceLE,Int.reduceLT,hw]
             exact⟨⟨i+1,cj,fun j hj=>by
               by_cases e:j=i
               · rw[e,ha,hb]
               · exact hs j (by omega)⟩,by simp only;omega,ma (by simp only[uM,ri]) (by repeat' constructor) (by repeat' constructor)⟩
           · have dm:x≠y:=fun e=>OA (by rw[e,hb] at ha;cases ha;rfl)
             have xY:(a.name==b.name&&a.val==b.val)=false:=by
               simp only[Bool.and_eq_false_iff,beq_eq_false_iff_ne]
               by_cases e1:a.name=b.name
               · exact .inr fun e2=>OA (Attr.ext e1 e2)
               · exact .inl e1
             rw[xY]
             simp only[↓aX,mX,reduceCtorEq,Nat.reduceEqDiff,Nat.reduceLT,Nat.reduceLeDiff,Nat.reduceAdd,Nat.reduceMul,Int.reduceToNat,Int.reduceLE,Int.reduceLT,iC dm]
         · rw[show decide ((i:Int)<(x.attrs.length:Int))=false by simpa using cj]
           have ha:x.attrs=y.attrs:=List.ext_getElem? fun j=>by
             by_cases hj:j<i
             · exact hs j hj
             · rw[List.getElem?_eq_none (by omega),List.getElem?_eq_none (by omega)]
           simp only[↓aX,mX,reduceCtorEq,Nat.reduceEqDiff,Nat.reduceLT,Nat.reduceLeDiff,Nat.reduceAdd,Nat.reduceMul,Int.reduceToNat,Int.reduceLE,Int.reduceLT]
           refine aO hS ?_
           by_cases h4:x.kids=y.kids
           · have:x=y:=Tree.ext h1 h2 ha h4
             subst this
             simp only[↓aX,mX,reduceCtorEq,Nat.reduceEqDiff,Nat.reduceLT,Nat.reduceLeDiff,Nat.reduceAdd,Nat.reduceMul,Int.reduceToNat,Int.reduceLE,Int.reduceLT,jq]
           · have:x≠y:=fun e=>h4 (by rw[e])
             simp only[↓aX,mX,reduceCtorEq,Nat.reduceEqDiff,Nat.reduceLT,Nat.reduceLeDiff,Nat.reduceAdd,Nat.reduceMul,Int.reduceToNat,Int.reduceLE,Int.reduceLT,iC h4,iC this]
     · rw[show((x.attrs.length:Int) !=(y.attrs.length:Int))=true by simp;omega]
       have:x≠y:=fun e=>h3 (by rw[e])
       simp only[↓aX,mX,reduceCtorEq,Nat.reduceEqDiff,Nat.reduceLT,Nat.reduceLeDiff,Nat.reduceAdd,Nat.reduceMul,Int.reduceToNat,Int.reduceLE,Int.reduceLT,iC this]
   · have e2:(x.s==y.s)=false:=by simpa using h2
     have:x≠y:=fun e=>h2 (by rw[e])
     simp only[e2,↓aX,mX,reduceCtorEq,Nat.reduceEqDiff,Nat.reduceLT,Nat.reduceLeDiff,Nat.reduceAdd,Nat.reduceMul,Int.reduceToNat,Int.reduceLE,Int.reduceLT,iC this]
 · have e1:(x.text==y.text)=false:=by simpa using h1
   have:x≠y:=fun e=>h1 (by rw[e])
   simp only[e1,↓aX,mX,reduceCtorEq,Nat.reduceEqDiff,Nat.reduceLT,Nat.reduceLeDiff,Nat.reduceAdd,Nat.reduceMul,Int.reduceToNat,Int.reduceLE,Int.reduceLT,iC this]
theorem xZ {P:Program} {G:Nat→Option (List IV)} {cy cH:Nat} (hF:aA P G cy=some (50,[(none,4)],(fB cH).bare)) (hS:aA P G cH=some (27,[(none,4)],(lK cy).bare)) (xs:List Tree) :
  ∀ys,di xs≤B→az P G cH [.list (dc xs),.list (dc ys)] (.bool (vp xs ys)):=
 AB (M:=fun xs=>∀ys,di xs≤B→az P G cH [.list (dc xs),.list (dc ys)] (.bool (vp xs ys))) (fun xs h ys hB=>xM hS xs ys (by have:=fu xs;omega) fun x hx y _=>
  have h1:=pq hx;have h2:=m7 x;have h3:=lr x;have h4:=jM x.attrs
  tp hF x y (by omega) (h x hx _ (by omega))) xs
end Go.Am
