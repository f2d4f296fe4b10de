import Derived.Test.YtfinkeaikbmpgaaGreatDoorKD2
import Derived.Test.YtfinkeaikbmpgaaGreatDoorKT26
import Derived.Test.YtfinkeaikbmpgaaGreatDoorT30
import Derived.Test.YtfinkeaikbmpgaaGreatDoorKAm25
set_option linter.unusedSimpArgs false
set_option linter.unusedVariables false
set_option linter.unnecessarySimpa false
set_option linter.defProp false
/- Documents: parents, step by step upward; ends, found one by one. -/
namespace Go.Am
open Go Go.RowKit
theorem oX {t:Tree} {n:Nat} {x:Node} (h:(aR t)[n]?=some x):(n=0∧x.parent= -1)∨(0<n∧0≤x.parent∧x.parent<n):=by
 have bz:=(List.getElem?_eq_some_iff.1 h).1;obtain⟨q,y,l,s⟩:=rY bz;have hn:=l.node;rw[h] at hn;have hp:x.parent=q:=by simp only[Option.some.injEq] at hn;rw[hn];rfl
 rcases s.parent with⟨e1,e2,_⟩|⟨m,z,r,e1,e2,e3,e4,_⟩
 ·left;exact⟨e1,by omega⟩
 ·right;omega
theorem oY {t:Tree}:1≤(aR t).length:=by rw[hZ];exact t.ew
end Go.Am

/- IsDoc; what is in what; the law DocTells. -/
namespace Go.Am
open Go Go.RowKit
theorem wK {t:Tree} (ht:t.fM=true):dy (aR t) 0=t:=by
 have:=yG ht (Sub.self 0 (-1) t);unfold yF at this;have hl:=oY (t:=t);rw[if_pos (oE ht),if_pos ⟨by simp,by omega⟩] at this;exact(Prod.mk.inj this).1
theorem oZ (d:Doc):cq d=((dy d 0).fM&&qC (aR (dy d 0)) d):=by
 rw[Bool.eq_iff_iff,Bool.and_eq_true,fE,qD];constructor
 ·rintro⟨t,ht,rfl⟩;rw[wK ht];exact⟨ht,rfl⟩
 ·rintro⟨h1,h2⟩;exact⟨_,h1,h2.symm⟩
theorem BV {P:Program} {G:Nat→Option (List IV)} {aV:Nat} (hF:aB P G aV=some (47,[((some (some 4)),4)],(dR aV).bare)) (d:Doc) (hd:gO d≤B):∀(k n:Nat),d.length - n≤k→n<d.length →
  ai P G aV [Doc.av d,.int .i64 (n:Int)] (dy d n).av:=by
 intro k
 induction k with
 |zero=>intro n h1 h2;omega
 |succ k ih=>exact fun n h1 h2=>BL hF d hd n h2 fun m hm H8=>ih m (by omega) H8
def fv (aV b_ bg:Nat):AC:=
(.seq (.au [⟨some 1,none,.box (.t 0)⟩,⟨some 2,none,.af (.c (.bool false))⟩]) (.seq (.seq (.au [⟨some 7,none,.bU (.t 1) 0⟩,⟨some 8,none,.load none (.t 7)⟩,⟨some 9,none,.len (.t 8)⟩,⟨some 10,none,.bin .eql (.t 9) (.c (.int .i64 0))⟩,⟨some 11,none,.af (.t 10)⟩,⟨some 12,(some (11,false)),(.bU (.t 1) 0)⟩,⟨some 13,(some (11,false)),(.load none (.t 12))⟩,⟨some 14,(some (11,false)),(.len (.t 13))⟩,⟨some 15,(some (11,false)),(.bin .gtr (.t 14) (.c (.int .i64 80)))⟩,⟨some 16,none,.pick (.t 11) (.c (.bool true)) (.t 15)⟩,⟨some 17,none,.af (.t 16)⟩,⟨some 18,(some (17,false)),(.bU (.t 1) 0)⟩,⟨some 19,(some (17,false)),(.load none (.t 18))⟩,⟨some 20,(some (17,false)),(.fH (.t 19) (.c (.int .i64 0)) 5)⟩,⟨some 21,(some (17,false)),(.bU (.t 20) 3)⟩,⟨some 22,(some (17,false)),(.load none (.t 21))⟩,⟨some 23,(some (17,false)),(.bin .neq (.t 22) (.c (.int .i64 (-1))))⟩,⟨some 24,none,.pick (.t 17) (.c (.bool true)) (.t 23)⟩]) (.cond (.t 24) (.seq (.au [⟨some 2,none,.af (.c (.bool false))⟩]) .ret) .skip)) (.seq (.seq (.au [⟨some 25,none,.bU (.t 1) 0⟩,⟨some 26,none,.load none (.t 25)⟩,⟨some 27,none,.len (.t 26)⟩,⟨some 28,none,.af (.c (.int .i64 0))⟩]) (.block 0 (.loop (.seq (.au [⟨some 29,none,.bin .lss (.t 28) (.t 27)⟩]) (.seq (.cond (.t 29) .skip (.exit 0)) (.seq (.block 1 (.seq (.au [⟨some 30,none,.af (.t 28)⟩,⟨some 31,none,.fH (.t 26) (.t 28) 5⟩,⟨some 32,none,.load (some 5) (.t 31)⟩,⟨some 4,none,.new [(.bool false),(.str []),.nil0,(.int .i64 0),.nil0]⟩,⟨some 3,none,.af (.t 30)⟩,⟨none,none,.store 5 (.t 4) (.t 32)⟩]) (.seq (.au [⟨some 33,none,.af (.t 3)⟩,⟨some 34,none,.bin .gtr (.t 33) (.c (.int .i64 0))⟩,⟨some 35,none,.af (.t 34)⟩,⟨some 36,(some (35,true)),(.bU (.t 4) 3)⟩,⟨some 37,(some (35,true)),(.load none (.t 36))⟩,⟨some 38,(some (35,true)),(.bin .lss (.t 37) (.c (.int .i64 0)))⟩,⟨some 39,(some (35,true)),(.af (.t 38))⟩,⟨some 40,(some (39,false)),(.bU (.t 4) 3)⟩,⟨some 41,(some (39,false)),(.load none (.t 40))⟩,⟨some 42,(some (39,false)),(.af (.t 3))⟩,⟨some 43,(some (39,false)),(.bin .geq (.t 41) (.t 42))⟩,⟨some 44,(some (35,true)),(.pick (.t 39) (.c (.bool true)) (.t 43))⟩,⟨some 45,none,.pick (.t 35) (.t 44) (.c (.bool false))⟩]) (.cond (.t 45) (.seq (.au [⟨some 2,none,.af (.c (.bool false))⟩]) .ret) .skip)))) (.au [⟨some 46,none,.bin .add (.t 28) (.c (.int .i64 1))⟩,⟨some 28,none,.af (.t 46)⟩]))))))) (.seq (.au [⟨some 48,none,.load (some 1) (.t 1)⟩,⟨some 49,none,.call aV [(.t 48),(.c (.int .i64 0))]⟩,⟨some 50,none,.call b_ [(.t 49)]⟩,⟨some 47,none,.af (.t 50)⟩,⟨some 51,none,.ext (.t 47) 0⟩,⟨some 52,none,.ext (.t 47) 1⟩,⟨some 5,none,.new [.nil0]⟩,⟨none,none,.store 1 (.t 5) (.t 51)⟩,⟨some 6,none,.af (.t 52)⟩]) (.seq (.au [⟨some 53,none,.af (.t 6)⟩,⟨some 54,none,.bin .eql (.t 53) (.c (.int .i64 0))⟩,⟨some 55,none,.af (.t 54)⟩,⟨some 56,(some (55,true)),(.load (some 1) (.t 5))⟩,⟨some 57,(some (55,true)),(.load (some 1) (.t 1))⟩,⟨some 58,(some (55,true)),(.call bg [(.t 56),(.t 57)])⟩,⟨some 59,none,.pick (.t 55) (.t 58) (.c (.bool false))⟩,⟨some 2,none,.af (.t 59)⟩]) .ret)))))
theorem Ex {P:Program} {G:Nat→Option (List IV)} {ct aV b_ bg:Nat} (hF:aB P G ct=some (60,[(none,2)],(fv aV b_ bg).bare)) (d:Doc) (hd:2*gO d≤B)
   (hT:0<d.length→ai P G aV [Doc.av d,.int .i64 (0:Int)] (dy d 0).av)
   (hM:∀x:Tree,x.wt≤B→ai P G b_ [x.av] (.ei [Doc.av (kk x).1,.int .i64 (kk x).2]))
   (hS:∀e:Doc,gO e≤B→ai P G bg [Doc.av e,Doc.av d] (.bool (qC e d))) :
   ai P G ct [Doc.av d] (.bool (cq d)):=by
 refine aC hF (by simp) (by simp[ah,AV.ar,Doc.av]) (by simp[AV.ar]) ?_
 have vo:=fk d
 have key:cq d=true→1≤d.length∧d.length≤80∧∀(i:Nat) (x:Node),d[i]?=some x→(i=0∧x.parent= -1)∨(0<i∧0≤x.parent∧x.parent<(i:Int)):=fun h=>by
   obtain⟨t,ht,rfl⟩:=fE.1 h
   have:=(gK t).1 ht
   exact⟨oY,by rw[hZ];omega,fun i x hx=>oX hx⟩
 have no:(cq d=true→False)→cq d=false:=fun h=>by
   cases e:cq d with
   |false=>rfl
   |true=>exact(h e).elim
 unfold fv
 simp only[↓aX,mX,reduceCtorEq,Nat.reduceEqDiff,Nat.reduceLT,Nat.reduceLeDiff,Nat.reduceAdd,Nat.reduceMul,Int.reduceToNat,Int.reduceLE,Int.reduceLT,Doc.av,List.length_map]
 by_cases h0:d.length=0
 · rw[show(((d.length:Nat):Int)==0)=true by simp[h0]]
   have pa:cq d=false:=no fun h=>by have:=key h;omega
   simp only[↓aX,mX,reduceCtorEq,Nat.reduceEqDiff,Nat.reduceLT,Nat.reduceLeDiff,Nat.reduceAdd,Nat.reduceMul,Int.reduceToNat,Int.reduceLE,Int.reduceLT,pa]
 rw[show(((d.length:Nat):Int)==0)=false by simp;exact fun e=>h0 (by rw[e];rfl)]
 simp only[↓aX,mX,reduceCtorEq,Nat.reduceEqDiff,Nat.reduceLT,Nat.reduceLeDiff,Nat.reduceAdd,Nat.reduceMul,Int.reduceToNat,Int.reduceLE,Int.reduceLT,List.length_map]
 by_cases Ma:80<d.length
 · rw[show decide (((d.length:Nat):Int)>80)=true by simp;omega]
   have pa:cq d=false:=no fun h=>by have:=key h;omega
   simp only[↓aX,mX,reduceCtorEq,Nat.reduceEqDiff,Nat.reduceLT,Nat.reduceLeDiff,Nat.reduceAdd,Nat.reduceMul,Int.reduceToNat,Int.reduceLE,Int.reduceLT,pa]
 rw[show decide (((d.length:Nat):Int)>80)=false by simp;omega]
 obtain⟨x0,zV⟩:∃x,d[0]?=some x:=⟨_,List.getElem?_eq_getElem (by omega)⟩
 simp only[↓aX,mX,reduceCtorEq,Nat.reduceEqDiff,Nat.reduceLT,Nat.reduceLeDiff,Nat.reduceAdd,Nat.reduceMul,Int.reduceToNat,Int.reduceLE,Int.reduceLT,Doc.er zV,List.length_map,gJ,Node.aU,Node.cs]
 cases hp:(x0.parent != -1) with
 |true=>
   have xr:x0.parent≠ -1:=by simpa using hp
   have pa:cq d=false:=no fun h=>by have:=(key h).2.2 0 x0 zV;omega
   simp only[↓aX,mX,reduceCtorEq,Nat.reduceEqDiff,Nat.reduceLT,Nat.reduceLeDiff,Nat.reduceAdd,Nat.reduceMul,Int.reduceToNat,Int.reduceLE,Int.reduceLT,pa]
 |false=>
 have xr:x0.parent= -1:=by simpa using hp
 simp only[↓aX,mX,reduceCtorEq,Nat.reduceEqDiff,Nat.reduceLT,Nat.reduceLeDiff,Nat.reduceAdd,Nat.reduceMul,Int.reduceToNat,Int.reduceLE,Int.reduceLT,List.length_map]
 refine eo (σ:={i:Nat // i≤d.length∧∀j x,j<i→d[j]?=some x→x.parent<(j:Int)}) [.loc 1] (fun q=>[(1,.ptr (.loc 1) 1 0 0),(26,.list (d.map Node.iv)),(27,.int .i64 d.length),(28,.int .i64 q.1)])
   (fun _=>[(.loc 1,⟨1,[[.list (d.map Node.iv)]]⟩)]) (fun q=>d.length - q.1) ⟨0,by simp⟩ (fun _=>rfl) (by decide) (by simp[ah,AV.ar]) (by simp[ah,AV.ar]) ?_ ?_
 · exact dT (by simp only[kz,ji]) (by repeat' constructor) (by repeat' constructor)
 · rintro ⟨i,hi,hs⟩
   simp only[↓aX,mX,reduceCtorEq,Nat.reduceEqDiff,Nat.reduceLT,Nat.reduceLeDiff,Nat.reduceAdd,Nat.reduceMul,Int.reduceToNat,Int.reduceLE,Int.reduceLT,cb,bO,List.length_map]
   by_cases bz:i<d.length
   · rw[show decide ((i:Int)<(d.length:Int))=true by simpa using bz]
     obtain⟨x,hx⟩:∃x,d[i]?=some x:=⟨_,List.getElem?_eq_getElem bz⟩
     have hw:IntKind.i64.wrap ((i:Int)+1)=((i+1:Nat):Int):=wrap64 (by omega) (by unfold B at hd;omega)
     simp only[↓aX,mX,reduceCtorEq,Nat.reduceEqDiff,Nat.reduceLT,Nat.reduceLeDiff,Nat.reduceAdd,Nat.reduceMul,Int.reduceToNat,Int.reduceLE,Int.reduceLT,Doc.er hx,gJ,Node.aU,Node.cs]
     have step:x.parent<(i:Int)→∀j y,j<i+1→d[j]?=some y→y.parent<(j:Int):=fun h j y hj hy=>by
       by_cases e:j=i
       · subst e;rw[hx] at hy;cases hy;exact h
       · exact hs j y (by omega) hy
     have fin:∀l:Lb,l≠ .loc 1→True:=fun _ _=>trivial
     by_cases IQ:i=0
     · subst IQ
       rw[zV] at hx;cases hx
       rw[show decide (((0:Nat):Int)>0)=false from rfl]
       simp only[↓aX,mX,reduceCtorEq,Nat.reduceEqDiff,Nat.reduceLT,Nat.reduceLeDiff,Nat.reduceAdd,Nat.reduceMul,Int.reduceToNat,Int.reduceLE,Int.reduceLT,hw]
       refine⟨⟨1,by omega,step (by rw[xr];decide)⟩,by simp only;omega,dT ?_ ⟨rfl,rfl,rfl,rfl,trivial⟩ ⟨rfl,trivial⟩⟩
       intro l qx hu
       by_cases e0:l= .loc 1
       · subst e0;simp
       · exfalso;apply hu;cases l<;>simp_all[Lb.fresh,ae,Hp.none]
     · rw[show decide ((i:Int)>0)=true by simp;omega]
       simp only[↓aX,mX,reduceCtorEq,Nat.reduceEqDiff,Nat.reduceLT,Nat.reduceLeDiff,Nat.reduceAdd,Nat.reduceMul,Int.reduceToNat,Int.reduceLE,Int.reduceLT]
       by_cases At:x.parent<0
       · rw[show decide (x.parent<0)=true by simpa using At]
         have pa:cq d=false:=no fun h=>by have:=(key h).2.2 i x hx;omega
         simp only[↓aX,mX,reduceCtorEq,Nat.reduceEqDiff,Nat.reduceLT,Nat.reduceLeDiff,Nat.reduceAdd,Nat.reduceMul,Int.reduceToNat,Int.reduceLE,Int.reduceLT,pa]
       · rw[show decide (x.parent<0)=false by simpa using At]
         simp only[↓aX,mX,reduceCtorEq,Nat.reduceEqDiff,Nat.reduceLT,Nat.reduceLeDiff,Nat.reduceAdd,Nat.reduceMul,Int.reduceToNat,Int.reduceLE,Int.reduceLT]
         by_cases mn:(i:Int)≤x.parent
         · rw[show decide (x.parent≥(i:Int))=true by simpa using mn]
           have pa:cq d=false:=no fun h=>by have:=(key h).2.2 i x hx;omega
           simp only[↓aX,mX,reduceCtorEq,Nat.reduceEqDiff,Nat.reduceLT,Nat.reduceLeDiff,Nat.reduceAdd,Nat.reduceMul,Int.reduceToNat,Int.reduceLE,Int.reduceLT,pa]
         · rw[show decide (x.parent≥(i:Int))=false by simpa using mn]
           simp only[↓aX,mX,reduceCtorEq,Nat.reduceEqDiff,Nat.reduceLT,Nat.reduceLeDiff,Nat.reduceAdd,Nat.reduceMul,Int.reduceToNat,Int.reduceLE,Int.reduceLT,hw]
           refine⟨⟨i+1,by omega,step (by omega)⟩,by simp only;omega,dT ?_ ⟨rfl,rfl,rfl,rfl,trivial⟩ ⟨rfl,trivial⟩⟩
           intro l qx hu
           by_cases e0:l= .loc 1
           · subst e0;simp
           · exfalso;apply hu;cases l<;>simp_all[Lb.fresh,ae,Hp.none]
   · have lC:i=d.length:=by omega
     subst lC
     rw[show decide ((d.length:Int)<(d.length:Int))=false by simp]
     have dN:∀(k:Nat) (x:Node),d[k]?=some x→x.parent<(k:Int):=fun k x hk=>hs k x (List.getElem?_eq_some_iff.1 hk).1 hk
     have Mb:=y_ dN (by omega)
     have JU:=hT (by omega)
     simp only[Doc.av] at JU
     have GP:=hM (dy d 0) (by omega)
     simp only[Doc.av] at GP hS
     simp only[↓aX,mX,reduceCtorEq,Nat.reduceEqDiff,Nat.reduceLT,Nat.reduceLeDiff,Nat.reduceAdd,Nat.reduceMul,Int.reduceToNat,Int.reduceLE,Int.reduceLT]
     refine aj JU ?_
     simp only[↓aX,mX,reduceCtorEq,Nat.reduceEqDiff,Nat.reduceLT,Nat.reduceLeDiff,Nat.reduceAdd,Nat.reduceMul,Int.reduceToNat,Int.reduceLE,Int.reduceLT]
     refine aj GP ?_
     simp only[↓aX,mX,reduceCtorEq,Nat.reduceEqDiff,Nat.reduceLT,Nat.reduceLeDiff,Nat.reduceAdd,Nat.reduceMul,Int.reduceToNat,Int.reduceLE,Int.reduceLT]
     cases hg:(dy d 0).fM with
     |false=>
       have hi:cq d=false:=by rw[oZ,hg];rfl
       simp only[kk,hg,↓aX,mX,reduceCtorEq,Nat.reduceEqDiff,Nat.reduceLT,Nat.reduceLeDiff,Nat.reduceAdd,Nat.reduceMul,Int.reduceToNat,Int.reduceLE,Int.reduceLT,show((1:Int)==0)=false from rfl,hi]
     |true=>
       have hi:cq d=qC (aR (dy d 0)) d:=by rw[oZ,hg];rfl
       have zu:kk (dy d 0)=(aR (dy d 0),0):=by unfold kk;rw[if_pos hg]
       simp only[zu,↓aX,mX,reduceCtorEq,Nat.reduceEqDiff,Nat.reduceLT,Nat.reduceLeDiff,Nat.reduceAdd,Nat.reduceMul,Int.reduceToNat,Int.reduceLE,Int.reduceLT]
       refine aj (hS _ (by have:=yK (dy d 0);omega)) ?_
       simp only[↓aX,mX,reduceCtorEq,Nat.reduceEqDiff,Nat.reduceLT,Nat.reduceLeDiff,Nat.reduceAdd,Nat.reduceMul,Int.reduceToNat,Int.reduceLE,Int.reduceLT,hi,zu]
end Go.Am
