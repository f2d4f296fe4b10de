import Derived.Test.YtfinkeaikbmpgaaGreatDoorKT21
import Derived.Test.YtfinkeaikbmpgaaGreatDoorKD2
import Derived.Test.YtfinkeaikbmpgaaGreatDoorKAm25
import Derived.Test.YtfinkeaikbmpgaaGreatDoorKT3
set_option linter.unusedSimpArgs false
set_option linter.unusedVariables false
set_option linter.unnecessarySimpa false
set_option linter.defProp false
/- The size of a tree, level by level; what is a tree, what is content. -/
namespace Go.Am
open Go Go.RowKit
theorem si (sz b d k:Nat) (xs ys:List IV) {n:Nat} {H:Hp} (hl:H (.loc k)= .live ⟨sz,aG xs⟩) (hn:xs.length=n) (he:ia sz ys) (hf:Flat ys) (hb:(n+ys.length)*b≤140737488355328) (h0:0<b)
  (eg:k≠d) (hu:H (.loc d)= .unused) :
  jA sz b d (.sl (.loc k) sz 0 n) (.list ys) H=some (.sl (.loc d) sz 0 (n+ys.length),bL (bL H (.loc k) .dead) (.loc d) (.live ⟨sz,aG (xs++ys)⟩)):=by
 have h1:(aG xs).length=n:=by rw[oh,hn]
 rw[yh (l:= .loc k) (els:=aG xs) hl (by omega) he hf hb h0 (by simpa[Lb.app,Lb.fresh] using eg) (by simpa[Lb.app,Lb.fresh] using hu)];simp only[Lb.app,Lb.fresh,if_true];rw[List.take_of_length_le (by omega),kf]
def e_:AC:=
(.seq (.au [⟨some 1,none,.box (.t 0)⟩,⟨some 2,none,.af (.c (.int .i64 0))⟩,⟨some 3,none,.af (.c (.int .i64 0))⟩]) (.seq (.au [⟨some 4,none,.af (.c (.int .i64 0))⟩,⟨some 5,none,.af (.c (.int .i64 0))⟩]) (.seq (.seq (.au [⟨some 10,none,.load (some 4) (.t 1)⟩,⟨some 11,none,.lits 1 4 [(.bool false),(.str []),.nil0,.nil0] [(0,(.t 10))]⟩,⟨some 6,none,.af (.t 11)⟩]) (.block 0 (.loop (.seq (.seq (.au [⟨some 12,none,.af (.t 6)⟩,⟨some 13,none,.len (.t 12)⟩,⟨some 14,none,.bin .gtr (.t 13) (.c (.int .i64 0))⟩]) (.cond (.t 14) .skip (.exit 0))) (.block 1 (.seq (.au [⟨some 15,none,.af (.t 4)⟩,⟨some 16,none,.bin .add (.t 15) (.c (.int .i64 1))⟩,⟨some 4,none,.af (.t 16)⟩]) (.seq (.au [⟨some 17,none,.af (.t 5)⟩,⟨some 18,none,.af (.t 6)⟩,⟨some 19,none,.len (.t 18)⟩,⟨some 20,none,.bin .add (.t 17) (.t 19)⟩,⟨some 5,none,.af (.t 20)⟩]) (.seq (.au [⟨some 7,none,.af (.c .nil0)⟩]) (.gh (.own 7 4) (.seq (.seq (.au [⟨some 21,none,.af (.t 6)⟩,⟨some 22,none,.len (.t 21)⟩,⟨some 23,none,.af (.c (.int .i64 0))⟩]) (.block 2 (.loop (.seq (.au [⟨some 24,none,.bin .lss (.t 23) (.t 22)⟩]) (.seq (.cond (.t 24) .skip (.exit 2)) (.seq (.block 3 (.seq (.au [⟨some 25,none,.fH (.t 21) (.t 23) 4⟩,⟨some 26,none,.load (some 4) (.t 25)⟩,⟨some 9,none,.new [(.bool false),(.str []),.nil0,.nil0]⟩,⟨none,none,.store 4 (.t 9) (.t 26)⟩]) (.au [⟨some 27,none,.af (.t 7)⟩,⟨some 28,none,.bU (.t 9) 3⟩,⟨some 29,none,.load none (.t 28)⟩,⟨some 30,none,.app (.t 27) (.t 29) 4 72⟩,⟨some 7,none,.af (.t 30)⟩]))) (.au [⟨some 31,none,.bin .add (.t 23) (.c (.int .i64 1))⟩,⟨some 23,none,.af (.t 31)⟩]))))))) (.gh (.xQ (.loc 7) 7) (.au [⟨some 32,none,.af (.t 7)⟩,⟨some 6,none,.af (.t 32)⟩])))))))))))) (.seq (.au [⟨some 33,none,.af (.t 4)⟩,⟨some 34,none,.af (.t 5)⟩,⟨some 2,none,.af (.t 33)⟩,⟨some 3,none,.af (.t 34)⟩]) .ret))))
theorem BJ {P:Program} {G:Nat→Option (List IV)} {cj:Nat} (hF:aB P G cj=some (35,[(none,2),(none,3)],e_.bare)) (x:Tree) (hx:x.wt≤B) :
  ai P G cj [x.av] (.ei [.int .i64 x.dep,.int .i64 x.dP]):=by
 refine aC hF (by simp) (by simp[ah,AV.ar,Tree.av]) (by simp[AV.ar,ah]) ?_;unfold e_;have rl:[x.iv]=eY [x]:=by simp[eY]
 have xE:[IV.agg [.bool x.text,.str x.s,.list (eh x.attrs),.list (eY x.kids)]]=eY [x]:=by rw[←rl,x.rT];rfl
 simp only[↓aX,mX,reduceCtorEq,Nat.reduceEqDiff,Nat.reduceLT,Nat.reduceLeDiff,Nat.reduceAdd,Nat.reduceMul,Int.reduceToNat,Int.reduceLE,Int.reduceLT,Tree.av,xE];have rn:B=1073741824:=rfl;have hd:=x.qG;have L5:=x.yy
 refine gm (σ:={q:Nat×Nat×List Tree // q.1+eI q.2.2=x.dep∧q.2.1+aY q.2.2=x.dP∧fL q.2.2≤B}) (fun q=>[(4,.int .i64 q.1.1),(5,.int .i64 q.1.2.1),(6,.list (eY q.1.2.2))]) (fun q=>aY q.1.2.2) ⟨(0,0,[x]),by simp[eI,aY,fL,hx]⟩ (fun _=>rfl) ?_ ?_
 ·exact⟨by simp only[↓aX,mX,reduceCtorEq,Nat.reduceEqDiff,Nat.reduceLT,Nat.reduceLeDiff,Nat.reduceAdd,Nat.reduceMul,Int.reduceToNat,Int.reduceLE,Int.reduceLT],by repeat' constructor⟩
 ·rintro⟨⟨d,c,xs⟩,h1,h2,h3⟩;simp only at h1 h2 h3;simp only[↓aX,mX,reduceCtorEq,Nat.reduceEqDiff,Nat.reduceLT,Nat.reduceLeDiff,Nat.reduceAdd,Nat.reduceMul,Int.reduceToNat,Int.reduceLE,Int.reduceLT,bG];by_cases hn:xs=[]
  ·subst hn;simp only[eI,aY,Nat.add_zero] at h1 h2;simp only[List.length_nil,show decide (((0:Nat):Int)>0)=false from rfl,↓aX,mX,reduceCtorEq,Nat.reduceEqDiff,Nat.reduceLT,Nat.reduceLeDiff,Nat.reduceAdd,Nat.reduceMul,Int.reduceToNat,Int.reduceLE,Int.reduceLT,h1,h2,↓df]
  ·have xS:0<xs.length:=List.length_pos_iff.2 hn;have xq:=gy xs;have ku:IntKind.i64.wrap ((d:Int)+1)=((d+1:Nat):Int):=wrap64 (by omega) (by omega)
   have yX:IntKind.i64.wrap ((c:Int)+(xs.length:Int))=((c+xs.length:Nat):Int):=by
    have:=kF xs;exact wrap64 (by omega) (by omega)
   simp only[show decide ((xs.length:Int)>0)=true by simpa using xS,↓aX,mX,reduceCtorEq,Nat.reduceEqDiff,Nat.reduceLT,Nat.reduceLeDiff,Nat.reduceAdd,Nat.reduceMul,Int.reduceToNat,Int.reduceLE,Int.reduceLT,bG,ku,yX]
   refine yn (σ:={i:Nat // i≤xs.length}) 7 4 (fun q=>[(4,.int .i64 ((d+1:Nat):Int)),(5,.int .i64 ((c+xs.length:Nat):Int)),(21,.list (eY xs)),(22,.int .i64 xs.length),(23,.int .i64 q.1)]) (fun q=>eY (fG (xs.take q.1))) (fun q=>xs.length - q.1) ⟨0,by simp⟩ (fun _=>rfl) ?_ ?_
   ·simp only[Gj,↓aX,mX,reduceCtorEq,Nat.reduceEqDiff,Nat.reduceLT,Nat.reduceLeDiff,Nat.reduceAdd,Nat.reduceMul,Int.reduceToNat,Int.reduceLE,Int.reduceLT];exact⟨rfl,7,[],rfl,rfl,rfl⟩
   ·rintro⟨i,hi⟩;have L6:=l5 xs;have L7:fL (fG (xs.take i))≤fL xs:=Nat.le_trans (by have:=l5 (xs.take i);omega) (ov xs i);have tq:=gy (fG (xs.take i));simp only[↓aX,mX,reduceCtorEq,Nat.reduceEqDiff,Nat.reduceLT,Nat.reduceLeDiff,Nat.reduceAdd,Nat.reduceMul,Int.reduceToNat,Int.reduceLE,Int.reduceLT,bG];by_cases bz:i<xs.length
    ·obtain⟨y,hy⟩:∃y,xs[i]?=some y:=⟨_,List.getElem?_eq_getElem bz⟩;have hw:IntKind.i64.wrap ((i:Int)+1)=((i+1:Nat):Int):=wrap64 (by omega) (by omega);have jf:fG (xs.take (i+1))=fG (xs.take i)++y.kids:=by rw[List.take_add_one,hy];simp[fG]
     have IU:fL (fG (xs.take (i+1)))≤fL xs:=Nat.le_trans (by have:=l5 (xs.take (i+1));omega) (ov xs (i+1));rw[jf,kC] at IU;have FN:=gy y.kids;simp only[show decide ((i:Int)<(xs.length:Int))=true by simpa using bz,↓aX,mX,reduceCtorEq,Nat.reduceEqDiff,Nat.reduceLT,Nat.reduceLeDiff,Nat.reduceAdd,Nat.reduceMul,Int.reduceToNat,Int.reduceLE,Int.reduceLT,iI,hy,lW,Tree.aU,Tree.cs]
     rw[si 4 72 30 7 (eY (fG (xs.take i))) (eY y.kids) (by simp[ae]) (by rw[bG]) (lW _) (vk _) (by have:=bG y.kids;have:=bG (fG (xs.take i));omega) (by decide) (by decide) (by simp[ae,Hp.none])];simp only[↓aX,mX,reduceCtorEq,Nat.reduceEqDiff,Nat.reduceLT,Nat.reduceLeDiff,Nat.reduceAdd,Nat.reduceMul,Int.reduceToNat,Int.reduceLE,Int.reduceLT,hw];refine⟨⟨i+1,bz⟩,by simp only;omega,?_⟩
     refine Gk 30 (by simp only[↓aX,mX,reduceCtorEq,Nat.reduceEqDiff,Nat.reduceLT,Nat.reduceLeDiff,Nat.reduceAdd,Nat.reduceMul,Int.reduceToNat,Int.reduceLE,Int.reduceLT]) ⟨rfl,rfl,rfl,rfl,rfl,trivial⟩ ?_ ?_
     ·simp only[↓aX,mX,reduceCtorEq,Nat.reduceEqDiff,Nat.reduceLT,Nat.reduceLeDiff,Nat.reduceAdd,Nat.reduceMul,Int.reduceToNat,Int.reduceLE,Int.reduceLT,jf,nO,List.length_append,bG]
     ·simp only[↓aX,mX,reduceCtorEq,Nat.reduceEqDiff,Nat.reduceLT,Nat.reduceLeDiff,Nat.reduceAdd,Nat.reduceMul,Int.reduceToNat,Int.reduceLE,Int.reduceLT,jf,nO]
    ·have lC:i=xs.length:=by omega
     subst lC;simp only[show decide ((xs.length:Int)<(xs.length:Int))=false by simp,↓aX,mX,reduceCtorEq,Nat.reduceEqDiff,Nat.reduceLT,Nat.reduceLeDiff,Nat.reduceAdd,Nat.reduceMul,Int.reduceToNat,Int.reduceLE,Int.reduceLT];refine⟨4,eY (fG (xs.take xs.length)),0,_,rfl,rfl,by simp,vk _,?_⟩
     simp only[↓aX,mX,reduceCtorEq,Nat.reduceEqDiff,Nat.reduceLT,Nat.reduceLeDiff,Nat.reduceAdd,Nat.reduceMul,Int.reduceToNat,Int.reduceLE,Int.reduceLT,List.take_length,List.drop_zero];refine⟨⟨(d+1,c+xs.length,fG xs),?_,?_,?_⟩,?_,?_⟩
     ·have:=pN xs hn;simp only;omega
     ·have:=kF xs;simp only;omega
     ·simp only;omega
     ·have:=kF xs;simp only;omega
     ·exact⟨by simp only[↓aX,mX,reduceCtorEq,Nat.reduceEqDiff,Nat.reduceLT,Nat.reduceLeDiff,Nat.reduceAdd,Nat.reduceMul,Int.reduceToNat,Int.reduceLE,Int.reduceLT],by repeat' constructor⟩
def fa (cj bC:Nat):AC:=
(.seq (.au [⟨some 1,none,.box (.t 0)⟩,⟨some 2,none,.af (.c (.bool false))⟩]) (.seq (.au [⟨some 6,none,.load (some 4) (.t 1)⟩,⟨some 7,none,.call cj [(.t 6)]⟩,⟨some 5,none,.af (.t 7)⟩,⟨some 8,none,.ext (.t 5) 0⟩,⟨some 9,none,.ext (.t 5) 1⟩,⟨some 3,none,.af (.t 8)⟩,⟨some 4,none,.af (.t 9)⟩]) (.seq (.au [⟨some 10,none,.bU (.t 1) 0⟩,⟨some 11,none,.load none (.t 10)⟩,⟨some 12,none,.not (.t 11)⟩,⟨some 13,none,.af (.t 12)⟩,⟨some 14,(some (13,true)),(.af (.t 3))⟩,⟨some 15,(some (13,true)),(.bin .lss (.t 14) (.c (.int .i64 9)))⟩,⟨some 16,none,.pick (.t 13) (.t 15) (.c (.bool false))⟩,⟨some 17,none,.af (.t 16)⟩,⟨some 18,(some (17,true)),(.af (.t 4))⟩,⟨some 19,(some (17,true)),(.bin .lss (.t 18) (.c (.int .i64 81)))⟩,⟨some 20,none,.pick (.t 17) (.t 19) (.c (.bool false))⟩,⟨some 21,none,.af (.t 20)⟩,⟨some 22,(some (21,true)),(.load (some 4) (.t 1))⟩,⟨some 23,(some (21,true)),(.lits 1 4 [(.bool false),(.str []),.nil0,.nil0] [(0,(.t 22))])⟩,⟨some 24,(some (21,true)),(.call bC [(.t 23)])⟩,⟨some 25,none,.pick (.t 21) (.t 24) (.c (.bool false))⟩,⟨some 2,none,.af (.t 25)⟩]) .ret)))
theorem BK {P:Program} {G:Nat→Option (List IV)} {cm cj bC:Nat} (hF:aB P G cm=some (26,[(none,2)],(fa cj bC).bare)) (x:Tree)
  (hS:ai P G cj [x.av] (.ei [.int .i64 x.dep,.int .i64 x.dP])) (hR:ai P G bC [.list (eY [x])] (.bool (cM none [x]))) :
  ai P G cm [x.av] (.bool x.fM):=by
 refine aC hF (by simp) (by simp[ah,AV.ar,Tree.av]) (by simp[AV.ar]) ?_;unfold fa;have xE:[IV.agg [.bool x.text,.str x.s,.list (eh x.attrs),.list (eY x.kids)]]=eY [x]:=by simp only[eY,x.rT];rfl
 have hf:cM none [x]=x.gM:=by simp[cM]
 simp only[↓aX,mX,reduceCtorEq,Nat.reduceEqDiff,Nat.reduceLT,Nat.reduceLeDiff,Nat.reduceAdd,Nat.reduceMul,Int.reduceToNat,Int.reduceLE,Int.reduceLT,Tree.av];refine aj hS ?_;simp only[↓aX,mX,reduceCtorEq,Nat.reduceEqDiff,Nat.reduceLT,Nat.reduceLeDiff,Nat.reduceAdd,Nat.reduceMul,Int.reduceToNat,Int.reduceLE,Int.reduceLT];cases ht:x.text with
 |true=>
  have:x.fM=false:=by
   cases hg:x.fM with
   |false=>rfl
   |true=>have:=(gK x).1 hg;rw[ht] at this;simp at this
  simp only[↓aX,mX,reduceCtorEq,Nat.reduceEqDiff,Nat.reduceLT,Nat.reduceLeDiff,Nat.reduceAdd,Nat.reduceMul,Int.reduceToNat,Int.reduceLE,Int.reduceLT,Bool.not_true,this]
 |false=>
  simp only[↓aX,mX,reduceCtorEq,Nat.reduceEqDiff,Nat.reduceLT,Nat.reduceLeDiff,Nat.reduceAdd,Nat.reduceMul,Int.reduceToNat,Int.reduceLE,Int.reduceLT,Bool.not_false];cases h1:decide ((x.dep:Int)<9) with
  |false=>
   have:x.fM=false:=by
    cases hg:x.fM with
    |false=>rfl
    |true=>have:=(gK x).1 hg;have:=of_decide_eq_false h1;omega
   simp only[↓aX,mX,reduceCtorEq,Nat.reduceEqDiff,Nat.reduceLT,Nat.reduceLeDiff,Nat.reduceAdd,Nat.reduceMul,Int.reduceToNat,Int.reduceLE,Int.reduceLT,this]
  |true=>
   simp only[↓aX,mX,reduceCtorEq,Nat.reduceEqDiff,Nat.reduceLT,Nat.reduceLeDiff,Nat.reduceAdd,Nat.reduceMul,Int.reduceToNat,Int.reduceLE,Int.reduceLT];cases h2:decide ((x.dP:Int)<81) with
   |false=>
    have:x.fM=false:=by
     cases hg:x.fM with
     |false=>rfl
     |true=>have:=(gK x).1 hg;have:=of_decide_eq_false h2;omega
    simp only[↓aX,mX,reduceCtorEq,Nat.reduceEqDiff,Nat.reduceLT,Nat.reduceLeDiff,Nat.reduceAdd,Nat.reduceMul,Int.reduceToNat,Int.reduceLE,Int.reduceLT,this]
   |true=>
    simp only[↓aX,mX,reduceCtorEq,Nat.reduceEqDiff,Nat.reduceLT,Nat.reduceLeDiff,Nat.reduceAdd,Nat.reduceMul,Int.reduceToNat,Int.reduceLE,Int.reduceLT];rw[←ht,xE];refine aj hR ?_;have K4:=of_decide_eq_true h1;have El:=of_decide_eq_true h2
    have:x.fM=x.gM:=by
     rw[Bool.eq_iff_iff,gK];constructor
     ·exact fun h=>h.2.2.2
     ·exact fun h=>⟨ht,by omega,by omega,h⟩
    simp only[↓aX,mX,reduceCtorEq,Nat.reduceEqDiff,Nat.reduceLT,Nat.reduceLeDiff,Nat.reduceAdd,Nat.reduceMul,Int.reduceToNat,Int.reduceLE,Int.reduceLT,hf,this]
end Go.Am

/- THE ABSTRACT MACHINE, part 37: many rows become data at once. -/
namespace Go.Am
open Go Go.RowKit
mutual
def mo (X:Lb→Option (Nat×List IV)):AV→AV
 | .sl l sz i n=>match X l with
  |some (s,xs)=>if s=sz∧i+n≤xs.length then .list ((xs.drop i).take n) else .sl l sz i n
  |none=> .sl l sz i n
 | .agg cs=> .agg (gP X cs)
 | .ei cs=> .ei (gP X cs)
 |x=>x
def gP (X:Lb→Option (Nat×List IV)):List AV→List AV
 |[]=>[]
 |x::r=>mo X x::gP X r
end
def pb (X:Lb→Option (Nat×List IV)) (H:Hp):Hp:=fun l=>match X l with
 |some _=> .dead
 |none=>match H l with
  | .live r=> .live ⟨r.sz,r.els.map (gP X)⟩
  |s=>s
theorem sj (X:Lb→Option (Nat×List IV)):∀xs,(gP X xs).length=xs.length
 |[]=>rfl
 |x::r=>by simp[gP,sj X r]
theorem sk (X:Lb→Option (Nat×List IV)):∀(xs:List AV) (i:Nat),(gP X xs)[i]?=xs[i]?.map (mo X)
 |[],i=>by simp[gP]
 |x::r,0=>by simp[gP]
 |x::r,i+1=>by simp[gP,sk X r]
mutual
theorem vw (X:Lb→Option (Nat×List IV)):∀(x:AV) (l:Lb),l∈(mo X x).ar→l∈x.ar
 | .sl q sz i n,l,h=>by
  simp only[mo] at h;split at h
  ·split at h
   ·simp[AV.ar] at h
   ·exact h
  ·exact h
 | .agg cs,l,h=>by simp only[mo,AV.ar] at h ⊢;exact mc X cs l h
 | .ei cs,l,h=>by simp only[mo,AV.ar] at h ⊢;exact mc X cs l h
 | .slk ..,l,h| .ptr ..,l,h| .any,l,h| .un,l,h| .bool _,l,h| .int ..,l,h| .str _,l,h| .list _,l,h| .iN,l,h| .nil0,l,h| .fy,l,h| .lptr _,l,h| .fn ..,l,h| .ifc ..,l,h=>h
theorem mc (X:Lb→Option (Nat×List IV)):∀(xs:List AV) (l:Lb),l∈ah (gP X xs)→l∈ah xs
 |[],l,h=>h
 |x::r,l,h=>by
  simp only[gP,ah,List.mem_append] at h ⊢;exact h.imp (vw X x l) (mc X r l)
end
theorem me {X:Lb→Option (Nat×List IV)} {H:Hp} {l:Lb} {r:Row} (h:pb X H l= .live r):X l=none∧∃r0,H l= .live r0∧r=⟨r0.sz,r0.els.map (gP X)⟩:=by
 unfold pb at h;split at h
 ·cases h
 ·rename_i e;split at h
  ·rename_i r0 h0;simp only[Slot.live.injEq] at h;exact⟨e,r0,h0,h.symm⟩
  ·rename_i hn;exact absurd h (hn r)
theorem oQ {X:Lb→Option (Nat×List IV)} {H:Hp} {l:Lb} (h:H l≠ .unused):pb X H l≠ .unused:=by
 unfold pb;split
 ·simp
 ·split
  ·simp
  ·exact h
section
variable {K:Kx} {β:Lb→Option Nat} {env:Env} {H:Hp} {a:Act} {w:World} {X:Lb→Option (Nat×List IV)}
theorem jI (l:Lb) (h:live (pb X H) l):live H l:=by
 obtain⟨r,h⟩:=h;obtain⟨_,r0,h0,_⟩:=me h;exact⟨r0,h0⟩
theorem mf (ls:List Lb):eA w w β β H (pb X H) (Im K β H) (Im K β (pb X H)) ls:=
 ⟨⟨fun k hk hs=>⟨⟨hk.1,fun l hl=>hk.2 l (jI l hl)⟩,hs,rfl⟩⟩,fun l _ hl=>⟨jI l hl,rfl,fun _ _ _ h=>h⟩⟩
mutual
theorem yY (hr:aM K β env H a w) (hX:∀l sz xs,X l=some (sz,xs)→H l= .live ⟨sz,aG xs⟩∧l.fresh=true∧Flat xs):∀(x:AV) (v:Value),RV w β H (Im K β H) x v→RV w β (pb X H) (Im K β (pb X H)) (mo X x) v
 | .sl l sz i n,v,h=>by
  simp only[mo];split
  ·rename_i s xs e;split
   ·rename_i hc;obtain⟨rfl,te⟩:=hc;obtain⟨h1,h2,h3⟩:=hX l _ _ e;have h4:=tG hr h1 h2 te h3 h;simp only[RV] at h4 ⊢;refine eT.mono ⟨fun k hk hs=>⟨⟨hk.1,fun q hq=>hk.2 q ?_⟩,hs,rfl⟩⟩ _ _ h4;obtain⟨r,hq⟩:=hq;obtain⟨q1,r0,q2,_⟩:=me hq;refine⟨r0,?_⟩;rw[aA _ _ (by rintro rfl;rw[e] at q1;cases q1)];exact q2
   ·exact RV.mono _ _ (mf _) h
  ·exact RV.mono _ _ (mf _) h
 | .agg cs,v,h=>by
  simp only[mo,RV] at h ⊢;obtain⟨vs,rfl,h1⟩:=h;exact⟨vs,rfl,tZ hr hX cs vs h1⟩
 | .ei cs,v,h=>by
  simp only[mo,RV] at h ⊢;obtain⟨vs,rfl,h1⟩:=h;exact⟨vs,rfl,tZ hr hX cs vs h1⟩
 | .slk ..,v,h| .ptr ..,v,h| .any,v,h| .un,v,h| .bool _,v,h| .int ..,v,h| .str _,v,h| .list _,v,h| .iN,v,h| .nil0,v,h| .fy,v,h| .lptr _,v,h| .fn ..,v,h| .ifc ..,v,h=>RV.mono _ _ (mf _) h
theorem tZ (hr:aM K β env H a w) (hX:∀l sz xs,X l=some (sz,xs)→H l= .live ⟨sz,aG xs⟩∧l.fresh=true∧Flat xs):∀(xs:List AV) (vs:List Value),bo w β H (Im K β H) xs vs→bo w β (pb X H) (Im K β (pb X H)) (gP X xs) vs
 |[],vs,h=>h
 |x::r,vs,h=>by
  simp only[gP,bo] at h ⊢;obtain⟨v,us,rfl,h1,h2⟩:=h;exact⟨v,us,rfl,yY hr hX x v h1,tZ hr hX r us h2⟩
end
theorem aM.fz (hr:aM K β env H a w) (hX:∀l sz xs,X l=some (sz,xs)→H l= .live ⟨sz,aG xs⟩∧l.fresh=true∧Flat xs) {env2:Env} (he:∀n,env2 n= .any∨env2 n=mo X (env n)):aM K β env2 (pb X H) a w where
 defers:=hr.defers
 size:=hr.size
 gg n:=by
  rcases he n with e|e
  ·rw[e];simp[RV]
  ·rw[e];exact yY hr hX _ _ (hr.gg n)
 rows l r hl:=by
  obtain⟨_,r0,h0,rfl⟩:=me hl;obtain⟨h1,h2,h3⟩:=hr.rows l r0 h0;refine⟨h1,?_,?_⟩
  ·intro cs bx;obtain⟨c0,tt,rfl⟩:=List.mem_map.1 bx;rw[sj];exact h2 c0 tt
  ·cases hb:β l with
   |none=>rw[hb] at h3;simp only at h3;simp[h3]
   |some g=>
    rw[hb] at h3;simp only at h3 ⊢;obtain⟨cur,e,cap,e1,e2,e3,e4,e5⟩:=h3;refine⟨cur,e,cap,e1,e2,e3,by simpa using e4,?_⟩;intro i j cs x hi hj;rw[List.getElem?_map,Option.map_eq_some_iff] at hi;obtain⟨c0,hi,rfl⟩:=hi;rw[sk,Option.map_eq_some_iff] at hj;obtain⟨x0,hj,rfl⟩:=hj;obtain⟨v,k1,k2⟩:=e5 i j c0 x0 hi hj;exact⟨v,k1,yY hr hX _ _ k2⟩
 own l g hl:=hr.own l g (jI l hl)
 inj l l' g hl jY:=hr.inj l l' g (jI l hl) (jI l' jY)
 eB n l hl:=by
  rcases he n with e|e
  ·rw[e] at hl;simp[AV.ar] at hl
  ·rw[e] at hl;exact oQ (hr.eB n l (vw X _ l hl))
 cB l r hl cs bx q hq:=by
  obtain⟨_,r0,h0,rfl⟩:=me hl;obtain⟨c0,tt,rfl⟩:=List.mem_map.1 bx;exact oQ (hr.cB l r0 h0 c0 tt q (mc X _ q hq))
 frame:=hr.frame
 fI g cs hg:=by
  obtain⟨h1,h2,h3⟩:=hr.fI g cs hg;have hk:=(mf (K:=K) (β:=β) (H:=H) (X:=X) (w:=w) []).togE;exact⟨(hk.im g h1 h2).1,h2,da.mono hk h1 h2 h3⟩
 fX l hl:=⟨oQ (hr.fX l hl).1,fun h=>(hr.fX l hl).2 (jI l h)⟩
 fr l g hl:=hr.fr l g (jI l hl)
end
theorem wE {S:St} {env:Env} {H:Hp} (X:Lb→Option (Nat×List IV)) (hX:∀l sz xs,X l=some (sz,xs)→H l= .live ⟨sz,aG xs⟩∧l.fresh=true∧Flat xs) {env2:Env}
  (he:∀n,env2 n= .any∨env2 n=mo X (env n)):gj S env H env2 (pb X H):=
 fun K β a w _ _ hr=>⟨β,hr.fz hX he⟩
theorem gj.trans {S:St} {env env2 Gz:Env} {H H2 H3:Hp} (h1:gj S env H env2 H2) (h2:gj S env2 H2 Gz H3):gj S env H Gz H3:=fun K β a w e hf hr=>by
 obtain⟨β',nD⟩:=h1 K β a w e hf hr;exact h2 K β' a w e hf nD
theorem gj.GA {S:St} {ρ:Lb→Lb} {env env2:Env} {H H2:Hp} (h:Wk ρ env H env2 H2):gj S env H env2 H2:=
 fun K β a w e hf hr=>⟨_,h.rel hf hr⟩
theorem lv {S:St} {env:Env} {H:Hp} (X:Lb→Option (Nat×List IV)) (ps:List (Nat×AV)) (rs:List (Lb×Row)) (m:List (Lb×Lb))
  (hX:∀l sz xs,X l=some (sz,xs)→H l= .live ⟨sz,aG xs⟩∧l.fresh=true∧Flat xs)
  (hp:∀l∈ah (ps.map Prod.snd),l∈rs.map Prod.fst) (hr:∀q∈rs,∀cs∈q.2.els,∀l∈ah cs,l∈rs.map Prod.fst)
  (h:WU (rs.map Prod.fst) (fun _=>false) ps rs (fun n=>mo X (env n)) (pb X H) m):gj S env H (rk ps) (yC (fun _=>false) rs):=
 (wE X hX (env2:=fun n=>mo X (env n)) (fun _=> .inr rfl)).trans (.GA (h.wk rfl hp hr))
theorem yZ {X:Lb→Option (Nat×List IV)} {l:Lb} {sz n:Nat} {xs:List IV} (h:X l=some (sz,xs)) (hn:n=xs.length):mo X (.sl l sz 0 n)= .list xs:=by
 subst hn;simp[mo,h]
mutual
theorem y5 (X:Lb→Option (Nat×List IV)):∀x:AV,x.ar=[]→mo X x=x
 | .sl ..,h| .slk ..,h| .ptr ..,h=>by simp[AV.ar] at h
 | .any,_| .un,_| .bool _,_| .int ..,_| .str _,_| .list _,_| .nil0,_| .iN,_| .fy,_| .lptr _,_| .fn ..,_| .ifc ..,_=>rfl
 | .agg cs,h=>by simp only[AV.ar] at h;simp[mo,kI X cs h]
 | .ei cs,h=>by simp only[AV.ar] at h;simp[mo,kI X cs h]
theorem kI (X:Lb→Option (Nat×List IV)):∀xs:List AV,ah xs=[]→gP X xs=xs
 |[],_=>rfl
 |x::r,h=>by simp only[ah,List.append_eq_nil_iff] at h;simp[gP,y5 X x h.1,kI X r h.2]
end
theorem Em (X:Lb→Option (Nat×List IV)) (xs:List IV):(aG xs).map (gP X)=aG xs:=by
 conv=>rhs;rw[←List.map_id (aG xs)]
 exact List.map_congr_left fun cs bx=>kI X cs (bY bx)
theorem y6 (ρ:Lb→Lb) (xs:List IV):(aG xs).map (bT ρ)=aG xs:=congrArg Row.els (cr ρ 1 xs)
def kL (g:Lb→AV→AV) (H:Hp):Hp:=fun l=>match H l with
 | .live r=> .live ⟨r.sz,r.els.map fun cs=>cs.map (g l)⟩
 |s=>s
theorem mH {g:Lb→AV→AV} {H:Hp} {l:Lb} {r:Row} (h:kL g H l= .live r):∃r0,H l= .live r0∧r=⟨r0.sz,r0.els.map fun cs=>cs.map (g l)⟩:=by
 unfold kL at h;split at h
 ·rename_i r0 h0;simp only[Slot.live.injEq] at h;exact⟨r0,h0,h.symm⟩
 ·rename_i hn;exact absurd h (hn r)
theorem mI {g:Lb→AV→AV} {H:Hp} {l:Lb} (h:H l≠ .unused):kL g H l≠ .unused:=by
 unfold kL;split
 ·simp
 ·exact h
theorem ix {g:Lb→AV→AV} {H:Hp} (l:Lb):live (kL g H) l↔live H l:=by
 constructor
 ·rintro⟨r,h⟩;obtain⟨r0,h0,_⟩:=mH h;exact⟨r0,h0⟩
 ·rintro⟨r,h⟩;exact⟨_,by unfold kL;rw[h]⟩
theorem sn {f:AV→AV} (hf:∀x q,q∈(f x).ar→q∈x.ar):∀(cs:List AV) (q:Lb),q∈ah (cs.map f)→q∈ah cs
 |[],q,h=>h
 |x::r,q,h=>by
  simp only[List.map_cons,ah,List.mem_append] at h ⊢;exact h.imp (hf x q) (sn hf r q)
theorem t_ {S:St} {env:Env} {H:Hp} (g:Lb→AV→AV) (hg:∀l x (w:World) (β:Lb→Option Nat) (H:Hp) (I:Nat→Prop) v,RV w β H I x v→RV w β H I (g l x) v) (hl:∀l x q,q∈(g l x).ar→q∈x.ar) :
  gj S env H env (kL g H):=by
 intro K β a w _ _ hr
 have Aj:∀k,Im K β (kL g H) k↔Im K β H k:=by
  intro k;simp only[Im,ix]
 have dc:∀ls,eA w w β β H (kL g H) (Im K β H) (Im K β (kL g H)) ls:=fun ls=>
  ⟨⟨fun k hk hs=>⟨(Aj k).2 hk,hs,rfl⟩⟩,fun l _ hl=>⟨(ix l).1 hl,rfl,fun _ _ _ h=>h⟩⟩
 refine⟨β,⟨hr.defers,hr.size,fun n=>RV.mono _ _ (dc _) (hr.gg n),?_,fun l g0 h=>hr.own l g0 ((ix l).1 h),fun l l' g0 h h'=>hr.inj l l' g0 ((ix l).1 h) ((ix l').1 h'),
  fun n l h=>mI (hr.eB n l h),?_,hr.frame,?_,fun l h=>⟨mI (hr.fX l h).1,fun h2=>(hr.fX l h).2 ((ix l).1 h2)⟩,fun l g0 h=>hr.fr l g0 ((ix l).1 h)⟩⟩
 ·intro l r h;obtain⟨r0,h0,rfl⟩:=mH h;obtain⟨h1,h2,h3⟩:=hr.rows l r0 h0;refine⟨h1,?_,?_⟩
  ·intro cs bx;obtain⟨c0,tt,rfl⟩:=List.mem_map.1 bx;rw[List.length_map];exact h2 c0 tt
  ·cases hb:β l with
   |none=>rw[hb] at h3;simp only at h3;simp[h3]
   |some g0=>
    rw[hb] at h3;simp only at h3 ⊢;obtain⟨cur,e,cap,e1,e2,e3,e4,e5⟩:=h3;refine⟨cur,e,cap,e1,e2,e3,by simpa using e4,?_⟩;intro i j cs x hi hj;rw[List.getElem?_map,Option.map_eq_some_iff] at hi;obtain⟨c0,hi,rfl⟩:=hi;rw[List.getElem?_map,Option.map_eq_some_iff] at hj;obtain⟨x0,hj,rfl⟩:=hj;obtain⟨v,k1,k2⟩:=e5 i j c0 x0 hi hj;exact⟨v,k1,hg l _ _ _ _ _ _ (RV.mono _ _ (dc _) k2)⟩
 ·intro l r h cs bx q hq;obtain⟨r0,h0,rfl⟩:=mH h;obtain⟨c0,tt,rfl⟩:=List.mem_map.1 bx;exact mI (hr.cB l r0 h0 c0 tt q (sn (hl l) _ _ hq))
 ·intro g0 cs h;obtain⟨h1,h2,h3⟩:=hr.fI g0 cs h;exact⟨(Aj g0).2 h1,h2,da.mono (dc []).togE h1 h2 h3⟩
def zZ (p:Lb→Bool) (l:Lb) (x:AV):AV:=if p l then norm x else x
theorem so {S:St} {env:Env} {H:Hp} (p:Lb→Bool):gj S env H env (kL (zZ p) H):=
 t_ _ (fun l x w β H I v h=>by unfold zZ;split;exact RV.norm x v h;exact h) (fun l x q h=>by
  unfold zZ at h;split at h
  ·rwa[og] at h
  ·exact h)
end Go.Am

/- Documents alike, copied; the tree at a place, by parents. -/
namespace Go.Am
open Go Go.RowKit
def dK:AC:=
(.seq (.au [⟨some 4,none,.af (.c (.bool false))⟩]) (.seq (.seq (.au [⟨some 6,none,.af (.t 0)⟩,⟨some 7,none,.len (.t 6)⟩,⟨some 8,none,.af (.t 1)⟩,⟨some 9,none,.len (.t 8)⟩,⟨some 10,none,.bin .neq (.t 7) (.t 9)⟩]) (.cond (.t 10) (.seq (.au [⟨some 4,none,.af (.c (.bool false))⟩]) .ret) .skip)) (.seq (.seq (.au [⟨some 11,none,.af (.t 0)⟩,⟨some 12,none,.len (.t 11)⟩,⟨some 13,none,.af (.c (.int .i64 0))⟩]) (.block 0 (.loop (.seq (.au [⟨some 14,none,.bin .lss (.t 13) (.t 12)⟩]) (.seq (.cond (.t 14) .skip (.exit 0)) (.seq (.block 1 (.seq (.au [⟨some 15,none,.af (.t 13)⟩,⟨some 5,none,.af (.t 15)⟩]) (.seq (.fY [⟨some 16,none,.af (.t 0)⟩,⟨some 17,none,.af (.t 5)⟩,⟨some 18,none,.fH (.t 16) (.t 17) 1⟩,⟨some 19,none,.load none (.t 18)⟩,⟨some 20,none,.af (.t 1)⟩,⟨some 21,none,.af (.t 5)⟩,⟨some 22,none,.fH (.t 20) (.t 21) 1⟩,⟨some 23,none,.load none (.t 22)⟩,⟨some 24,none,.bin .neq (.t 19) (.t 23)⟩] [[],[],[0,1],[2],[],[],[4,5],[6],[3,7]] [.no,.no,.no,.no,.no,.no,.no,.no,.no]) (.cond (.t 24) (.seq (.au [⟨some 4,none,.af (.c (.bool false))⟩]) .ret) .skip)))) (.au [⟨some 25,none,.bin .add (.t 13) (.c (.int .i64 1))⟩,⟨some 13,none,.af (.t 25)⟩]))))))) (.seq (.au [⟨some 4,none,.af (.c (.bool true))⟩]) .ret))))
theorem wF {x y:Int} (h:x≠y):(x !=y)=true:=by simpa using h
theorem oR (n:Int):(bl n).cells=[.int .i64 n]:=rfl
theorem mg {P:Program} {G:Nat→Option (List IV)} {aP:Nat} (hF:aB P G aP=some (26,[(none,4)],dK.bare)) (xs ys:List Int) (hx:xs.length≤B) :
  ai P G aP [.list (xs.map bl),.list (ys.map bl)] (.bool (qC xs ys)):=by
 refine aC hF (by simp) (by simp[ah,AV.ar]) (by simp[AV.ar]) ?_;unfold dK;simp only[↓aX,mX,reduceCtorEq,Nat.reduceEqDiff,Nat.reduceLT,Nat.reduceLeDiff,Nat.reduceAdd,Nat.reduceMul,Int.reduceToNat,Int.reduceLE,Int.reduceLT,List.length_map];by_cases hl:xs.length=ys.length
 ·rw[show((xs.length:Int) !=(ys.length:Int))=false by simp[hl]];simp only[↓aX,mX,reduceCtorEq,Nat.reduceEqDiff,Nat.reduceLT,Nat.reduceLeDiff,Nat.reduceAdd,Nat.reduceMul,Int.reduceToNat,Int.reduceLE,Int.reduceLT,List.length_map]
  refine gm (σ:={i:Nat // i≤xs.length∧∀j,j<i→xs[j]?=ys[j]?}) (fun q=>[(0,.list (xs.map bl)),(1,.list (ys.map bl)),(12,.int .i64 xs.length),(13,.int .i64 q.1)]) (fun q=>xs.length - q.1) ⟨0,by simp⟩ (fun _=>rfl) ?_ ?_
  ·exact⟨by simp only[↓aX,mX,reduceCtorEq,Nat.reduceEqDiff,Nat.reduceLT,Nat.reduceLeDiff,Nat.reduceAdd,Nat.reduceMul,Int.reduceToNat,Int.reduceLE,Int.reduceLT],by repeat' constructor⟩
  ·rintro⟨i,hi,hs⟩;simp only[↓aX,mX,reduceCtorEq,Nat.reduceEqDiff,Nat.reduceLT,Nat.reduceLeDiff,Nat.reduceAdd,Nat.reduceMul,Int.reduceToNat,Int.reduceLE,Int.reduceLT,List.length_map];by_cases bz:i<xs.length
   ·rw[show decide ((i:Int)<(xs.length:Int))=true by simpa using bz];obtain⟨x,rl⟩:∃x,xs[i]?=some x:=⟨_,List.getElem?_eq_getElem bz⟩;obtain⟨y,s7⟩:∃y,ys[i]?=some y:=⟨_,List.getElem?_eq_getElem (hl▸bz)⟩;simp only[↓aX,mX,reduceCtorEq,Nat.reduceEqDiff,Nat.reduceLT,Nat.reduceLeDiff,Nat.reduceAdd,Nat.reduceMul,Int.reduceToNat,Int.reduceLE,Int.reduceLT,oL,rl,s7,Option.map_some,oy,oR];refine⟨rfl,?_⟩
    by_cases Av:x=y
    ·subst Av;have hw:IntKind.i64.wrap ((i:Int)+1)=((i+1:Nat):Int):=wrap64 (by omega) (by unfold B at hx;omega);rw[show(x !=x)=false by simp];simp only[↓aX,mX,reduceCtorEq,Nat.reduceEqDiff,Nat.reduceLT,Nat.reduceLeDiff,Nat.reduceAdd,Nat.reduceMul,Int.reduceToNat,Int.reduceLE,Int.reduceLT,hw];refine⟨⟨i+1,bz,fun j hj=> ?_⟩,by simp only;omega,rfl⟩;by_cases e:j=i
     ·rw[e,rl,s7]
     ·exact hs j (by omega)
    ·have eg:xs≠ys:=fun e=>Av (by rw[e,s7] at rl;cases rl;rfl)
     rw[wF Av];simp only[↓aX,mX,reduceCtorEq,Nat.reduceEqDiff,Nat.reduceLT,Nat.reduceLeDiff,Nat.reduceAdd,Nat.reduceMul,Int.reduceToNat,Int.reduceLE,Int.reduceLT,kh eg]
   ·rw[show decide ((i:Int)<(xs.length:Int))=false by simpa using bz];simp only[↓aX,mX,reduceCtorEq,Nat.reduceEqDiff,Nat.reduceLT,Nat.reduceLeDiff,Nat.reduceAdd,Nat.reduceMul,Int.reduceToNat,Int.reduceLE,Int.reduceLT]
    have:xs=ys:=List.ext_getElem? fun j=>by
     by_cases hj:j<i
     ·exact hs j hj
     ·rw[List.getElem?_eq_none (by omega),List.getElem?_eq_none (by omega)]
    rw[this,kg]
 ·rw[show((xs.length:Int) !=(ys.length:Int))=true by simp;omega];have:xs≠ys:=fun e=>hl (by rw[e])
  simp only[↓aX,mX,reduceCtorEq,Nat.reduceEqDiff,Nat.reduceLT,Nat.reduceLeDiff,Nat.reduceAdd,Nat.reduceMul,Int.reduceToNat,Int.reduceLE,Int.reduceLT,kh this]
def eO (di aP:Nat):AC:=
(.seq (.au [⟨some 2,none,.box (.t 0)⟩,⟨some 3,none,.box (.t 1)⟩,⟨some 4,none,.af (.c (.bool false))⟩]) (.seq (.seq (.au [⟨some 8,none,.bU (.t 2) 0⟩,⟨some 9,none,.load none (.t 8)⟩,⟨some 10,none,.len (.t 9)⟩,⟨some 11,none,.bU (.t 3) 0⟩,⟨some 12,none,.load none (.t 11)⟩,⟨some 13,none,.len (.t 12)⟩,⟨some 14,none,.bin .neq (.t 10) (.t 13)⟩]) (.cond (.t 14) (.seq (.au [⟨some 4,none,.af (.c (.bool false))⟩]) .ret) .skip)) (.seq (.seq (.au [⟨some 15,none,.bU (.t 2) 0⟩,⟨some 16,none,.load none (.t 15)⟩,⟨some 17,none,.len (.t 16)⟩,⟨some 18,none,.af (.c (.int .i64 0))⟩]) (.block 0 (.loop (.seq (.au [⟨some 19,none,.bin .lss (.t 18) (.t 17)⟩]) (.seq (.cond (.t 19) .skip (.exit 0)) (.seq (.block 1 (.seq (.au [⟨some 20,none,.af (.t 18)⟩,⟨some 5,none,.af (.t 20)⟩]) (.seq (.fY [⟨some 21,none,.bU (.t 2) 0⟩,⟨some 22,none,.load none (.t 21)⟩,⟨some 23,none,.af (.t 5)⟩,⟨some 24,none,.fH (.t 22) (.t 23) 5⟩,⟨some 25,none,.load (some 5) (.t 24)⟩,⟨some 26,none,.bU (.t 3) 0⟩,⟨some 27,none,.load none (.t 26)⟩,⟨some 28,none,.af (.t 5)⟩,⟨some 29,none,.fH (.t 27) (.t 28) 5⟩,⟨some 30,none,.load (some 5) (.t 29)⟩,⟨some 6,none,.new [(.bool false),(.str []),.nil0,(.int .i64 0),.nil0]⟩,⟨some 7,none,.new [(.bool false),(.str []),.nil0,(.int .i64 0),.nil0]⟩,⟨none,none,.store 5 (.t 6) (.t 25)⟩,⟨none,none,.store 5 (.t 7) (.t 30)⟩] [[],[0],[],[1,2],[3],[],[5],[],[6,7],[8],[],[],[10,4,0,1,2,3,4,10,11],[11,9,12,0,1,2,3,4,5,6,7,8,9,10,11,12]] [.no,.rw [.loc 2] [],.no,.no,.no,.no,.rw [.loc 3] [],.no,.no,.no,.rw [] [.loc 6],.rw [] [.loc 7],.rw [] [.loc 6],.rw [] [.loc 7]]) (.seq (.au [⟨some 31,none,.bU (.t 6) 0⟩,⟨some 32,none,.load none (.t 31)⟩,⟨some 33,none,.bU (.t 7) 0⟩,⟨some 34,none,.load none (.t 33)⟩,⟨some 35,none,.xa true (.t 32) (.t 34)⟩,⟨some 36,none,.af (.t 35)⟩,⟨some 37,(some (36,false)),(.bU (.t 6) 1)⟩,⟨some 38,(some (36,false)),(.load none (.t 37))⟩,⟨some 39,(some (36,false)),(.bU (.t 7) 1)⟩,⟨some 40,(some (36,false)),(.load none (.t 39))⟩,⟨some 41,(some (36,false)),(.bin .neq (.t 38) (.t 40))⟩,⟨some 42,none,.pick (.t 36) (.c (.bool true)) (.t 41)⟩,⟨some 43,none,.af (.t 42)⟩,⟨some 44,(some (43,false)),(.bU (.t 6) 3)⟩,⟨some 45,(some (43,false)),(.load none (.t 44))⟩,⟨some 46,(some (43,false)),(.bU (.t 7) 3)⟩,⟨some 47,(some (43,false)),(.load none (.t 46))⟩,⟨some 48,(some (43,false)),(.bin .neq (.t 45) (.t 47))⟩,⟨some 49,none,.pick (.t 43) (.c (.bool true)) (.t 48)⟩,⟨some 50,none,.af (.t 49)⟩,⟨some 51,(some (50,false)),(.bU (.t 6) 2)⟩,⟨some 52,(some (50,false)),(.load none (.t 51))⟩,⟨some 53,(some (50,false)),(.bU (.t 7) 2)⟩,⟨some 54,(some (50,false)),(.load none (.t 53))⟩,⟨some 55,(some (50,false)),(.call di [(.t 52),(.t 54)])⟩,⟨some 56,(some (50,false)),(.not (.t 55))⟩,⟨some 57,none,.pick (.t 50) (.c (.bool true)) (.t 56)⟩,⟨some 58,none,.af (.t 57)⟩,⟨some 59,(some (58,false)),(.bU (.t 6) 4)⟩,⟨some 60,(some (58,false)),(.load none (.t 59))⟩,⟨some 61,(some (58,false)),(.bU (.t 7) 4)⟩,⟨some 62,(some (58,false)),(.load none (.t 61))⟩,⟨some 63,(some (58,false)),(.call aP [(.t 60),(.t 62)])⟩,⟨some 64,(some (58,false)),(.not (.t 63))⟩,⟨some 65,none,.pick (.t 58) (.c (.bool true)) (.t 64)⟩]) (.cond (.t 65) (.seq (.au [⟨some 4,none,.af (.c (.bool false))⟩]) .ret) .skip))))) (.au [⟨some 66,none,.bin .add (.t 18) (.c (.int .i64 1))⟩,⟨some 18,none,.af (.t 66)⟩]))))))) (.seq (.au [⟨some 4,none,.af (.c (.bool true))⟩]) .ret))))
def qK (d e:Doc) (i:Nat):List (Nat×AV):=[(2,.ptr (.loc 2) 1 0 0),(3,.ptr (.loc 3) 1 0 0),(17,.int .i64 d.length),(18,.int .i64 i)]
def ua (d e:Doc):List (Lb×Row):=[(.loc 2,⟨1,[[.list (d.map Node.iv)]]⟩),(.loc 3,⟨1,[[.list (e.map Node.iv)]]⟩)]
theorem y7 {P : Program} {G : Nat → Option (List IV)} {bg di aP : Nat} (hF : aB P G bg = some (67,[(none,4)],(eO di aP).bare)) (d e : Doc) (hd : gO d ≤ B)
   (hA:∀x∈d,∀y∈e,ai P G di [.list (eh x.attrs),.list (eh y.attrs)] (.bool (qC x.attrs y.attrs)))
   (hN:∀x∈d,∀y∈e,ai P G aP [.list (x.kids.map bl),.list (y.kids.map bl)] (.bool (qC x.kids y.kids))) :
   ai P G bg [Doc.av d,Doc.av e] (.bool (qC d e)):=by
 refine aC hF (by simp) (by simp[ah,AV.ar,Doc.av]) (by simp[AV.ar]) ?_
 have vo:=fk d
 unfold eO
 simp only[↓aX,mX,reduceCtorEq,Nat.reduceEqDiff,Nat.reduceLT,Nat.reduceLeDiff,Nat.reduceAdd,Nat.reduceMul,Int.reduceToNat,Int.reduceLE,Int.reduceLT,Doc.av,List.length_map]
 by_cases hl:d.length=e.length
 · rw [show ((d.length : Int) != (e.length : Int)) = false by simp [hl]]
   simp only[↓aX,mX,reduceCtorEq,Nat.reduceEqDiff,Nat.reduceLT,Nat.reduceLeDiff,Nat.reduceAdd,Nat.reduceMul,Int.reduceToNat,Int.reduceLE,Int.reduceLT,List.length_map]
   refine eo (σ:={i:Nat // i≤d.length∧∀j,j<i→d[j]?=e[j]?}) [.loc 2,.loc 3] (fun q=>qK d e q.1) (fun _=>ua d e) (fun q=>d.length - q.1) ⟨0,by simp⟩
     (fun _=>rfl) (by decide) (by simp[ah,AV.ar,qK]) (by
       intro q r hr cs bx l hl
       simp only[ua,List.mem_cons,List.not_mem_nil,or_false] at hr
       rcases hr with rfl|rfl<;>(simp only[List.mem_singleton] at bx;subst bx;simp[ah,AV.ar] at hl)) ?_ ?_
   · exact dT (by simp only[kz,ji]) (by unfold qK;repeat' constructor) ⟨rfl,rfl,trivial⟩
   · rintro ⟨i,hi,hs⟩
     simp only[↓aX,mX,reduceCtorEq,Nat.reduceEqDiff,Nat.reduceLT,Nat.reduceLeDiff,Nat.reduceAdd,Nat.reduceMul,Int.reduceToNat,Int.reduceLE,Int.reduceLT,qK,ua,cb,bO]
     by_cases bz:i<d.length
     · rw[show decide ((i:Int)<(d.length:Int))=true by simpa using bz]
       obtain⟨x,rl⟩:∃x,d[i]?=some x:=⟨_,List.getElem?_eq_getElem bz⟩
       obtain⟨y,s7⟩:∃y,e[i]?=some y:=⟨_,List.getElem?_eq_getElem (hl▸bz)⟩
       have xf:=List.mem_of_getElem? rl
       have JQ:=List.mem_of_getElem? s7
       have stop:x≠y→qC d e=false:=fun h=>kh fun he=>h (by rw[he,s7] at rl;cases rl;rfl)
       have hw:IntKind.i64.wrap ((i:Int)+1)=((i+1:Nat):Int):=wrap64 (by omega) (by unfold B at hd;omega)
       simp only[↓aX,mX,reduceCtorEq,Nat.reduceEqDiff,Nat.reduceLT,Nat.reduceLeDiff,Nat.reduceAdd,Nat.reduceMul,Int.reduceToNat,Int.reduceLE,Int.reduceLT,Doc.er rl,Doc.er s7,gJ,Node.aU,Node.cs]
       refine⟨rfl,?_⟩
       cases h1:(x.text==y.text) with
       |false=>
         have eg:x≠y:=by rintro rfl;simp at h1
         simp only[↓aX,mX,reduceCtorEq,Nat.reduceEqDiff,Nat.reduceLT,Nat.reduceLeDiff,Nat.reduceAdd,Nat.reduceMul,Int.reduceToNat,Int.reduceLE,Int.reduceLT,stop eg]
       |true=>
         simp only[↓aX,mX,reduceCtorEq,Nat.reduceEqDiff,Nat.reduceLT,Nat.reduceLeDiff,Nat.reduceAdd,Nat.reduceMul,Int.reduceToNat,Int.reduceLE,Int.reduceLT]
         cases h2:(x.s==y.s) with
         |false=>
           have eg:x≠y:=by rintro rfl;simp at h2
           simp only[↓aX,mX,reduceCtorEq,Nat.reduceEqDiff,Nat.reduceLT,Nat.reduceLeDiff,Nat.reduceAdd,Nat.reduceMul,Int.reduceToNat,Int.reduceLE,Int.reduceLT,Bool.not_false,stop eg]
         |true=>
           simp only[↓aX,mX,reduceCtorEq,Nat.reduceEqDiff,Nat.reduceLT,Nat.reduceLeDiff,Nat.reduceAdd,Nat.reduceMul,Int.reduceToNat,Int.reduceLE,Int.reduceLT,Bool.not_true]
           cases h3:(x.parent !=y.parent) with
           |true=>
             have eg:x≠y:=by rintro rfl;simp at h3
             simp only[↓aX,mX,reduceCtorEq,Nat.reduceEqDiff,Nat.reduceLT,Nat.reduceLeDiff,Nat.reduceAdd,Nat.reduceMul,Int.reduceToNat,Int.reduceLE,Int.reduceLT,stop eg]
           |false=>
             simp only[↓aX,mX,reduceCtorEq,Nat.reduceEqDiff,Nat.reduceLT,Nat.reduceLeDiff,Nat.reduceAdd,Nat.reduceMul,Int.reduceToNat,Int.reduceLE,Int.reduceLT]
             refine aj (hA x xf y JQ) ?_
             by_cases h4:x.attrs=y.attrs
             · rw[h4,kg]
               simp only[↓aX,mX,reduceCtorEq,Nat.reduceEqDiff,Nat.reduceLT,Nat.reduceLeDiff,Nat.reduceAdd,Nat.reduceMul,Int.reduceToNat,Int.reduceLE,Int.reduceLT,Bool.not_true]
               refine aj (hN x xf y JQ) ?_
               by_cases h5:x.kids=y.kids
               · rw[h5,kg]
                 simp only[↓aX,mX,reduceCtorEq,Nat.reduceEqDiff,Nat.reduceLT,Nat.reduceLeDiff,Nat.reduceAdd,Nat.reduceMul,Int.reduceToNat,Int.reduceLE,Int.reduceLT,Bool.not_true,hw]
                 refine⟨⟨i+1,bz,fun j hj=> ?_⟩,by simp only;omega,dT ?_ ⟨rfl,rfl,rfl,rfl,trivial⟩ ⟨rfl,rfl,trivial⟩⟩
                 · by_cases ej : j = i
                   · rw[ej,rl,s7]
                     congr 1
                     exact Node.ext' (by simpa using h1) (by simpa using h2) h4 (by simpa using h3) h5
                   · exact hs j (by omega)
                 · intro l qx hu
                   by_cases e0:l= .loc 2
                   · subst e0;simp
                   · by_cases e1:l= .loc 3
                     · subst e1;simp
                     · exfalso;apply hu;cases l<;>simp_all[Lb.fresh,ae,Hp.none]
               · have eg:x≠y:=by rintro rfl;exact h5 rfl
                 rw[kh h5]
                 simp only[↓aX,mX,reduceCtorEq,Nat.reduceEqDiff,Nat.reduceLT,Nat.reduceLeDiff,Nat.reduceAdd,Nat.reduceMul,Int.reduceToNat,Int.reduceLE,Int.reduceLT,Bool.not_false,stop eg]
             · have eg:x≠y:=by rintro rfl;exact h4 rfl
               rw[kh h4]
               simp only[↓aX,mX,reduceCtorEq,Nat.reduceEqDiff,Nat.reduceLT,Nat.reduceLeDiff,Nat.reduceAdd,Nat.reduceMul,Int.reduceToNat,Int.reduceLE,Int.reduceLT,Bool.not_false,stop eg]
     · rw[show decide ((i:Int)<(d.length:Int))=false by simpa using bz]
       simp only[↓aX,mX,reduceCtorEq,Nat.reduceEqDiff,Nat.reduceLT,Nat.reduceLeDiff,Nat.reduceAdd,Nat.reduceMul,Int.reduceToNat,Int.reduceLE,Int.reduceLT]
       have:d=e:=List.ext_getElem? fun j=>by
         by_cases hj:j<i
         · exact hs j hj
         · rw[List.getElem?_eq_none (by omega),List.getElem?_eq_none (by omega)]
       rw[this,kg]
 · rw[show((d.length:Int) !=(e.length:Int))=true by simp;omega]
   have:d≠e:=fun h=>hl (by rw[h])
   simp only[↓aX,mX,reduceCtorEq,Nat.reduceEqDiff,Nat.reduceLT,Nat.reduceLeDiff,Nat.reduceAdd,Nat.reduceMul,Int.reduceToNat,Int.reduceLE,Int.reduceLT,kh this]
end Go.Am

/- Documents copied; the tree at a place, by parents. -/
namespace Go.Am
open Go Go.RowKit
def eP:AC:=
(.seq (.au [⟨some 1,none,.box (.t 0)⟩,⟨some 2,none,.new [.nil0]⟩]) (.seq (.au [⟨some 3,none,.new [.nil0]⟩]) (.seq (.gh .nF (.seq (.au [⟨some 6,none,.bU (.t 1) 0⟩,⟨some 7,none,.load none (.t 6)⟩,⟨some 8,none,.len (.t 7)⟩,⟨some 9,none,.af (.c (.int .i64 0))⟩]) (.block 0 (.loop (.seq (.au [⟨some 10,none,.bin .lss (.t 9) (.t 8)⟩]) (.seq (.cond (.t 10) .skip (.exit 0)) (.seq (.block 1 (.seq (.au [⟨some 11,none,.fH (.t 7) (.t 9) 5⟩,⟨some 12,none,.load (some 5) (.t 11)⟩,⟨some 5,none,.new [(.bool false),(.str []),.nil0,(.int .i64 0),.nil0]⟩,⟨none,none,.store 5 (.t 5) (.t 12)⟩]) (.seq (.fY [⟨some 13,none,.bU (.t 5) 2⟩,⟨some 14,none,.load none (.t 13)⟩,⟨some 15,none,.app (.c .nil0) (.t 14) 2 32⟩,⟨some 16,none,.bU (.t 5) 4⟩,⟨some 17,none,.load none (.t 16)⟩,⟨some 18,none,.app (.c .nil0) (.t 17) 1 8⟩,⟨some 19,none,.bU (.t 5) 2⟩,⟨none,none,.store 1 (.t 19) (.t 15)⟩,⟨some 20,none,.bU (.t 5) 4⟩,⟨none,none,.store 1 (.t 20) (.t 18)⟩] [[],[0],[1],[],[3],[4,2],[0,1,2,3,4],[6,2,5,0,1,2,3,4],[0,1,2,3,4,5,6,7],[8,5,7,0,1,2,3,4,5,6,7]] [.no,.rw [.loc 5] [],.rw [] [.loc 15],.no,.rw [.loc 5] [],.rw [] [.loc 18],.no,.rw [] [.loc 5],.no,.rw [] [.loc 5]]) (.gh .nF (.au [⟨some 21,none,.bU (.t 3) 0⟩,⟨some 22,none,.load none (.t 21)⟩,⟨some 23,none,.load (some 5) (.t 5)⟩,⟨some 24,none,.lits 1 5 [(.bool false),(.str []),.nil0,(.int .i64 0),.nil0] [(0,(.t 23))]⟩,⟨some 25,none,.app (.t 22) (.t 24) 5 80⟩,⟨some 26,none,.bU (.t 3) 0⟩,⟨none,none,.store 1 (.t 26) (.t 25)⟩]))))) (.au [⟨some 27,none,.bin .add (.t 9) (.c (.int .i64 1))⟩,⟨some 9,none,.af (.t 27)⟩])))))))) (.gh (.tF (.loc 1000) (.loc 3) 0) (.seq (.au [⟨some 28,none,.load (some 1) (.t 3)⟩,⟨none,none,.store 1 (.t 2) (.t 28)⟩]) .ret)))))
def ub (a b:Lb) (xs:Nat×List IV) (ys:Nat×List IV):Lb→Option (Nat×List IV):=fun l=>if l=a then some xs else if l=b then some ys else none
theorem y8 {P:Program} {G:Nat→Option (List IV)} {b':Nat} (hF:aB P G b'=some (29,[((some (some 1)),2)],eP.bare)) (d:Doc) (hd:gO d≤B) :
   ai P G b' [Doc.av d] (Doc.av d):=by
 refine gI hF (by simp) (by simp[ah,AV.ar,Doc.av]) (by simp[AV.ar,ah,Doc.av]) ?_
 have rn:B=1073741824:=rfl
 have vo:=fk d
 unfold eP
 simp only[↓aX,mX,reduceCtorEq,Nat.reduceEqDiff,Nat.reduceLT,Nat.reduceLeDiff,Nat.reduceAdd,Nat.reduceMul,Int.reduceToNat,Int.reduceLE,Int.reduceLT,Doc.av,List.length_map]
 rw[kx]
 refine⟨_,_,iJ (q:= .loc 3) (cs:=[.nil0]) (j:=0) (d:=1000) (sz:=5) rfl rfl (by simp[ae,Hp.none]) (by decide),?_⟩
 simp only[↓aX,mX,reduceCtorEq,Nat.reduceEqDiff,Nat.reduceLT,Nat.reduceLeDiff,Nat.reduceAdd,Nat.reduceMul,Int.reduceToNat,Int.reduceLE,Int.reduceLT]
 refine dA (σ:={i:Nat // i≤d.length}) (fun _=>[.loc 2,.loc 3,.loc 1000]) (fun _ _=>false)
   (fun q=>[(2,.ptr (.loc 2) 1 0 0),(3,.ptr (.loc 3) 1 0 0),(7,.list (d.map Node.iv)),(8,.int .i64 d.length),(9,.int .i64 q.1)])
   (fun q=>[(.loc 2,⟨1,[[.nil0]]⟩),(.loc 3,⟨1,[[.sl (.loc 1000) 5 0 q.1]]⟩),(.loc 1000,⟨5,aG ((d.take q.1).map Node.iv)⟩)])
   (fun q=>d.length - q.1) ⟨0,Nat.zero_le _⟩ (fun _=>rfl) (fun q=>by simp[ah,AV.ar]) ?_ ⟨[],?_⟩ ?_
 · rintro q r hr cs bx l hl
   simp only[List.mem_cons,List.not_mem_nil,or_false] at hr
   rcases hr with rfl|rfl|rfl
   · simp only[List.mem_singleton] at bx;subst bx;simp[ah,AV.ar] at hl
   · simp only[List.mem_singleton] at bx;subst bx;simp[ah,AV.ar] at hl;subst hl;simp
   · rw[bY bx] at hl;simp at hl
 · refine⟨?_,?_,?_,by simp[bq],fun l _=>⟨id,fun _=>rfl⟩⟩
   · intro l hf hu
     exfalso;apply hu
     cases l<;>simp_all[Lb.fresh,ae,Hp.none]
   · simp[iq,bq,bQ,put]
   · simp[jW,bq,ae,bX,bT,bQ,aG]
 · rintro ⟨i,hi⟩
   rw[iu]
   simp only[↓aX,mX,reduceCtorEq,Nat.reduceEqDiff,Nat.reduceLT,Nat.reduceLeDiff,Nat.reduceAdd,Nat.reduceMul,Int.reduceToNat,Int.reduceLE,Int.reduceLT,cb,bO]
   by_cases bz:i<d.length
   · rw[show decide ((i:Int)<(d.length:Int))=true by simpa using bz]
     obtain⟨x,hx⟩:∃x,d[i]?=some x:=⟨_,List.getElem?_eq_getElem bz⟩
     have hw:IntKind.i64.wrap ((i:Int)+1)=((i+1:Nat):Int):=wrap64 (by omega) (by omega)
     have GB:=kG (List.mem_of_getElem? hx)
     have JR:=g_ x.attrs
     simp only[Node.wt] at GB
     have tm:(d.take (i+1)).map Node.iv=(d.take i).map Node.iv++[x.iv]:=by rw[List.take_add_one,hx];simp
     have K5:((d.take i).map Node.iv).length=i:=by rw[List.length_map,List.length_take];omega
     simp only[↓aX,mX,reduceCtorEq,Nat.reduceEqDiff,Nat.reduceLT,Nat.reduceLeDiff,Nat.reduceAdd,Nat.reduceMul,Int.reduceToNat,Int.reduceLE,Int.reduceLT,Doc.er hx,gJ,Node.aU,Node.cs]
     rw[jk 2 32 15 (eh x.attrs) (nc _) (oi _) (by rw[de];omega) (by decide) (by simp[ae,Hp.none])]
     simp only[↓aX,mX,reduceCtorEq,Nat.reduceEqDiff,Nat.reduceLT,Nat.reduceLeDiff,Nat.reduceAdd,Nat.reduceMul,Int.reduceToNat,Int.reduceLE,Int.reduceLT]
     rw[jk 1 8 18 (x.kids.map bl) (oy _) (oz _) (by rw[List.length_map];omega) (by decide) (by simp[ae,Hp.none])]
     simp only[↓aX,mX,reduceCtorEq,Nat.reduceEqDiff,Nat.reduceLT,Nat.reduceLeDiff,Nat.reduceAdd,Nat.reduceMul,Int.reduceToNat,Int.reduceLE,Int.reduceLT]
     refine⟨rfl,?_⟩
     rw[kx]
     refine⟨_,_,lv (ub (.loc 15) (.loc 18) (2,eh x.attrs) (1,x.kids.map bl))
       [(2,.ptr (.loc 2) 1 0 0),(3,.ptr (.loc 3) 1 0 0),(5,.ptr (.loc 5) 5 0 0),(7,.list (d.map Node.iv)),(8,.int .i64 d.length),(9,.int .i64 i)]
       [(.loc 2,⟨1,[[.nil0]]⟩),(.loc 3,⟨1,[[.sl (.loc 1000) 5 0 i]]⟩),(.loc 1000,⟨5,aG ((d.take i).map Node.iv)⟩),(.loc 5,⟨5,[x.iv.cells.map IV.b7]⟩)] [] ?_ ?_ ?_ ?_,?_⟩
     · intro l sz xs hl
       unfold ub at hl
       split at hl
       · rename_i e;subst e
         simp only[Option.some.injEq,Prod.mk.injEq] at hl
         obtain⟨rfl,rfl⟩:=hl
         exact⟨by simp[ae],rfl,oi _⟩
       · split at hl
         · rename_i e;subst e
           simp only[Option.some.injEq,Prod.mk.injEq] at hl
           obtain⟨rfl,rfl⟩:=hl
           exact⟨by simp[ae],rfl,oz _⟩
         · cases hl
     · simp[ah,AV.ar]
     · rintro r hr cs bx l hl
       simp only[List.mem_cons,List.not_mem_nil,or_false] at hr
       rcases hr with rfl|rfl|rfl|rfl
       · simp only[List.mem_singleton] at bx;subst bx;simp[ah,AV.ar] at hl
       · simp only[List.mem_singleton] at bx;subst bx;simp[ah,AV.ar] at hl;subst hl;simp
       · rw[bY bx] at hl;simp at hl
       · simp only[List.mem_singleton] at bx;subst bx;rw[gX] at hl;simp at hl
     · refine⟨?_,?_,?_,by simp[bq],fun l hl=>⟨id,fun _=>rfl⟩⟩
       · intro l hf hu
         exfalso;apply hu
         cases l<;>simp_all[Lb.fresh,ae,Hp.none,pb,ub]
       · simp[iq,bq,bQ,put,mo]
       · have e1:(ub (.loc 15) (.loc 18) (2,eh x.attrs) (1,x.kids.map bl)) (.loc 15)=some (2,eh x.attrs):=rfl
         have e2:(ub (.loc 15) (.loc 18) (2,eh x.attrs) (1,x.kids.map bl)) (.loc 18)=some (1,x.kids.map bl):=rfl
         have e3:(ub (.loc 15) (.loc 18) (2,eh x.attrs) (1,x.kids.map bl)) (.loc 1000)=none:=rfl
         simp[jW,bq,pb,ub,ae,bX,bT,bQ,gP,mo,Em,lR,Node.aU,Node.cs,IV.b7,yZ e1 rfl,yZ e2 (List.length_map _).symm]
         exact⟨(y6 _ _).symm,List.take_of_length_le (by simp)⟩
     · rw[iu]
       simp only[↓aX,mX,reduceCtorEq,Nat.reduceEqDiff,Nat.reduceLT,Nat.reduceLeDiff,Nat.reduceAdd,Nat.reduceMul,Int.reduceToNat,Int.reduceLE,Int.reduceLT,cb,bO,Node.aU,Node.cs]
       rw[eX 5 80 25 1000 ((d.take i).map Node.iv) (.agg [.bool x.text,.str x.s,.list (eh x.attrs),.int .i64 x.parent,.list (x.kids.map bl)]) (by simp[ae]) K5 rfl x.nP (by omega) (by decide) (by decide) (by simp[ae,Hp.none])]
       simp only[↓aX,mX,reduceCtorEq,Nat.reduceEqDiff,Nat.reduceLT,Nat.reduceLeDiff,Nat.reduceAdd,Nat.reduceMul,Int.reduceToNat,Int.reduceLE,Int.reduceLT,hw]
       refine⟨⟨i+1,bz⟩,by simp only;omega,[(.loc 1000,.loc 25)],?_⟩
       refine⟨?_,?_,?_,by simp[bq],?_⟩
       · intro l hf hu
         exfalso;apply hu
         cases l<;>simp_all[Lb.fresh,ae,Hp.none]
       · simp[iq,bq,bQ,put]
       · have hr:∀xs:List IV,bX (bq [(.loc 1000,.loc 25)]) ⟨5,aG xs⟩=⟨5,aG xs⟩:=fun xs=>cr _ _ _
         simp only[jW,hr,tm]
         simp[bq,ae,bX,bT,bQ,Node.iv,Node.cs]
       · intro l hl
         simp only[List.mem_cons,List.not_mem_nil,or_false] at hl
         rcases hl with rfl|rfl|rfl
         · exact⟨fun _=>rfl,fun _=>rfl⟩
         · exact⟨fun _=>rfl,fun _=>rfl⟩
         · exact⟨fun _=>rfl,fun h=>by simp[Lb.fresh] at h⟩
   · have lC:i=d.length:=by omega
     subst lC
     rw[show decide ((d.length:Int)<(d.length:Int))=false by simp]
     simp only[↓aX,mX,reduceCtorEq,Nat.reduceEqDiff,Nat.reduceLT,Nat.reduceLeDiff,Nat.reduceAdd,Nat.reduceMul,Int.reduceToNat,Int.reduceLE,Int.reduceLT,List.take_length]
     refine⟨5,d.map Node.iv,0,d.length,[.sl (.loc 1000) 5 0 d.length],rfl,rfl,rfl,by simp,by simp,Cw _,?_⟩
     simp only[↓aX,mX,reduceCtorEq,Nat.reduceEqDiff,Nat.reduceLT,Nat.reduceLeDiff,Nat.reduceAdd,Nat.reduceMul,Int.reduceToNat,Int.reduceLE,Int.reduceLT,List.drop_zero,List.take_of_length_le (show(d.map Node.iv).length≤d.length by simp)]
     rfl
end Go.Am
