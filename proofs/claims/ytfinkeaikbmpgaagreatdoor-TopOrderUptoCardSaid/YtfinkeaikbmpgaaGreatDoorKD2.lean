import Derived.Test.YtfinkeaikbmpgaaGreatDoorKT4
import Derived.Test.YtfinkeaikbmpgaaGreatDoorKAm25
set_option linter.unusedSimpArgs false
set_option linter.unusedVariables false
set_option linter.unnecessarySimpa false
set_option linter.defProp false
/- Documents: which lists of nodes are some. -/
namespace Go.Am
open Go Go.RowKit
def wk (d:Doc):Nat→Int→Int→Int→Option Int
 |0,_,_,_=>none
 |f+1,n,p,nx=>if n=nx then match d[n.toNat]? with
   |some x=>if x.parent=p then x.kids.foldlM (fun q k=>wk d f k n q) (nx+1) else none
   |none=>none
  else none
def At {α:Type} {l:List α} {n:Nat} {x:α} {r:List α} (h:l.drop n=x::r):l[n]?=some x∧l.drop (n+1)=r:=by
 have h1:(l.drop n)[0]?=some x:=by rw[h];rfl
 refine⟨by simpa[aeD] using h1,?_⟩;have:(l.drop n).drop 1=r:=by rw[h];rfl
 rwa[afv] at this
def drop_eq {α:Type} {l:List α} {n:Nat} {x:α} (h:l[n]?=some x):l.drop n=x::l.drop (n+1):=by
 obtain⟨hn,rfl⟩:=ag6.1 h;exact aeN hn
def Jf (d:Doc):∀(f:Nat),
  (∀(m:Nat) (n p r:Int),wk d f n p m=some r→n=m∧∃x:Tree,x.dep≤f∧(∃post,d.drop m=x.flat m p++post)∧r=((m+x.fI:Nat):Int)):=by
 intro f;induction f with
 |zero=>intro m n p r h;simp[wk] at h
 |succ f ih=>
 intro m n p r h;unfold wk at h;split at h
 ·rename_i hn;subst hn;simp only[ag9] at h;cases hx:d[m]? with
  |none=>rw[hx] at h;simp at h
  |some nd=>
  rw[hx] at h;simp only at h;split at h
  ·rename_i hp;refine⟨rfl,?_⟩;have kids:∀(ks:List Int) (q:Nat) (r:Int),ks.foldlM (fun q k=>wk d f k (m:Int) q) (q:Int)=some r→∃xs:List Tree,ks=aV q xs∧lG xs≤f∧(∃post,d.drop q=eE q m xs++post)∧r=((q+bC xs:Nat):Int):=by
    intro ks;induction ks with
    |nil=>intro q r h;simp at h;subst h;exact⟨[],rfl,by simp[lG],⟨_,by simp[eE];rfl⟩,by simp[bC]⟩
    |cons k ks ZM=>
    intro q r h;rw[agw] at h;obtain⟨q',h1,h2⟩:=adx.1 h;obtain⟨rfl,x,x1,⟨post,x2⟩,rfl⟩:=ih q k m q' h1;obtain⟨xs,e1,e2,⟨ZN,e3⟩,rfl⟩:=ZM _ _ h2;refine⟨x::xs,by simp only[aV,e1],by simp only[lG];omega,⟨ZN,?_⟩,by simp only[bC,aer]⟩;have:d.drop (q+x.fI)=post:=by
     rw[←afv,x2,ae9 (by rw[x.gM];exact adw _),afM (by rw[x.gM];exact adw _)];rfl
    rw[x2,←this,e3];simp[eE]
   obtain⟨xs,e1,e2,⟨post,e3⟩,rfl⟩:=kids nd.kids (m+1) r (by simpa using h);refine⟨.mk nd.text nd.s nd.attrs xs,by simp only[Tree.dep];omega,⟨post,?_⟩,by simp only[Tree.fI];congr 1;omega⟩;rw[drop_eq hx,e3];simp only[Tree.flat,adR,aeu,agv];exact Node.ext' rfl rfl rfl hp e1
  simp at h
 simp at h
def ZO (d:Doc):∀(f:Nat) (x:Tree) (m:Nat) (p:Int),x.dep≤f→(∃post,d.drop m=x.flat m p++post)→wk d f m p m=some ((m+x.fI:Nat):Int):=by
 intro f;induction f with
 |zero=>intro x m p h;rw[x.xN] at h;omega
 |succ f ih=>
 intro x m p hd ⟨post,hx⟩;rw[x.qp] at hx;obtain⟨h1,h2⟩:=At hx;unfold wk;rw[adv rfl,ag9,h1];simp only[Tree.node,adH];have kids:∀(xs:List Tree) (q:Nat),lG xs≤f→(∃post,d.drop q=eE q m xs++post)→(aV q xs).foldlM (fun q k=>wk d f k (m:Int) q) (q:Int)=some ((q+bC xs:Nat):Int):=by
  intro xs;induction xs with
  |nil=>intro q _ _;simp[aV,bC]
  |cons y ys ZM=>
  intro q hq ⟨post,hp⟩;simp only[lG] at hq;simp only[eE,adV] at hp;simp only[aV,agw];rw[ih y q m (by omega) ⟨_,hp⟩];simp only[agi,adA];rw[ZM (q+y.fI) (by omega) ⟨post,by rw[←afv,hp,ae9 (by rw[y.gM];exact adw _),afM (by rw[y.gM];exact adw _)];rfl⟩];simp only[bC,aer]
 have abX:=x.xN;have:=kids x.kids (m+1) (by omega) ⟨post,h2⟩;rw[show((m:Int)+1)=((m+1:Nat):Int) by omega,this,x.kc];congr 2;omega
mutual
theorem Tree.Au:∀(x y:Tree) (off:Nat) (p:Int) (r r':List Node),x.flat off p++r=y.flat off p++r'→x=y
 | .mk t s as ks,.mk t' s' as' vF,off,p,r,r',h=>by
  simp only[Tree.flat,adR,aeu,Node.mk.injEq] at h;obtain⟨⟨rfl,rfl,rfl,_,hk⟩,h⟩:=h;have hl:ks.length=vF.length:=by have:=afb List.length hk;simpa[iO] using this
  rw[Cq ks vF (off+1) off r r' hl h]
theorem Cq:∀(xs ys:List Tree) (off p:Nat) (r r':List Node),xs.length=ys.length→eE off p xs++r=eE off p ys++r'→xs=ys
 |[],[],_,_,_,_,_,_=>rfl
 |[],_::_,_,_,_,_,h,_=>by simp at h
 |_::_,[],_,_,_,_,h,_=>by simp at h
 |x::xs,y::ys,off,p,r,r',hl,h=>by
  simp only[eE,adV] at h;have e:=x.Au y off p _ _ h;subst e;have:=List.append_cancel_left h;rw[Cq xs ys _ p r r' (by simpa using hl) this]
end
def KU {x y:Tree} (h:aK x=aK y):x=y:=x.Au y 0 (-1) [] [] (by simpa[aK] using h)
def jU (x:Tree):(aK x).length=x.fI:=x.gM 0 (-1)
def Av (d:Doc):Prop:=∃x:Tree,x.fZ=true∧d=aK x
open Classical in
noncomputable def cW (d:Doc):Bool:=decide (Av d)
def hZ {d:Doc}:cW d=true↔Av d:=by simp[cW]
def mc {x:Tree} (h:x.fZ=true):cW (aK x)=true:=hZ.2 ⟨x,h,rfl⟩
def rk {d:Doc} (h:¬Av d):cW d=false:=by simp[cW,h]
def oC (x:Tree):x.fZ=true↔x.text=false∧x.dep≤8∧x.fI≤80∧x.k_=true:=by
 simp only[Tree.fZ,ady,aeT,adM];constructor
 ·rintro⟨h1,h2,h3,h4⟩;exact⟨h1,by omega,by omega,h4⟩
 rintro⟨h1,h2,h3,h4⟩;exact⟨h1,by omega,by omega,h4⟩
def Wo {d:Doc} (h:wk d 8 0 (-1) 0=some (d.length:Int)):∃x:Tree,x.dep≤8∧d=aK x:=by
 obtain⟨_,x,h1,⟨post,h2⟩,h3⟩:=Jf d 8 0 0 (-1) _ h;refine⟨x,h1,?_⟩;simp only[ad1,adC] at h2 h3;have hl:post=[]:=by
  have:=afb List.length h2;rw[adE,x.gM] at this;have:x.fI=d.length:=by omega
  exact aea.1 (by omega)
 rw[h2,hl,adN];rfl
def R0 {x:Tree} (h:x.dep≤8):wk (aK x) 8 0 (-1) 0=some ((aK x).length:Int):=by
 have:=ZO (aK x) 8 x 0 (-1) h ⟨[],by simp[aK]⟩;rw[jU];simpa using this
end Go.Am

namespace Go.Am
open Go Go.RowKit
def Tree.Aw (x:Tree) (s:Bs):Tree:= .mk x.text s x.attrs x.kids
def yC (p:Bool):List Tree→Bool
 |[]=>p
 |x::r=>yC x.text r
def grow (s:Bs):List Tree→List Tree
 |[]=>[]
 |[x]=>[x.Aw (x.s++s)]
 |x::y::r=>x::grow s (y::r)
def push (out:List Tree) (x:Tree):List Tree:=
 if x.text&&x.s==[] then out else if x.text&&yC false out then grow x.s out else out++[x]
mutual
def Tree.jn:Tree→Tree
 | .mk t s as ks=> .mk t s as (me [] ks)
def me (out:List Tree):List Tree→List Tree
 |[]=>out
 |x::r=>me (push out x.jn) r
end
def jC (l:List Tree):List Tree:=me [] l
def Tree.Jg (x:Tree):x.jn= .mk x.text x.s x.attrs (jC x.kids):=by cases x;simp[Tree.jn,jC,Tree.text,Tree.s,Tree.attrs,Tree.kids]
def Tree.ux (x:Tree):x.jn.text=x.text:=by rw[x.Jg];rfl
def Tree.NO (x:Tree):x.jn.s=x.s:=by rw[x.Jg];rfl
def Tree.NP (x:Tree):x.jn.attrs=x.attrs:=by rw[x.Jg];rfl
def Tree.R1 (x:Tree):x.jn.kids=jC x.kids:=by rw[x.Jg];rfl
theorem Cr:∀(xs ys out:List Tree),me out (xs++ys)=me (me out xs) ys
 |[],ys,out=>by simp[me]
 |x::r,ys,out=>by simp[me,Cr r ys]
theorem Cs (p:Bool):∀(xs:List Tree),xs≠[]→∃y,xs[xs.length - 1]?=some y∧yC p xs=y.text
 |[],h=>absurd rfl h
 |[x],_=>⟨x,rfl,rfl⟩
 |x::y::r,_=>by
  obtain⟨z,h1,h2⟩:=Cs x.text (y::r) (by simp);exact⟨z,by simpa using h1,by simpa[yC] using h2⟩
theorem E7 (s:Bs):∀(xs:List Tree),(grow s xs).length=xs.length
 |[]=>rfl
 |[x]=>rfl
 |x::y::r=>by simp only[grow,adK,E7 s (y::r)]
theorem Jh (s:Bs):∀(xs:List Tree) (y:Tree),xs[xs.length - 1]?=some y→grow s xs=xs.set (xs.length - 1) (y.Aw (y.s++s))
 |[],y,h=>by simp at h
 |[x],y,h=>by simp at h;subst h;rfl
 |x::z::r,y,h=>by
  have:=Jh s (z::r) y (by simpa using h);simp only[grow,this];simp
theorem E8 (s:Bs):∀(xs:List Tree),er (grow s xs)≤er xs+s.length
 |[]=>by simp[grow,er]
 |[x]=>by cases x;simp[grow,er,Tree.Aw,Tree.wt,Tree.text,Tree.s,Tree.attrs,Tree.kids];omega
 |x::y::r=>by have:=E8 s (y::r);simp only[grow,er] at this ⊢;omega
def NQ (out:List Tree) (x:Tree):er (push out x)≤er out+x.wt:=by
 unfold push;split
 ·omega
 split
 ·have:=E8 x.s out;have:=x.kZ;omega
 rw[jL];simp[er]
mutual
theorem Tree.ZQ:∀x:Tree,x.jn.wt≤x.wt
 | .mk t s as ks=>by have:=uy [] ks;simp only[Tree.jn,Tree.wt,er] at this ⊢;omega
theorem uy:∀(out l:List Tree),er (me out l)≤er out+er l
 |out,[]=>by simp[me,er]
 |out,x::r=>by
  have:=uy (push out x.jn) r;have:=NQ out x.jn;have:=x.ZQ;simp only[me,er];omega
end
def Hl (l:List Tree):er (jC l)≤er l:=by have:=uy [] l;simp only[er] at this;unfold jC;omega

def od (bP:Nat):AC:=
(ay [oQ 2] (ay [oQ 3] (.gh (.own 3 4) (.seq (ay [af 7 0,ky 8 7,eX 9 0] (.block 0 (.loop (ay [eS 10 .lss 9 8] (.seq (.cond (.t 10) .skip (.exit 0)) (.seq (.block 1 (ay [ig 11 7 9 4,gd 12 4 11,aE 5 (.new [(.bool false),(.str []),.nil0,.nil0]),dT (.store 4 (.t 5) (.t 12))] (ay [b7 13 5 3,cS 14 13,aE 15 (.call bP [(.t 14)]),b7 16 5 3,dT (.store 1 (.t 16) (.t 15))] (ay [af 17 3,ky 18 17,af 6 18] (.block 2 (ay [b7 24 5 0,cS 25 24,af 26 25,iu 27 26 5 1,ir 28 26 27,eP 29 26 (.bin .eql (.t 28) (.c (.str []))),l7 30 26 29,af 23 30] (.cond (.t 23) .skip (ay [b7 32 5 0,cS 33 32,af 34 33,eJ 35 34 6,eP 36 34 (.bin .gtr (.t 35) (ij 0)),l7 37 34 36,af 38 37,eJ 39 38 3,eJ 40 38 6,eP 41 38 (.bin .sub (.t 40) (ij 1)),eP 42 38 (.Dg (.t 39) (.t 41) 4),iu 43 38 42 0,ir 44 38 43,l7 45 38 44,af 31 45] (.cond (.t 31) (.fg [af 46 3,af 47 6,db 48 .sub 47 1,ig 49 46 48 4,b7 50 49 1,cS 51 50,b7 52 5 1,cS 53 52,eS 54 .add 51 53,ig 55 46 48 4,b7 56 55 1,dT (.store 1 (.t 56) (.t 54))] [[],[],[1],[0,2],[3],[4],[],[6],[5,7],[0,2,0,1,2,3,4,5,6,7,8],[9,0,1,2,3,4,5,6,7,8],[10,8,0,1,2,3,4,5,6,7,8]] [.no,.no,.no,.no,.no,(.rw [.loc 3] []),.no,.rw [.loc 5] [],.no,.no,.no,(.rw [] [.loc 3])]) (.ec [af 19 3,gd 20 4 5,aE 21 (.lits 1 4 [(.bool false),(.str []),.nil0,.nil0] [(0,(.t 20))]),aE 22 (.app (.t 19) (.t 21) 4 72),af 3 22])))))))))) (.ec [db 57 .add 9 1,af 9 57]))))))) (ay [af 58 3,af 2 58] (.gh (.Ch (.loc 3) 2) .ret))))))
def Tree.ZR (x:Tree):x.cs.map IV.gK=[.bool x.text,.str x.s,.list (dA x.attrs),.list (eR x.kids)]:=rfl
def R4 {P:Program} {G:Nat→Option (List IV)} {bP:Nat} (hF:an P G bP=some (59,[(none,2)],(od bP).bare)) (l:List Tree) (hx:er l≤B)
  (hJ:∀x∈l,aw P G bP [.list (eR x.kids)] (.list (eR (jC x.kids)))):aw P G bP [.list (eR l)] (.list (eR (jC l))):=by
 refine aM hF (by simp) (by simp[ah,AV.aB]) (by simp[AV.aB]) ?_;have hl:=jr l;unfold od;simp only[↓aX,mX,reduceCtorEq,Nat.reduceEqDiff,Nat.reduceLT,Nat.reduceLeDiff,Nat.reduceAdd,Nat.reduceMul,Int.reduceToNat,Int.reduceLE,Int.reduceLT,bx];refine Nz (σ:={i:Nat // i≤l.length}) 3 4 (fun q=>[(7,.list (eR l)),(8,.int .i64 l.length),(9,.int .i64 q.1)]) (fun q=>eR (me [] (l.take q.1))) (fun q=>l.length - q.1) ⟨0,by simp⟩ (fun _=>rfl) ?_ ?_
 ·simp only[TT,↓aX,mX,reduceCtorEq,Nat.reduceEqDiff,Nat.reduceLT,Nat.reduceLeDiff,Nat.reduceAdd,Nat.reduceMul,Int.reduceToNat,Int.reduceLE,Int.reduceLT];exact⟨rfl,3,[],rfl,rfl,rfl⟩
 rintro⟨i,hi⟩;have GK:=uy [] (l.take i);have oU:=k9 l i;have BQ:=jr (me [] (l.take i));simp only[er] at GK;simp only[↓aX,mX,reduceCtorEq,Nat.reduceEqDiff,Nat.reduceLT,Nat.reduceLeDiff,Nat.reduceAdd,Nat.reduceMul,Int.reduceToNat,Int.reduceLE,Int.reduceLT,bx];refine qG (fun h=> ?_) (fun h=> ?_)
 ·have bO:i<l.length:=by simpa using h
  obtain⟨x,Qv⟩:∃x,l[i]?=some x:=⟨_,ag7 bO⟩;have hw:IntKind.i64.wrap ((i:Int)+1)=((i+1:Nat):Int):=wrap64 (by omega) (by unfold B at hx;omega);have o4:me [] (l.take (i+1))=push (me [] (l.take i)) x.jn:=by rw[aei,Qv,Cr];rfl
  simp only[↓aX,mX,reduceCtorEq,Nat.reduceEqDiff,Nat.reduceLT,Nat.reduceLeDiff,Nat.reduceAdd,Nat.reduceMul,Int.reduceToNat,Int.reduceLE,Int.reduceLT,h,hw,ml,Qv,tj,Tree.bw,Tree.cs];generalize ac_:me [] (l.take i)=out at *;refine aq (hJ x (adu Qv)) ?_;have hlen:(eR out).length=out.length:=bx _;have Wq:eR (out++[x.jn])=eR out++[.agg [.bool x.text,.str x.s,.list (dA x.attrs),.list (eR (jC x.kids))]]:=by
   rw[DF];simp[eR,Tree.Cl,Tree.cs,x.ux,x.NO,x.NP,x.R1]
  have next:∀(R5:List Tree) (env:Env) (H:Hp) (n:Nat),push out x.jn=R5→NF H→env 7= .list (eR l)→env 8= .int .i64 l.length→env 9= .int .i64 ((i+1:Nat):Int)→env 3= .sl (.loc n) 4 0 R5.length→H (.loc n)= .live ⟨4,ar (eR R5)⟩ →
    ∃s:{i:Nat // i≤l.length},l.length - s.1<l.length - i∧WR 3 4 (fun q:{i:Nat // i≤l.length}=>[(7,.list (eR l)),(8,.int .i64 l.length),(9,.int .i64 q.1)]) (fun q=>eR (me [] (l.take q.1))) env H s:=by
   intro R5 env H n h1 h2 h3 h4 h5 h6 h7;refine⟨⟨i+1,bO⟩,by simp only;omega,?_⟩;rw[TT];simp only[EZ,I_,agv,o4,h1,bx];exact⟨h2,⟨h3,h4,h5⟩,n,_,h6,h7,rfl⟩
  simp only[↓aX,mX,reduceCtorEq,Nat.reduceEqDiff,Nat.reduceLT,Nat.reduceLeDiff,Nat.reduceAdd,Nat.reduceMul,Int.reduceToNat,Int.reduceLE,Int.reduceLT,bx];cases ht:x.text with
  |false=>
   have hp:push out x.jn=out++[x.jn]:=(by unfold push;rw[x.ux,ht];simp);simp only[↓aX,mX,reduceCtorEq,Nat.reduceEqDiff,Nat.reduceLT,Nat.reduceLeDiff,Nat.reduceAdd,Nat.reduceMul,Int.reduceToNat,Int.reduceLE,Int.reduceLT,bx];rw[gU 4 72 22 3 (eR out) (.agg [.bool false,.str x.s,.list (dA x.attrs),.list (eR (jC x.kids))]) (by simp[ae]) hlen rfl (by simp[IV.cells]) (by unfold B at hx;omega) (by decide) (by decide) (by simp[ae,Hp.none])];simp only[↓aX,mX,reduceCtorEq,Nat.reduceEqDiff,Nat.reduceLT,Nat.reduceLeDiff,Nat.reduceAdd,Nat.reduceMul,Int.reduceToNat,Int.reduceLE,Int.reduceLT,hw];refine next _ _ _ 22 hp (by simp only[↓aX,mX,reduceCtorEq,Nat.reduceEqDiff,Nat.reduceLT,Nat.reduceLeDiff,Nat.reduceAdd,Nat.reduceMul,Int.reduceToNat,Int.reduceLE,Int.reduceLT]) rfl rfl rfl (by simp only[↓aX,mX,reduceCtorEq,Nat.reduceEqDiff,Nat.reduceLT,Nat.reduceLeDiff,Nat.reduceAdd,Nat.reduceMul,Int.reduceToNat,Int.reduceLE,Int.reduceLT];simp) ?_
   rw[Wq,ht];simp only[↓aX,mX,reduceCtorEq,Nat.reduceEqDiff,Nat.reduceLT,Nat.reduceLeDiff,Nat.reduceAdd,Nat.reduceMul,Int.reduceToNat,Int.reduceLE,Int.reduceLT]
  |true=>
  simp only[↓aX,mX,reduceCtorEq,Nat.reduceEqDiff,Nat.reduceLT,Nat.reduceLeDiff,Nat.reduceAdd,Nat.reduceMul,Int.reduceToNat,Int.reduceLE,Int.reduceLT,bx];cases hs:(x.s==[]) with
  |true=>
   have hp:push out x.jn=out:=(by unfold push;rw[x.ux,ht,x.NO,hs];rfl);simp only[↓aX,mX,reduceCtorEq,Nat.reduceEqDiff,Nat.reduceLT,Nat.reduceLeDiff,Nat.reduceAdd,Nat.reduceMul,Int.reduceToNat,Int.reduceLE,Int.reduceLT,hw];exact next _ _ _ 3 hp (by simp only[↓aX,mX,reduceCtorEq,Nat.reduceEqDiff,Nat.reduceLT,Nat.reduceLeDiff,Nat.reduceAdd,Nat.reduceMul,Int.reduceToNat,Int.reduceLE,Int.reduceLT]) rfl rfl rfl (by simp only[↓aX,mX,reduceCtorEq,Nat.reduceEqDiff,Nat.reduceLT,Nat.reduceLeDiff,Nat.reduceAdd,Nat.reduceMul,Int.reduceToNat,Int.reduceLE,Int.reduceLT,bx]) rfl
  |false=>
  simp only[↓aX,mX,reduceCtorEq,Nat.reduceEqDiff,Nat.reduceLT,Nat.reduceLeDiff,Nat.reduceAdd,Nat.reduceMul,Int.reduceToNat,Int.reduceLE,Int.reduceLT];by_cases h0:out=[]
  ·have hp:push out x.jn=out++[x.jn]:=(by unfold push;rw[x.ux,ht,x.NO,hs,h0];rfl);rw[show decide ((out.length:Int)>0)=false by rw[h0];rfl];simp only[↓aX,mX,reduceCtorEq,Nat.reduceEqDiff,Nat.reduceLT,Nat.reduceLeDiff,Nat.reduceAdd,Nat.reduceMul,Int.reduceToNat,Int.reduceLE,Int.reduceLT,bx];rw[gU 4 72 22 3 (eR out) (.agg [.bool true,.str x.s,.list (dA x.attrs),.list (eR (jC x.kids))]) (by simp[ae]) hlen rfl (by simp[IV.cells]) (by unfold B at hx;omega) (by decide) (by decide) (by simp[ae,Hp.none])];simp only[↓aX,mX,reduceCtorEq,Nat.reduceEqDiff,Nat.reduceLT,Nat.reduceLeDiff,Nat.reduceAdd,Nat.reduceMul,Int.reduceToNat,Int.reduceLE,Int.reduceLT,hw];refine next _ _ _ 22 hp (by simp only[↓aX,mX,reduceCtorEq,Nat.reduceEqDiff,Nat.reduceLT,Nat.reduceLeDiff,Nat.reduceAdd,Nat.reduceMul,Int.reduceToNat,Int.reduceLE,Int.reduceLT]) rfl rfl rfl (by simp only[↓aX,mX,reduceCtorEq,Nat.reduceEqDiff,Nat.reduceLT,Nat.reduceLeDiff,Nat.reduceAdd,Nat.reduceMul,Int.reduceToNat,Int.reduceLE,Int.reduceLT];simp) ?_
   rw[Wq,ht];simp only[↓aX,mX,reduceCtorEq,Nat.reduceEqDiff,Nat.reduceLT,Nat.reduceLeDiff,Nat.reduceAdd,Nat.reduceMul,Int.reduceToNat,Int.reduceLE,Int.reduceLT]
  have M8:0<out.length:=afs.2 h0;obtain⟨y,hy,TY⟩:=Cs false out h0;have BR:IntKind.i64.wrap ((out.length:Int) - 1)=((out.length - 1:Nat):Int):=by rw[wrap64 (by omega) (by unfold B at hx;omega)];omega
  have dO:(ar (eR out))[out.length - 1]?=some [.bool y.text,.str y.s,.list (dA y.attrs),.list (eR y.kids)]:=by rw[wI,ml,hy];simp[Tree.bw,Tree.cs,IV.gK]
  have lA:out.length - 1<out.length:=by omega
  rw[show decide ((out.length:Int)>0)=true by simp;exact M8];simp only[↓aX,mX,reduceCtorEq,Nat.reduceEqDiff,Nat.reduceLT,Nat.reduceLeDiff,Nat.reduceAdd,Nat.reduceMul,Int.reduceToNat,Int.reduceLE,Int.reduceLT,BR,lA,dO,bx];cases ZS:y.text with
  |false=>
   have hp:push out x.jn=out++[x.jn]:=(by unfold push;rw[x.ux,ht,x.NO,hs,TY,ZS];rfl);simp only[↓aX,mX,reduceCtorEq,Nat.reduceEqDiff,Nat.reduceLT,Nat.reduceLeDiff,Nat.reduceAdd,Nat.reduceMul,Int.reduceToNat,Int.reduceLE,Int.reduceLT,bx];rw[gU 4 72 22 3 (eR out) (.agg [.bool true,.str x.s,.list (dA x.attrs),.list (eR (jC x.kids))]) (by simp[ae]) hlen rfl (by simp[IV.cells]) (by unfold B at hx;omega) (by decide) (by decide) (by simp[ae,Hp.none])];simp only[↓aX,mX,reduceCtorEq,Nat.reduceEqDiff,Nat.reduceLT,Nat.reduceLeDiff,Nat.reduceAdd,Nat.reduceMul,Int.reduceToNat,Int.reduceLE,Int.reduceLT,hw];refine next _ _ _ 22 hp (by simp only[↓aX,mX,reduceCtorEq,Nat.reduceEqDiff,Nat.reduceLT,Nat.reduceLeDiff,Nat.reduceAdd,Nat.reduceMul,Int.reduceToNat,Int.reduceLE,Int.reduceLT]) rfl rfl rfl (by simp only[↓aX,mX,reduceCtorEq,Nat.reduceEqDiff,Nat.reduceLT,Nat.reduceLeDiff,Nat.reduceAdd,Nat.reduceMul,Int.reduceToNat,Int.reduceLE,Int.reduceLT];simp) ?_
   rw[Wq,ht];simp only[↓aX,mX,reduceCtorEq,Nat.reduceEqDiff,Nat.reduceLT,Nat.reduceLeDiff,Nat.reduceAdd,Nat.reduceMul,Int.reduceToNat,Int.reduceLE,Int.reduceLT]
  |true=>
  have hp:push out x.jn=grow x.s out:=by unfold push;rw[x.ux,ht,x.NO,hs,TY,ZS];rfl
  have hg:=Jh x.s out y hy;simp only[↓aX,mX,reduceCtorEq,Nat.reduceEqDiff,Nat.reduceLT,Nat.reduceLeDiff,Nat.reduceAdd,Nat.reduceMul,Int.reduceToNat,Int.reduceLE,Int.reduceLT,BR,lA,dO,bx,ZS];refine⟨rfl,?_⟩;have abY:y.s.length+x.s.length≤9223372036854775807:=by
   have h1:=o8 _ _ _ hy;have h2:=y.kZ;have h3:=o8 _ _ _ Qv;have h4:=x.kZ;unfold B at hx;omega
  simp only[↓aX,mX,reduceCtorEq,Nat.reduceEqDiff,Nat.reduceLT,Nat.reduceLeDiff,Nat.reduceAdd,Nat.reduceMul,Int.reduceToNat,Int.reduceLE,Int.reduceLT,abY,BR,lA,dO,bx,ZS,dw,hw];refine next (grow x.s out) _ _ 3 hp (by simp only[↓aX,mX,reduceCtorEq,Nat.reduceEqDiff,Nat.reduceLT,Nat.reduceLeDiff,Nat.reduceAdd,Nat.reduceMul,Int.reduceToNat,Int.reduceLE,Int.reduceLT]) rfl rfl rfl (by simp only[↓aX,mX,reduceCtorEq,Nat.reduceEqDiff,Nat.reduceLT,Nat.reduceLeDiff,Nat.reduceAdd,Nat.reduceMul,Int.reduceToNat,Int.reduceLE,Int.reduceLT,bx,E7]) ?_
  have hiv:(y.Aw (y.s++x.s)).iv.cells.map IV.gK=[.bool true,.str (y.s++x.s),.list (dA y.attrs),.list (eR y.kids)]:=by
   rw[Tree.bw,Tree.ZR];simp[Tree.Aw,Tree.text,Tree.s,Tree.attrs,Tree.kids];rw[←ZS];rfl
  simp only[↓aX,mX,reduceCtorEq,Nat.reduceEqDiff,Nat.reduceLT,Nat.reduceLeDiff,Nat.reduceAdd,Nat.reduceMul,Int.reduceToNat,Int.reduceLE,Int.reduceLT];have oV:eR (out.set (out.length - 1) (y.Aw (y.s++x.s)))=(eR out).set (out.length - 1) (y.Aw (y.s++x.s)).iv:=by rw[ob,ob,af2]
  rw[hg,oV,←th,hiv]
 simp only[↓aX,mX,reduceCtorEq,Nat.reduceEqDiff,Nat.reduceLT,Nat.reduceLeDiff,Nat.reduceAdd,Nat.reduceMul,Int.reduceToNat,Int.reduceLE,Int.reduceLT,h];refine⟨4,eR (me [] (l.take i)),0,_,rfl,rfl,by rw[bx];omega,Cm _,?_⟩;have qV:i=l.length:=by simp at h;omega
 subst qV;simp only[jC,aee,ad1,bx];congr 1;exact ads (by rw[bx];exact adw _)

def iP {α:Type} {l:List α} {i:Nat} {x:α} (h:l[i]?=some x):l.take (i+1)=l.take i++[x]:=by rw[aei,h];rfl

def KW {M:List Tree→Prop} (step:∀l,(∀x∈l,M x.kids)→M l):∀l,M l:=by
 have key:∀(n:Nat) (l:List Tree),er l≤n→M l:=by
  intro n;induction n with
  |zero=>
   intro l hn;refine step l fun x hx=> ?_;obtain⟨i,hi⟩:=aeh hx;have:=o8 l i x hi;have:=x.kZ;omega
  |succ n ih=>
  intro l hn;refine step l fun x hx=>ih _ ?_;obtain⟨i,hi⟩:=aeh hx;have:=o8 l i x hi;have:=x.kZ;omega
 exact fun l=>key _ l (adw _)
def xR {l:List Tree} {x:Tree} (h:x∈l):x.wt≤er l:=by
 obtain⟨i,hi⟩:=aeh h;exact o8 l i x hi
def wJ (x:Tree):er x.kids≤x.wt:=by have:=x.kZ;omega
def ZT (x:Tree):x.s.length≤x.wt:=by have:=x.kZ;omega
def tm (x:Tree):j0 x.attrs≤x.wt:=by have:=x.kZ;omega
theorem wK:∀{l:List Attr} {a:Attr},a∈l→a.wt≤j0 l
 |[],a,h=>by simp at h
 |b::r,a,h=>by
  simp only[adz] at h;rcases h with rfl|h
  ·simp[j0]
  have:=wK h;simp only[j0];omega
section
variable {P:Program} {G:Nat→Option (List IV)}
def R6 {bP:Nat} (hF:an P G bP=some (59,[(none,2)],(od bP).bare)) (l:List Tree):er l≤B→aw P G bP [.list (eR l)] (.list (eR (jC l))):=
 KW (M:=fun l=>er l≤B→aw P G bP [.list (eR l)] (.list (eR (jC l)))) (fun l h hB=>R4 hF l hB fun x hx=>h x hx (by have:=xR hx;have:=wJ x;omega)) l
def TZ {g:Nat} (hF:an P G g=some (32,[(none,2),(none,3)],(E5 g).bare)):∀x:Tree,x.wt≤B→aw P G g [x.av] (.dM [.int .i64 x.dep,.int .i64 x.fI]):=by
 have key:=KW (M:=fun l=>∀x∈l,x.wt≤B→aw P G g [x.av] (.dM [.int .i64 x.dep,.int .i64 x.fI])) (fun l h x hx hB=>ZG hF x hB fun k hk=>h x hx k hk (by have:=xR hk;have:=wJ x;omega));exact fun x=>key [x] x (by simp)
def Hm {fP fN Qu fF Mv:Nat} (hP:an P G fP=some (29,[(none,2)],xJ.bare)) (hN:an P G fN=some (28,[(none,2)],xL.bare)) (hA:an P G Qu=some (41,[(none,2)],(nU fN fP).bare))
  (hF:an P G fF=some (38,[(none,2)],(Cn fP fN Qu Mv).bare)) (Wg:an P G Mv=some (32,[(none,2)],(xO fF).bare)) (l:List Tree):er l≤B→aw P G Mv [.list (eR l)] (.bool (iD none l)):=by
 refine KW (M:=fun l=>er l≤B→aw P G Mv [.list (eR l)] (.bool (iD none l))) (fun l h hB=>Wh Wg l (by have:=jr l;omega) fun x hx=> ?_) l;have h1:=xR hx;have h2:=wJ x;have h3:=ZT x;have h4:=tm x;have h5:=oc x.attrs;refine TV hF x (xK hP _ (by omega)) (xM hN _ (by omega)) (Al hA _ (by omega) (fun a ha=>xM hN _ ?_) (fun a ha=>xK hP _ ?_)) (h x hx (by omega))
 ·have:=wK ha;unfold Attr.wt at this;omega
 have:=wK ha;unfold Attr.wt at this;omega
def T0 {fP fN Qu fF Mv:Nat} (hP:an P G fP=some (29,[(none,2)],xJ.bare)) (hN:an P G fN=some (28,[(none,2)],xL.bare)) (hA:an P G Qu=some (41,[(none,2)],(nU fN fP).bare))
  (hF:an P G fF=some (38,[(none,2)],(Cn fP fN Qu Mv).bare)) (Wg:an P G Mv=some (32,[(none,2)],(xO fF).bare)) (x:Tree) (hB:x.wt≤B):aw P G fF [x.av] (.bool x.k_):=by
 have h2:=wJ x;have h3:=ZT x;have h4:=tm x;have h5:=oc x.attrs;refine TV hF x (xK hP _ (by omega)) (xM hN _ (by omega)) (Al hA _ (by omega) (fun a ha=>xM hN _ ?_) (fun a ha=>xK hP _ ?_)) (Hm hP hN hA hF Wg _ (by omega))
 ·have:=wK ha;unfold Attr.wt at this;omega
 have:=wK ha;unfold Attr.wt at this;omega
end

def uz (ai gA:Nat):AC:=
(ay [oN 4 1,eX 6 0] (ay [af 11 0,aE 12 (.dc (.t 11)),b7 13 12 0,cS 14 13,ky 15 14,af 7 15] (.seq (.fg [af 16 0,af 17 0,aE 18 (.dc (.t 17)),b7 19 18 0,cS 20 19,b7 21 4 0,cS 22 21,b7 23 4 1,cS 24 23,b7 25 4 2,cS 26 25,aE 27 (.call ai [(.t 26)]),af 28 2,aE 29 (.oa [(.bool false),(.str []),.nil0,(.int .i64 0),.nil0] [(0,(1,(.t 22))),(1,(1,(.t 24))),(2,(1,(.t 27))),(3,(1,(.t 28)))]),aE 30 (.lits 1 5 [(.bool false),(.str []),.nil0,(.int .i64 0),.nil0] [(0,(.t 29))]),aE 31 (.app (.t 20) (.t 30) 5 80),aE 32 (.dc (.t 16)),b7 33 32 0,dT (.store 1 (.t 33) (.t 31))] [[],[],[1],[2],[3],[],[5],[],[7],[],[9],[10],[],[6,8,11,12],[13],[4,14,11],[0,0,1,2,3,4,5,6,7,8,9,10,11,12,13,14,15],[16,0,1,2,3,4,5,6,7,8,9,10,11,12,13,14,15],[17,15,15,0,1,2,3,4,5,6,7,8,9,10,11,12,13,14,15]] [.no,.no,.no,.no,(.rw [.par 0] []),.no,.rw [.loc 4] [],.no,.rw [.loc 4] [],.no,.rw [.loc 4] [],.no,.no,.no,.no,(.rw [] [.par 1,.gen 31,.loc 31]),.no,.no,(.rw [] [.par 0])]) (ay [oQ 8] (.gh (.own 8 1) (.seq (ay [b7 34 4 3,cS 35 34,ky 36 35,eX 37 0] (.block 0 (.loop (ay [eS 38 .lss 37 36] (.seq (.cond (.t 38) .skip (.exit 0)) (.seq (.block 1 (ay [ig 39 35 37 4,gd 40 4 39,aE 10 (.new [(.bool false),(.str []),.nil0,.nil0]),dT (.store 4 (.t 10) (.t 40))] (.ec [af 41 8,af 42 0,gd 43 4 10,af 44 7,aE 45 (.call gA [(.t 42),(.t 43),(.t 44)]),aE 46 (.lits 1 1 [(.int .i64 0)] [(0,(.t 45))]),aE 47 (.app (.t 41) (.t 46) 1 8),af 8 47]))) (.ec [db 48 .add 37 1,af 37 48]))))))) (.gh (.Ch (.loc 8) 8) (ay [af 49 0,aE 50 (.dc (.t 49)),b7 51 50 0,cS 52 51,af 53 7,af 54 8,ig 55 52 53 5,b7 56 55 4,dT (.store 1 (.t 56) (.t 54))] (ay [af 57 7,af 6 57] .ret)))))))))
def Tree.Ji (x:Tree) (p:Int):Node:=⟨x.text,x.s,x.attrs,p,[]⟩
def kO (d:Doc) (x:Tree) (p:Int) (i:Nat):Doc:=d++[x.Ji p]++eE (d.length+1) d.length (x.kids.take i)
def pN (d:Doc) (x:Tree) (p:Int) (i:Nat):(kO d x p i).length=d.length+1+bC (x.kids.take i):=by simp[kO,mL];omega
def Ct {d:Doc} {x:Tree} {p:Int} {i:Nat} {k:Tree} (h:x.kids[i]?=some k):kO d x p (i+1)=kO d x p i++k.flat (kO d x p i).length d.length:=by
 rw[pN];unfold kO;rw[aei,h,pk];simp[eE]
structure KX (x:Tree) where
 i:Nat
 L:Lb
 u:Lb→Bool
 hi:i≤x.kids.length
 l0:L≠ .par 0
 l8:L≠ .loc 8
 l10:L≠ .loc 10
 T1:L≠ .loc 47
 lg:∀j,i≤j→L≠ .gen (1000+j)
 T2:u (.loc 10)=false
 T3:u (.loc 47)=false
 ug:∀j,i≤j→u (.gen (1000+j))=false
def oD {x:Tree} (q:KX x):List Lb:=[.par 0,q.L,.loc 8]
def qq (d:Doc) {x:Tree} (q:KX x):List (Nat×AV):=
 [(0,.ptr (.par 0) 1 0 0),(7,.int .i64 d.length),(8,.sl (.loc 8) 1 0 (aV (d.length+1) (x.kids.take q.i)).length),(35,.list (eR x.kids)),(36,.int .i64 x.kids.length),(37,.int .i64 q.i)]
def gR (d:Doc) (p:Int) {x:Tree} (q:KX x):List (Lb×Row):=
 [(.par 0,⟨1,[[.sl q.L 5 0 (kO d x p q.i).length]]⟩),(q.L,⟨5,ar ((kO d x p q.i).map Node.iv)⟩),(.loc 8,⟨1,ar ((aV (d.length+1) (x.kids.take q.i)).map aW)⟩)]
def Cu {x:Tree} (d:Doc) (p:Int) (q:KX x):∀r∈gR d p q,∀cs∈r.2.els,∀l∈ah cs,l∈oD q:=by
 intro r hr cs bS l hl;simp only[gR,adz,adG,adO] at hr;rcases hr with rfl|rfl|rfl
 ·simp only[adr] at bS;subst bS;simp only[ah,AV.aB,adN,adr] at hl;subst hl;simp[oD]
 ·rw[bT bS] at hl;simp at hl
 rw[bT bS] at hl;simp at hl
def abZ {P:Program} {G:Nat→Option (List IV)} {gA ai:Nat} (hF:an P G gA=some (58,[(none,6)],(uz ai gA).bare)) (x:Tree) (d:Doc) (p:Int) (hx:d.length+x.wt≤B)
  (hC:aw P G ai [.list (dA x.attrs)] (.list (dA x.attrs)))
  (hK:∀k∈x.kids,∀(d':Doc),d'.length+k.wt≤d.length+x.wt→KR P G 5 gA [.ptr (.par 0) 1 0 0,k.av,.int .i64 d.length] (d'.map Node.iv) (.int .i64 d'.length) ((d'++k.flat d'.length d.length).map Node.iv)) :
  KR P G 5 gA [.ptr (.par 0) 1 0 0,x.av,.int .i64 p] (d.map Node.iv) (.int .i64 d.length) ((d++x.flat d.length p).map Node.iv):=by
 refine⟨by simp[ah,AV.aB,Tree.av],rfl,fun b hb=> ?_⟩;refine jB hF (by simp) ?_ ?_ ?_
 ·rintro l ⟨r,h⟩;rcases ke h with⟨rfl,_⟩|⟨_,rfl,_⟩<;>rfl
 ·intro l hl;simp[ah,AV.aB,Tree.av] at hl;subst hl;cases b<;>simp[oB]
 have hlB:d.length≤B:=by omega
 have hwx:=x.kZ;have G4:=jr x.kids;unfold uz;have yD:(x.Ji p).iv= .agg [.bool x.text,.str x.s,.list (dA x.attrs),.int .i64 p,.list []]:=rfl;cases b with
 |true=>
  simp only[↓aX,mX,seval,oB,Tree.av,ag5];refine⟨rfl,gJ hC ?_⟩;simp only[↓aX,mX,seval];rw[RY 5 80 31 (.par 1) (d.map Node.iv) (.agg [.bool x.text,.str x.s,.list (dA x.attrs),.int .i64 p,.list []]) rfl (by simp[ae]) (by simp) rfl (by simp[IV.cells]) (by unfold B at hlB;omega) (by decide) (by simp) (by simp[ae,Hp.none])];simp only[↓aX,mX,seval,bx];refine⟨by rintro l (rfl|rfl)<;>simp[Lb.kQ],?_⟩;refine jj (σ:=KX x) oD (fun q=>q.u) (qq d) (gR d p) (fun q=>x.kids.length - q.i)
   {i:=0,L:= .gen 31,u:=fun q=>decide (q= .par 1),hi:=ad3 _,l0:=by simp,l8:=by simp,l10:=by simp,T1:=by simp,lg:=fun j _=>by simp;omega,T2:=by simp,T3:=by simp,ug:=fun j _=>by simp}
   (fun _=>rfl) (fun q=>by simp[ah,AV.aB,qq,oD]) (Cu d p) ⟨[],?_⟩ ?_
  ·refine⟨?_,?_,?_,by simp[oD,bZ],fun l _=>⟨id,fun _=>rfl⟩⟩
   ·intro l hf hu;by_cases e0:l= .par 0
    ·subst e0;simp[oD]
    by_cases e1:l= .gen 31
    ·subst e1;simp[oD]
    by_cases e2:l= .par 1
    ·subst e2;simp
    exfalso;apply hu;cases l<;>simp_all[Lb.fresh,ae,Hp.none]
   ·simp[qq,kv,bZ,e7,aV,put,lE]
   simp[gR,qe,bZ,ae,cV,aY,e7,kO,eE,aV,ar,Node.iv,Node.cs,Tree.Ji,IV.cells,IV.gK,pJ]
  intro q;have a0:fy q.u (gR d p q) (.par 0)= .live ⟨1,[[.sl q.L 5 0 (kO d x p q.i).length]]⟩:=by simp[fy,gR,kx,bF]
  have aL:fy q.u (gR d p q) q.L= .live ⟨5,ar ((kO d x p q.i).map Node.iv)⟩:=by simp[fy,gR,kx,bF,q.l0]
  have a8:fy q.u (gR d p q) (.loc 8)= .live ⟨1,ar ((aV (d.length+1) (x.kids.take q.i)).map aW)⟩:=by simp[fy,gR,kx,bF,aef q.l8]
  have Wr:fy q.u (gR d p q) (.loc 10)= .unused:=by simp[fy,gR,kx,bF,aef q.l10,q.T2,Hp.none]
  have ZU:fy q.u (gR d p q) (.loc 47)= .unused:=by simp[fy,gR,kx,bF,aef q.T1,q.T3,Hp.none]
  have ag:fy q.u (gR d p q) (.gen (1000+q.i))= .unused:=by simp[fy,gR,kx,bF,aef (q.lg q.i (adw _)),q.ug q.i (adw _),Hp.none]
  have Ws:∀l:Lb,l.fresh=false→fy q.u (gR d p q) l≠ .unused→l= .par 0∨l=q.L∨q.u l=true:=by
   intro l hf hu;by_cases e0:l= .par 0
   ·exact .inl e0
   by_cases e1:l=q.L
   ·exact .inr (.inl e1)
   by_cases e2:q.u l=true
   ·exact .inr (.inr e2)
   exfalso;apply hu;have e3:l≠ .loc 8:=(by rintro rfl;simp[Lb.fresh] at hf);simp[fy,gR,kx,bF,e0,e1,e2,e3,Hp.none]
  have rH:ah ((qq d q).map Prod.snd)=[.par 0,.loc 8]:=by simp[ah,AV.aB,qq]
  generalize fy q.u (gR d p q)=H0 at *;have Hn:=q.l10;have T4:=q.l8;have Ho:=q.T1;have hi:=q.hi;have BF:(aV (d.length+1) (x.kids.take q.i)).length=q.i:=by rw[iO,adP];omega
  have ZV:=o9 (x.kids.take q.i);have hwt:=k9 x.kids q.i;simp only[↓aX,mX,seval,qq];refine qG (fun h=> ?_) (fun h=> ?_)
  ·have bO:q.i<x.kids.length:=(by simpa using h);obtain⟨k,vo⟩:∃k,x.kids[q.i]?=some k:=⟨_,ag7 bO⟩;have hw:IntKind.i64.wrap ((q.i:Int)+1)=((q.i+1:Nat):Int):=wrap64 (by omega) (by unfold B at hx;omega);have s4:x.kids.take (q.i+1)=x.kids.take q.i++[k]:=iP vo;have Mw:er (x.kids.take q.i)+k.wt≤er x.kids:=by
    have:=k9 x.kids (q.i+1);rw[s4,jL] at this;simp only[er] at this;omega
   simp only[↓aX,mX,seval,ml,vo,tj,Tree.bw,Tree.cs,Wr];refine xP (l:= .par 0) (N:= .gen (1000+q.i)) (o:=some q.L) (hK k (adu vo) (kO d x p q.i) (by rw[pN];omega)) rfl ⟨q.l0,by simp only[↓aX,mX,seval,a0,ag5],by simp only[↓aX,mX,seval,aL,ag8 Hn]⟩ (by simp only[↓aX,mX,seval,ag]) (by intro h;simp[Lb.fresh] at h) ?_;rintro L' m_ KY ⟨b1,b2,b3⟩ fH vq;have c8:m_ (.loc 8)= .live ⟨1,ar ((aV (d.length+1) (x.kids.take q.i)).map aW)⟩:=by
    rw[fH _ (by simp) (by simp) (by simpa using T4)];simp only[↓aX,mX,seval,a8]
   have ZW:m_ (.loc 47)= .unused:=by
    rw[fH _ (by simp) (by simp) (by simpa using Ho)];simp only[↓aX,mX,seval,ZU]
   simp only[↓aX,mX,seval];rw[gU 1 8 47 8 ((aV (d.length+1) (x.kids.take q.i)).map aW) (.int .i64 (kO d x p q.i).length) c8 (by rw[ag5]) rfl (by simp[IV.cells]) (by rw[BF];unfold B at hx;omega) (by decide) (by decide) ZW];simp only[↓aX,mX,seval,hw];have NR:L'≠ .loc 8:=by rcases KY with rfl|e;simp;simp only[jl] at e;rw[←e];exact T4
   have Wt:L'≠ .loc 10:=by rcases KY with rfl|e;simp;simp only[jl] at e;rw[←e];exact Hn
   have Hq:L'≠ .loc 47:=by rcases KY with rfl|e;simp;simp only[jl] at e;rw[←e];exact Ho
   refine⟨{i:=q.i+1,L:=L',u:=fun l=>q.u l||(decide (l=q.L)||decide (l= .gen (1000+q.i))),hi:=bO,l0:=b1,l8:=NR,l10:=Wt,T1:=Hq,lg:= ?_,T2:= ?_,T3:= ?_,ug:= ?_},by simp only;omega,[(.loc 8,.loc 47)],?_⟩
   ·intro j hj;rcases KY with rfl|e
    ·simp;omega
    simp only[jl] at e;rw[←e];exact q.lg j (by omega)
   ·simp[q.T2,aef Hn]
   ·simp[q.T3,aef Ho]
   ·intro j hj;have:=aef (q.lg j (by omega));simp[q.ug j (by omega),this];omega
   have hP:=Ct (d:=d) (p:=p) vo;have Hr:aV (d.length+1) (x.kids.take (q.i+1))=aV (d.length+1) (x.kids.take q.i)++[((kO d x p q.i).length:Int)]:=by
    rw[s4,mr,pN];simp[aV]
   refine⟨?_,?_,?_,?_,?_⟩
   ·intro l hf hu;by_cases e0:l= .par 0
    ·subst e0;simp[oD]
    by_cases e1:l=q.L
    ·right;simp[e1]
    by_cases e2:l= .gen (1000+q.i)
    ·right;simp[e2]
    have e3:l≠ .loc 47:=(by rintro rfl;simp[Lb.fresh] at hf);have e4:l≠ .loc 8:=(by rintro rfl;simp[Lb.fresh] at hf);have e5:l≠ .loc 10:=(by rintro rfl;simp[Lb.fresh] at hf);rw[ax _ _ e3,ax _ _ e4,fH l e0 e2 (by simpa using aef e1),ax _ _ e5,ax _ _ e5] at hu;rcases Ws l hf hu with h|h|h
    ·exact absurd h e0
    ·exact absurd h e1
    right;simp[h]
   ·simp[qq,kv,bZ,e7,put,BF,s4,mr,aV]
   ·have r0:bZ [(.loc 8,.loc 47)] (.par 0)= .par 0:=rfl;have rL:bZ [(.loc 8,.loc 47)] L'=L':=(by simp[bZ,NR]);have r8:bZ [(.loc 8,.loc 47)] (.loc 8)= .loc 47:=rfl;refine⟨?_,?_,?_,trivial⟩
    ·show bF (bF m_ (.loc 8) .dead) (.loc 47) _ (.par 0)= .live (cV (bZ [(.loc 8,.loc 47)]) ⟨1,[[.sl L' 5 0 (kO d x p (q.i+1)).length]]⟩);rw[ax _ _ (by simp),ax _ _ (by simp),b2,hP];simp[cV,aY,e7,rL]
    ·show bF (bF m_ (.loc 8) .dead) (.loc 47) _ (bZ [(.loc 8,.loc 47)] L')= .live (cV (bZ [(.loc 8,.loc 47)]) ⟨5,ar ((kO d x p (q.i+1)).map Node.iv)⟩);rw[rL,ax _ _ Hq,ax _ _ NR,b3,b5,hP]
    show bF (bF m_ (.loc 8) .dead) (.loc 47) _ (.loc 47)= .live (cV (bZ [(.loc 8,.loc 47)]) ⟨1,ar ((aV (d.length+1) (x.kids.take (q.i+1))).map aW)⟩);rw[b5,Hr,aeQ];simp only[↓aX,mX,seval];rfl
   ·simp[oD,bZ,NR,aef b1,Hq]
   intro l hl;simp only[oD,adz,adG,adO] at hl;rcases hl with rfl|rfl|rfl
   ·exact⟨id,fun _=>rfl⟩
   ·have rL:bZ [(.loc 8,.loc 47)] l=l:=(by simp[bZ,NR]);rw[rL];exact⟨id,fun _=>rfl⟩
   exact⟨fun _=>rfl,fun h=>by simp[Lb.fresh] at h⟩
  have qV:q.i=x.kids.length:=by simp at h;omega
  have G3:x.kids.take q.i=x.kids:=by rw[qV,aee]
  rw[G3] at a8;have Dp:=pN d x p q.i;have bO:d.length<(kO d x p q.i).length:=by omega
  have dO:(ar ((kO d x p q.i).map Node.iv))[d.length]?=some [.bool x.text,.str x.s,.list (dA x.attrs),.int .i64 p,.list []]:=by
   rw[wI,adX,kO,adV,adU (adw _),ae_];rfl
  simp only[↓aX,mX,seval,h,G3];refine⟨1,(aV (d.length+1) x.kids).map aW,0,_,rfl,a8,by simp,oy _,?_⟩;simp only[↓aX,mX,seval,a0,aL,bO,T4,dO,dw,ag5];have zi:(ar ((kO d x p q.i).map Node.iv)).set d.length ((x.node d.length p).iv.cells.map IV.gK)=ar ((d++x.flat d.length p).map Node.iv):=by
   rw[x.qp,th,kO,G3];congr 1;simp[jZ]
  have sO:(d++x.flat d.length p).length=(kO d x p q.i).length:=by
   rw[adE,x.gM,Dp,G3,x.kc];omega
  refine⟨q.L,q.l0,?_,?_⟩
  ·rw[ax _ _ (aef q.l0),ax _ _ (by simp),a0,ag5,sO]
  rw[←zi];have:(List.take (aV (d.length+1) x.kids).length ((aV (d.length+1) x.kids).map aW))=(aV (d.length+1) x.kids).map aW:=ads (by simp);rw[this];simp only[↓aX,mX,seval];rfl
 |false=>
 have hd:d=[]:=by simpa using hb rfl
 have Wu:d.length=0:=by rw[hd];rfl
 simp only[↓aX,mX,seval,oB,Tree.av];refine⟨rfl,gJ hC ?_⟩;simp only[↓aX,mX,seval];rw[rh 5 80 31 [.agg [.bool x.text,.str x.s,.list (dA x.attrs),.int .i64 p,.list []]] (by simp[ko,IV.cells]) (by simp[Flat,IV.cells]) (by simp) (by decide) (by simp[ae,Hp.none])];simp only[↓aX,mX,seval,bx];refine⟨by simp,?_⟩;refine jj (σ:=KX x) oD (fun q=>q.u) (qq d) (gR d p) (fun q=>x.kids.length - q.i)
  {i:=0,L:= .loc 31,u:=fun q=>false,hi:=ad3 _,l0:=by simp,l8:=by simp,l10:=by simp,T1:=by simp,lg:=fun j _=>by simp,T2:=rfl,T3:=rfl,ug:=fun j _=>rfl}
  (fun _=>rfl) (fun q=>by simp[ah,AV.aB,qq,oD]) (Cu d p) ⟨[],?_⟩ ?_
 ·refine⟨?_,?_,?_,by simp[oD,bZ],fun l _=>⟨id,fun _=>rfl⟩⟩
  ·intro l hf hu;by_cases e0:l= .par 0
   ·subst e0;simp[oD]
   exfalso;apply hu;cases l<;>simp_all[Lb.fresh,ae,Hp.none]
  ·simp[qq,kv,bZ,e7,aV,put,lE,hd]
  simp[gR,qe,bZ,ae,cV,aY,e7,kO,eE,aV,ar,Node.iv,Node.cs,Tree.Ji,IV.cells,IV.gK,pJ,hd]
 intro q;have a0:fy q.u (gR d p q) (.par 0)= .live ⟨1,[[.sl q.L 5 0 (kO d x p q.i).length]]⟩:=by simp[fy,gR,kx,bF]
 have aL:fy q.u (gR d p q) q.L= .live ⟨5,ar ((kO d x p q.i).map Node.iv)⟩:=by simp[fy,gR,kx,bF,q.l0]
 have a8:fy q.u (gR d p q) (.loc 8)= .live ⟨1,ar ((aV (d.length+1) (x.kids.take q.i)).map aW)⟩:=by simp[fy,gR,kx,bF,aef q.l8]
 have Wr:fy q.u (gR d p q) (.loc 10)= .unused:=by simp[fy,gR,kx,bF,aef q.l10,q.T2,Hp.none]
 have ZU:fy q.u (gR d p q) (.loc 47)= .unused:=by simp[fy,gR,kx,bF,aef q.T1,q.T3,Hp.none]
 have ag:fy q.u (gR d p q) (.gen (1000+q.i))= .unused:=by simp[fy,gR,kx,bF,aef (q.lg q.i (adw _)),q.ug q.i (adw _),Hp.none]
 have Ws:∀l:Lb,l.fresh=false→fy q.u (gR d p q) l≠ .unused→l= .par 0∨l=q.L∨q.u l=true:=by
  intro l hf hu;by_cases e0:l= .par 0
  ·exact .inl e0
  by_cases e1:l=q.L
  ·exact .inr (.inl e1)
  by_cases e2:q.u l=true
  ·exact .inr (.inr e2)
  exfalso;apply hu;have e3:l≠ .loc 8:=by rintro rfl;simp[Lb.fresh] at hf
  simp[fy,gR,kx,bF,e0,e1,e2,e3,Hp.none]
 have rH:ah ((qq d q).map Prod.snd)=[.par 0,.loc 8]:=by simp[ah,AV.aB,qq]
 generalize fy q.u (gR d p q)=H0 at *;have Hn:=q.l10;have T4:=q.l8;have Ho:=q.T1;have hi:=q.hi;have BF:(aV (d.length+1) (x.kids.take q.i)).length=q.i:=by rw[iO,adP];omega
 have ZV:=o9 (x.kids.take q.i);have hwt:=k9 x.kids q.i;simp only[↓aX,mX,seval,qq];refine qG (fun h=> ?_) (fun h=> ?_)
 ·have bO:q.i<x.kids.length:=by simpa using h
  obtain⟨k,vo⟩:∃k,x.kids[q.i]?=some k:=⟨_,ag7 bO⟩;have hw:IntKind.i64.wrap ((q.i:Int)+1)=((q.i+1:Nat):Int):=wrap64 (by omega) (by unfold B at hx;omega);have s4:x.kids.take (q.i+1)=x.kids.take q.i++[k]:=iP vo;have Mw:er (x.kids.take q.i)+k.wt≤er x.kids:=by
   have:=k9 x.kids (q.i+1);rw[s4,jL] at this;simp only[er] at this;omega
  simp only[↓aX,mX,seval,ml,vo,tj,Tree.bw,Tree.cs,Wr];refine xP (l:= .par 0) (N:= .gen (1000+q.i)) (o:=some q.L) (hK k (adu vo) (kO d x p q.i) (by rw[pN];omega)) rfl ⟨q.l0,by simp only[↓aX,mX,seval,a0,ag5],by simp only[↓aX,mX,seval,aL,ag8 Hn]⟩ (by simp only[↓aX,mX,seval,ag]) (by intro h;simp[Lb.fresh] at h) ?_;rintro L' m_ KY ⟨b1,b2,b3⟩ fH vq;have c8:m_ (.loc 8)= .live ⟨1,ar ((aV (d.length+1) (x.kids.take q.i)).map aW)⟩:=by
   rw[fH _ (by simp) (by simp) (by simpa using T4)];simp only[↓aX,mX,seval,a8]
  have ZW:m_ (.loc 47)= .unused:=by
   rw[fH _ (by simp) (by simp) (by simpa using Ho)];simp only[↓aX,mX,seval,ZU]
  simp only[↓aX,mX,seval];rw[gU 1 8 47 8 ((aV (d.length+1) (x.kids.take q.i)).map aW) (.int .i64 (kO d x p q.i).length) c8 (by rw[ag5]) rfl (by simp[IV.cells]) (by rw[BF];unfold B at hx;omega) (by decide) (by decide) ZW];simp only[↓aX,mX,seval,hw];have NR:L'≠ .loc 8:=by rcases KY with rfl|e;simp;simp only[jl] at e;rw[←e];exact T4
  have Wt:L'≠ .loc 10:=by rcases KY with rfl|e;simp;simp only[jl] at e;rw[←e];exact Hn
  have Hq:L'≠ .loc 47:=by rcases KY with rfl|e;simp;simp only[jl] at e;rw[←e];exact Ho
  refine⟨{i:=q.i+1,L:=L',u:=fun l=>q.u l||(decide (l=q.L)||decide (l= .gen (1000+q.i))),hi:=bO,l0:=b1,l8:=NR,l10:=Wt,T1:=Hq,lg:= ?_,T2:= ?_,T3:= ?_,ug:= ?_},by simp only;omega,[(.loc 8,.loc 47)],?_⟩
  ·intro j hj;rcases KY with rfl|e
   ·simp;omega
   simp only[jl] at e;rw[←e];exact q.lg j (by omega)
  ·simp[q.T2,aef Hn]
  ·simp[q.T3,aef Ho]
  ·intro j hj;have:=aef (q.lg j (by omega));simp[q.ug j (by omega),this];omega
  have hP:=Ct (d:=d) (p:=p) vo;have Hr:aV (d.length+1) (x.kids.take (q.i+1))=aV (d.length+1) (x.kids.take q.i)++[((kO d x p q.i).length:Int)]:=by
   rw[s4,mr,pN];simp[aV]
  refine⟨?_,?_,?_,?_,?_⟩
  ·intro l hf hu;by_cases e0:l= .par 0
   ·subst e0;simp[oD]
   by_cases e1:l=q.L
   ·right;simp[e1]
   by_cases e2:l= .gen (1000+q.i)
   ·right;simp[e2]
   have e3:l≠ .loc 47:=(by rintro rfl;simp[Lb.fresh] at hf);have e4:l≠ .loc 8:=(by rintro rfl;simp[Lb.fresh] at hf);have e5:l≠ .loc 10:=(by rintro rfl;simp[Lb.fresh] at hf);rw[ax _ _ e3,ax _ _ e4,fH l e0 e2 (by simpa using aef e1),ax _ _ e5,ax _ _ e5] at hu;rcases Ws l hf hu with h|h|h
   ·exact absurd h e0
   ·exact absurd h e1
   right;simp[h]
  ·simp[qq,kv,bZ,e7,put,BF,s4,mr,aV]
  ·have r0:bZ [(.loc 8,.loc 47)] (.par 0)= .par 0:=rfl;have rL:bZ [(.loc 8,.loc 47)] L'=L':=(by simp[bZ,NR]);have r8:bZ [(.loc 8,.loc 47)] (.loc 8)= .loc 47:=rfl;refine⟨?_,?_,?_,trivial⟩
   ·show bF (bF m_ (.loc 8) .dead) (.loc 47) _ (.par 0)= .live (cV (bZ [(.loc 8,.loc 47)]) ⟨1,[[.sl L' 5 0 (kO d x p (q.i+1)).length]]⟩);rw[ax _ _ (by simp),ax _ _ (by simp),b2,hP];simp[cV,aY,e7,rL]
   ·show bF (bF m_ (.loc 8) .dead) (.loc 47) _ (bZ [(.loc 8,.loc 47)] L')= .live (cV (bZ [(.loc 8,.loc 47)]) ⟨5,ar ((kO d x p (q.i+1)).map Node.iv)⟩);rw[rL,ax _ _ Hq,ax _ _ NR,b3,b5,hP]
   show bF (bF m_ (.loc 8) .dead) (.loc 47) _ (.loc 47)= .live (cV (bZ [(.loc 8,.loc 47)]) ⟨1,ar ((aV (d.length+1) (x.kids.take (q.i+1))).map aW)⟩);rw[b5,Hr,aeQ];simp only[↓aX,mX,seval];rfl
  ·simp[oD,bZ,NR,aef b1,Hq]
  intro l hl;simp only[oD,adz,adG,adO] at hl;rcases hl with rfl|rfl|rfl
  ·exact⟨id,fun _=>rfl⟩
  ·have rL:bZ [(.loc 8,.loc 47)] l=l:=(by simp[bZ,NR]);rw[rL];exact⟨id,fun _=>rfl⟩
  exact⟨fun _=>rfl,fun h=>by simp[Lb.fresh] at h⟩
 have qV:q.i=x.kids.length:=by simp at h;omega
 have G3:x.kids.take q.i=x.kids:=by rw[qV,aee]
 rw[G3] at a8;have Dp:=pN d x p q.i;have bO:d.length<(kO d x p q.i).length:=by omega
 have dO:(ar ((kO d x p q.i).map Node.iv))[d.length]?=some [.bool x.text,.str x.s,.list (dA x.attrs),.int .i64 p,.list []]:=by
  rw[wI,adX,kO,adV,adU (adw _),ae_];rfl
 simp only[↓aX,mX,seval,h,G3];refine⟨1,(aV (d.length+1) x.kids).map aW,0,_,rfl,a8,by simp,oy _,?_⟩;simp only[↓aX,mX,seval,a0,aL,bO,T4,dO,dw,ag5];have zi:(ar ((kO d x p q.i).map Node.iv)).set d.length ((x.node d.length p).iv.cells.map IV.gK)=ar ((d++x.flat d.length p).map Node.iv):=by
  rw[x.qp,th,kO,G3];congr 1;simp[jZ]
 have sO:(d++x.flat d.length p).length=(kO d x p q.i).length:=by
  rw[adE,x.gM,Dp,G3,x.kc];omega
 refine⟨q.L,q.l0,?_,?_⟩
 ·rw[ax _ _ (aef q.l0),ax _ _ (by simp),a0,ag5,sO]
 rw[←zi];have:(List.take (aV (d.length+1) x.kids).length ((aV (d.length+1) x.kids).map aW))=(aV (d.length+1) x.kids).map aW:=ads (by simp);rw[this];simp only[↓aX,mX,seval];rfl

theorem Az {p:Lb}:∀{ds:List AV},p∈ah ds→∃y∈ds,p∈y.aB
 |[],h=>by simp[ah] at h
 |y::r,h=>by
  simp only[ah,adD] at h;rcases h with h|h
  ·exact⟨y,by simp,h⟩
  obtain⟨z,hz,hp⟩:=Az h;exact⟨z,by simp[hz],hp⟩
def tn {S:St} {env:Env} {H:Hp} {q:Lb} {cs:List AV} {j d sz:Nat} (g1:H q= .live ⟨cs.length,[cs]⟩) (g2:cs[j]?=some .nil0) (g3:H (.loc d)= .unused) (g4:0<sz) :
  nb S env H env (bF (bF H (.loc d) (.live ⟨sz,[]⟩)) q (.live ⟨cs.length,[cs.set j (.sl (.loc d) sz 0 0)]⟩)):=by
 intro K β a w Zp hS hr;have hk:=hr.s9 (.loc d) g3 (r:=⟨sz,[]⟩) (Below.refl _ _) none (by simp) (by simp) ⟨g4,by simp,by simp⟩;have Wv:q≠ .loc d:=by rintro rfl;rw[g1] at g3;cases g3
 have hq:bF H (.loc d) (.live ⟨sz,[]⟩) q= .live ⟨cs.length,[cs]⟩:=by rw[ax _ _ Wv];exact g1
 have pC:0<cs.length:=(hr.rows q _ g1).1;have ZX:bF β (.loc d) none q=β q:=ax _ _ Wv;cases hb:β q with
 |none=>
  have:=(hr.rows q _ g1).2.2;simp[hb] at this
 |some g=>
 obtain⟨cur,e0,cap,k1,k2,k3,k4,k5⟩:=(hk.rows q _ hq).block (ZX.trans hb);have wu:j<cs.length:=(ag6.1 g2).1;have oV:=hk.setRow q (r':=⟨cs.length,[cs.set j (.sl (.loc d) sz 0 0)]⟩) (cur':=cur) (cap:=cap) hq (ZX.trans hb) k1 rfl rfl k2 k3 (by simpa using k4) (by simp)
  (by
   intro ds ED p hp;simp at ED;subst ED;obtain⟨y,hy,Qs⟩:=Az hp;rcases aeY hy with hy|rfl
   ·obtain⟨m,hm⟩:=aeh hy;exact hk.fk q _ hq cs (by simp) p (gL _ _ _ hm p Qs)
   simp only[AV.aB,adr] at Qs;subst Qs;simp)
  (by
   intro i' j' ds x0 jz oO;cases i' with
   |succ i'=>simp at jz
   |zero=>
   simp at jz;subst jz;by_cases e:j'=j
   ·subst e;rw[aeA wu] at oO;cases oO;obtain⟨v,q1,q2⟩:=k5 0 j' cs _ (by simp) g2;simp only[RV] at q2;obtain⟨ad,rfl⟩:=q2;refine⟨_,q1,?_⟩;simp only[RV];exact⟨ad,0,rfl,adw _,by simp[maxLen],by simp,fun _=> .inl rfl⟩
   rw[aeH (aef e)] at oO;exact k5 0 j' cs x0 (by simp) oO)
 have fH:w.setRow g cur=w:=setRow_self w g cur e0 (0,0) k1;rw[fH] at oV;exact⟨_,oV⟩
section
variable {env:Env} {H:Hp}
def jM (m:Option Nat) (t u:Nat) (R:AV→Hp→Prop):kX [(some m,t),(none,u)] R .ret env H=ga (jR m (env t) H) (fun x=>R (.dM [x,env u]) H) .mk:=by
 simp only[kX,jc,vM,ga];cases jR m (env t) H<;>simp[jf]
end

inductive Sub:Nat→Int→Tree→Nat→Int→Tree→Prop
 |self (off:Nat) (p:Int) (t:Tree):Sub off p t off p t
 |BS {off:Nat} {p:Int} {t:Tree} {n:Nat} {q:Int} {y:Tree} (a b:List Tree) (k:Tree):t.kids=a++k::b→Sub (off+1+bC a) off k n q y→Sub off p t n q y
def mf (d:Doc) (n:Nat) (q:Int) (y:Tree):Prop:=∃post,d.drop n=y.flat n q++post
def Sub.Jj {off:Nat} {p:Int} {t:Tree} {n:Nat} {q:Int} {y:Tree} (h:Sub off p t n q y):off≤n∧n+y.fI≤off+t.fI:=by
 induction h with
 |self=>exact⟨adw _,adw _⟩
 |@BS off p t n q y a b k hk _ ih=>
 have h1:=t.kc;rw[hk,jt] at h1;simp only[bC] at h1;omega
def NS {α:Type} {a b c:List α} {n:Nat} (h:a.length=n):(a++b).drop n=b:=by subst h;simp
def Sub.AA {off:Nat} {p:Int} {t:Tree} {n:Nat} {q:Int} {y:Tree} (h:Sub off p t n q y):∀d:Doc,mf d off p t→mf d n q y:=by
 induction h with
 |self=>exact fun _ h=>h
 |@BS off p t n q y a b k hk _ ih=>
 rintro d ⟨post,h⟩;refine ih d ⟨eE (off+1+bC a+k.fI) off b++post,?_⟩;rw[t.qp,hk] at h;have h2:=(At h).2;rw[pk] at h2;have h3:d.drop (off+1)=eE (off+1) off a++(eE (off+1+bC a) off (k::b)++post):=by rw[h2];exact adV _ _ _
 rw[←afv,h3,NS (c:=[]) (mL _ _ _)];simp[eE]
def Sub.parent {off:Nat} {p:Int} {t:Tree} {n:Nat} {q:Int} {y:Tree} (h:Sub off p t n q y) :
  (n=off∧q=p∧y=t)∨∃(m:Nat) (z:Tree) (r:Int),q=(m:Int)∧Sub off p t m r z∧m<n∧n+y.fI≤m+z.fI∧y∈z.kids∧off≤m:=by
 induction h with
 |self=>exact .inl ⟨rfl,rfl,rfl⟩
 |@BS off p t n q y a b k hk hs ih=>
 right;rcases ih with⟨rfl,rfl,rfl⟩|⟨m,z,r,e1,e2,e3,e4,e5,e6⟩
 ·have h1:=t.kc;rw[hk,jt] at h1;simp only[bC] at h1;exact⟨off,t,p,rfl,.self _ _ _,by omega,by omega,by rw[hk];simp,adw _⟩
 exact⟨m,z,r,e1,.BS a b k hk e2,e3,e4,e5,by omega⟩
def Sub.trans {off:Nat} {p:Int} {t:Tree} {n:Nat} {q:Int} {y:Tree} (h:Sub off p t n q y) {m:Nat} {r:Int} {z:Tree} (h2:Sub n q y m r z):Sub off p t m r z:=by
 induction h with
 |self=>exact h2
 |BS a b k hk _ ih=>exact .BS a b k hk (ih h2)
def Jk:∀(sz:Nat) (t:Tree) (off:Nat) (p:Int) (n:Nat),t.fI≤sz→off≤n→n<off+t.fI→∃q y,Sub off p t n q y:=by
 intro sz;induction sz with
 |zero=>intro t off p n h;have:=t.dH;omega
 |succ sz ih=>
 intro t off p n h h1 h2;by_cases e:n=off
 ·subst e;exact⟨_,_,.self _ _ _⟩
 have key:∀(ks a:List Tree),t.kids=a++ks→off+1+bC a≤n→n<off+1+bC a+bC ks→∃q y,Sub off p t n q y:=by
  intro ks;induction ks with
  |nil=>intro a _ h3 h4;simp[bC] at h4;omega
  |cons k ks ZM=>
  intro a hk h3 h4;by_cases bO:n<off+1+bC a+k.fI
  ·have hc:=t.kc;rw[hk,jt] at hc;simp only[bC] at hc;obtain⟨q,y,hs⟩:=ih k (off+1+bC a) off n (by omega) h3 bO;exact⟨q,y,.BS a ks k hk hs⟩
  simp only[bC] at h4;refine ZM (a++[k]) (by rw[hk];simp) ?_ ?_
  ·rw[jt];simp only[bC];omega
  rw[jt];simp only[bC];omega
 refine key t.kids [] rfl ?_ ?_
 ·simp[bC];omega
 have:=t.kc;simp[bC];omega
def mf.node {d:Doc} {n:Nat} {q:Int} {y:Tree} (h:mf d n q y):d[n]?=some (y.node n q):=by
 obtain⟨post,h⟩:=h;rw[y.qp] at h;exact(At h).1
def mf.len {d:Doc} {n:Nat} {q:Int} {y:Tree} (h:mf d n q y):n+y.fI≤d.length:=by
 obtain⟨post,h⟩:=h;have:=afb List.length h;rw[aen,adE,y.gM] at this;have:=y.dH;omega
def mf.BS {d:Doc} {n:Nat} {q:Int} {y:Tree} (h:mf d n q y) (a b:List Tree) (k:Tree) (hk:y.kids=a++k::b):mf d (n+1+bC a) n k:=
 (Sub.BS (off:=n) (p:=q) a b k hk (.self _ _ _)).AA d h
def mf.uniq {d:Doc} {n:Nat} {q q':Int} {y y':Tree} (h:mf d n q y) (h':mf d n q' y'):y=y'∧q=q':=by
 have e:q=q':=by
  have:=h.node.symm.trans h'.node;simp only[jl] at this;exact afb Node.parent this
 subst e;obtain⟨post,h⟩:=h;obtain⟨ZY,h'⟩:=h';exact⟨y.Au y' n q post ZY (h.symm.trans h'),rfl⟩
def wL {t:Tree} {n:Nat} (h:n<(aK t).length):∃q y,mf (aK t) n q y∧Sub 0 (-1) t n q y:=by
 rw[jU] at h;obtain⟨q,y,hs⟩:=Jk t.fI t 0 (-1) n (adw _) (ad3 _) (by omega);exact⟨q,y,hs.AA _ ⟨[],by simp[aK]⟩,hs⟩
theorem rl:∀{p:Option Bool} {l:List Tree},iD p l=true→∀x∈l,x.k_=true
 |_,[],_,x,hx=>by simp at hx
 |p,y::r,h,x,hx=>by
  simp only[iD,ady] at h;simp only[adz] at hx;rcases hx with rfl|hx
  ·exact h.1
  exact rl h.2.2 x hx
def Tree.rn {x:Tree} (h:x.k_=true):iD none x.kids=true:=by
 cases ht:x.text with
 |true=>
  rw[x.Ao ht] at h;simp only[ady,aep,aea] at h;rw[h.2.2.2];rfl
 |false=>
 rw[x.vQ ht] at h;simp only[ady] at h;exact h.2.2
def Sub.k_ {off:Nat} {p:Int} {t:Tree} {n:Nat} {q:Int} {y:Tree} (h:Sub off p t n q y):t.k_=true→y.k_=true:=by
 induction h with
 |self=>exact id
 |BS a b k hk _ ih=>exact fun h=>ih (rl (Tree.rn h) k (by rw[hk];simp))
def Tree.uE {x:Tree} (h:x.k_=true) (ht:x.text=true):x.kids=[]∧x.attrs=[]∧x.s≠[]:=by
 rw[x.Ao ht] at h;simp only[ady,aep,aea,agb] at h;exact⟨h.2.2.2,h.2.2.1,h.2.1⟩

def NT:Nat→List (Tree×Int)→List (Nat×Int)
 |_,[]=>[]
 |n,(t,p)::r=>(n,p)::NT (n+t.fI) r
def Ww (j:Int) (ps:List (Nat×Int)):List Int:=(ps.filter fun x=>x.2==j).map fun x=>(x.1:Int)
def NU:Nat→List (Tree×Int)→List Node
 |_,[]=>[]
 |n,(t,p)::r=>t.flat n p++NU (n+t.fI) r
def fill (ps:List (Nat×Int)):Nat→List Node→List Node
 |_,[]=>[]
 |j,x::r=>{x with kids:=x.kids++Ww j ps}::fill ps (j+1) r
def whole (d:List Node) (l:List (Tree×Int)):List Node:=fill (NT d.length l) 0 d++NU d.length l

def gl (m:Int):Nat→List Node→List Nat
 |_,[]=>[]
 |j,x::r=>(if x.parent=m then [j] else [])++gl m (j+1) r
theorem pO (m:Int):∀(j:Nat) (a b:List Node),gl m j (a++b)=gl m j a++gl m (j+a.length) b
 |j,[],b=>by simp[gl]
 |j,x::a,b=>by simp only[adR,gl,pO m (j+1) a b,adK,adV,agt 1,aer]
theorem AB (m:Int):∀(j:Nat) (a:List Node) (k:Nat),k∈gl m j a↔j≤k∧∃x,a[k - j]?=some x∧x.parent=m
 |j,[],k=>by simp[gl]
 |j,x::a,k=>by
  simp only[gl,adD,AB m (j+1) a k];constructor
  ·rintro(h|⟨h1,y,h2,h3⟩)
   ·split at h
    ·rename_i hp;simp only[adr] at h;subst h;exact⟨adw _,x,by simp,hp⟩
    simp at h
   exact⟨by omega,y,by rw[show k - j=(k - (j+1))+1 by omega];simpa using h2,h3⟩
  rintro⟨h1,y,h2,h3⟩;by_cases e:k=j
  ·subst e;simp only[ae_,aem,jl] at h2;subst h2;left;rw[adv h3];simp
  right;rw[show k - j=(k - (j+1))+1 by omega,afa] at h2;exact⟨by omega,y,h2,h3⟩
mutual
theorem Tree.Jl (off:Nat) (p m:Int):∀x:Tree,(m<off∨(off+x.fI:Nat)≤m)→gl m off (x.flat off p)=if p=m then [off] else []
 | .mk t s as ks,h=>by
  simp only[Tree.flat,gl];simp only[Tree.fI] at h;rw[wM (off+1) off m ks (by omega) (by omega)];simp
theorem wM (off p:Nat) (m:Int):∀xs:List Tree,(m<off∨(off+bC xs:Nat)≤m)→(p:Int)≠m→gl m off (eE off p xs)=[]
 |[],_,_=>rfl
 |k::r,h,hp=>by
  simp only[bC] at h;simp only[eE,pO,k.gM];rw[k.Jl off p m (by omega),wM (off+k.fI) p m r (by omega) hp,ag8 hp];rfl
end
def cO (off:Nat):List Tree→List Nat
 |[]=>[]
 |k::r=>off::cO (off+k.fI) r
theorem xS:∀(off:Nat) (xs:List Tree),(cO off xs).map (fun k:Nat=>(k:Int))=aV off xs
 |_,[]=>rfl
 |off,k::r=>by simp[cO,aV,xS _ r]
theorem Cv (off p:Nat):∀xs:List Tree,p<off→gl p off (eE off p xs)=cO off xs
 |[],_=>rfl
 |k::r,h=>by
  simp only[eE,pO,k.gM,cO];rw[k.Jl off p p (by omega),Cv (off+k.fI) p r (by omega)];simp
def Sub.ab0 {off:Nat} {p:Int} {t:Tree} {n:Nat} {q:Int} {y:Tree} (h:Sub off p t n q y):p<off→gl n off (t.flat off p)=cO (n+1) y.kids:=by
 induction h with
 |self off p t=>
  intro hp;rw[t.qp];simp only[gl];rw[ag8 (show ¬(t.node off p).parent=(off:Int) by show ¬p=(off:Int);omega),Cv (off+1) off t.kids (by omega)];rfl
 |@BS off p t n q y a b k hk hs ih=>
 intro hp;have hr:=hs.Jj;have h1:=t.kc;rw[hk,jt] at h1;simp only[bC] at h1;have hy:=y.dH;rw[t.qp,hk,pk];simp only[gl,pO,mL,eE,k.gM];rw[ag8 (show ¬(t.node off p).parent=(n:Int) by show ¬p=(n:Int);omega),wM (off+1) off n a (by omega) (by omega),ih (by omega),wM (off+1+bC a+k.fI) off n b (by omega) (by omega)];simp
def E9 {t:Tree} {n:Nat} {q:Int} {y:Tree} (h:Sub 0 (-1) t n q y):gl n 0 (aK t)=cO (n+1) y.kids:=h.ab0 (by omega)
def rV (d:Doc):Nat→Nat→Tree
 |0,_=> .mk false [] [] []
 |f+1,n=>match d[n]? with
  |some x=> .mk x.text x.s x.attrs ((gl n (n+1) (d.drop (n+1))).map (rV d f))
  |none=> .mk false [] [] []
def E' {d:Doc} {m:Int} {n:Nat} (h:∀k∈gl m 0 d,n≤k) (hn:n≤d.length):gl m n (d.drop n)=gl m 0 d:=by
 have e:d=d.take n++d.drop n:=(ad0 n d).symm;have h2:gl m 0 d=gl m 0 (d.take n)++gl m n (d.drop n):=by
  conv=>lhs;rw[e]
  rw[pO,adP,ael hn,adC]
 have h3:gl m 0 (d.take n)=[]:=by
  apply age.2;intro k hk;have:=h k (by rw[h2];simp[hk]);obtain⟨_,x,hx,_⟩:=(AB m 0 _ k).1 hk;have:=(ag6.1 hx).1;simp at this;omega
 rw[h2,h3];rfl
theorem tp:∀(off:Nat) (xs:List Tree),∀k∈cO off xs,off≤k
 |_,[],k,h=>by simp[cO] at h
 |off,x::r,k,h=>by
  simp only[cO,adz] at h;rcases h with rfl|h
  ·exact adw _
  have:=tp _ r k h;omega
def yE {t:Tree}:∀(f:Nat) (n:Nat) (q:Int) (y:Tree),Sub 0 (-1) t n q y→y.dep≤f→rV (aK t) f n=y:=by
 intro f;induction f with
 |zero=>intro n q y _ h;rw[y.xN] at h;omega
 |succ f ih=>
 intro n q y hs hd;have hl:=hs.AA (aK t) ⟨[],by simp[aK]⟩;have yD:=hl.node;have hlen:=hl.len;have hp:=E9 hs;have hy:=y.dH;unfold rV;rw[yD];simp only[Tree.node];rw[E' (by rw[hp];exact tp _ _) (by omega),hp];have kids:∀(b a:List Tree),y.kids=a++b→(cO (n+1+bC a) b).map (rV (aK t) f)=b:=by
  intro b;induction b with
  |nil=>intro a _;rfl
  |cons k b ihb=>
  intro a hk;simp only[cO,ad5];have hdk:k.dep≤f:=by
   have h1:=y.xN;rw[hk,An] at h1;simp only[lG] at h1;omega
  rw[ih _ n k (hs.trans (.BS a b k hk (.self _ _ _))) hdk];have:=ihb (a++[k]) (by rw[hk];simp);rw[jt] at this;simp only[bC,ae0] at this;rw[show n+1+bC a+k.fI=n+1+(bC a+k.fI) by omega,this]
 have:=kids y.kids [] rfl;simp only[bC,ae0] at this;rw[this];cases y;rfl

noncomputable def e_ (d:Doc) (n:Int):Tree×Int:=if cW d=true then(if 0≤n∧n<d.length then(rV d d.length n.toNat,0) else(.mk false [] [] [],3)) else(.mk false [] [] [],1)
def jJ (x:Tree):Doc×Int:=if x.fZ=true then(aK x,0) else([],1)
section
variable {t:Tree}
def tq (ht:t.fZ=true) {n:Nat} {q:Int} {y:Tree} (hs:Sub 0 (-1) t n q y):e_ (aK t) n=(y,0):=by
 have h:=hs.AA (aK t) ⟨[],by simp[aK]⟩;have hl:=h.len;have hc:=y.dH;unfold e_;rw[adv (mc ht),adv ⟨by omega,by omega⟩,ag9];have hd:y.dep≤(aK t).length:=by
  have h1:=(oC t).1 ht;have h2:∀x:Tree,x.dep≤x.fI:=by
   have key:∀n:Nat,(∀x:Tree,x.fI≤n→x.dep≤x.fI)∧∀xs:List Tree,bC xs≤n→lG xs≤bC xs:=by
    intro n;induction n with
    |zero=>exact⟨fun x h=>by have:=x.dH;omega,fun xs h=>by cases xs with|nil=>simp[lG]|cons a r=>have:=a.dH;simp[bC] at h;omega⟩
    |succ n ih=>
    have one:∀x:Tree,x.fI≤n+1→x.dep≤x.fI:=fun x h=>by
     have:=ih.2 x.kids (by have:=x.kc;omega);rw[x.xN,x.kc];omega
    refine⟨one,fun xs=> ?_⟩;induction xs with
    |nil=>intro _;simp[lG]
    |cons a r ihr=>
    intro h;simp only[bC] at h;have:=a.dH;have:=one a (by omega);have:=ihr (by omega);simp only[lG,bC];omega
   exact fun x=>(key x.fI).1 x (adw _)
  have:=h2 y;omega
 rw[yE _ n q y hs hd]
end
end Go.Am
