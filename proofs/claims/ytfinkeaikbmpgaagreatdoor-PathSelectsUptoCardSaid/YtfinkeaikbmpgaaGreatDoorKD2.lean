import Derived.Test.YtfinkeaikbmpgaaGreatDoorKT7
import Derived.Test.YtfinkeaikbmpgaaGreatDoorKAm25
set_option linter.unusedSimpArgs false
set_option linter.unusedVariables false
set_option linter.unnecessarySimpa false
set_option linter.defProp false
/- Documents: which lists of nodes are some. -/
namespace Go.Am
open Go Go.RowKit
def wk (d:Doc):Nat→Int→Int→Int→Option Int
 |0,_,_,_=>none
 |f+1,n,p,nx=>if n=nx then match d[n.toNat]? with
   |some x=>if x.parent=p then x.kids.foldlM (fun q k=>wk d f k n q) (nx+1) else none
   |none=>none
  else none
theorem oC {α:Type} {l:List α} {n:Nat} {x:α} {r:List α} (h:l.drop n=x::r):l[n]?=some x∧l.drop (n+1)=r:=by
 have h1:(l.drop n)[0]?=some x:=by rw[h];rfl
 refine⟨by simpa[List.getElem?_drop] using h1,?_⟩;have:(l.drop n).drop 1=r:=by rw[h];rfl
 rwa[List.drop_drop] at this
theorem drop_eq {α:Type} {l:List α} {n:Nat} {x:α} (h:l[n]?=some x):l.drop n=x::l.drop (n+1):=by
 obtain⟨hn,rfl⟩:=List.getElem?_eq_some_iff.1 h;exact List.drop_eq_getElem_cons hn
theorem vm (d : Doc) : ∀ (f : Nat),
   (∀(m:Nat) (n p r:Int),wk d f n p m=some r→n=m∧∃x:Tree,x.dep≤f∧(∃post,d.drop m=x.flat m p++post)∧r=((m+x.dP:Nat):Int)):=by
 intro f
 induction f with
 |zero=>intro m n p r h;simp[wk] at h
 |succ f ih=>
   intro m n p r h
   unfold wk at h
   split at h
   · rename_i hn
     subst hn
     simp only[Int.toNat_natCast] at h
     cases hx:d[m]? with
     |none=>rw[hx] at h;simp at h
     |some nd=>
       rw[hx] at h
       simp only at h
       split at h
       · rename_i hp
         refine⟨rfl,?_⟩
         have kids:∀(ks:List Int) (q:Nat) (r:Int),ks.foldlM (fun q k=>wk d f k (m:Int) q) (q:Int)=some r→∃xs:List Tree,ks=cS q xs∧eI xs≤f∧(∃post,d.drop q=cT q m xs++post)∧r=((q+aY xs:Nat):Int):=by
           intro ks
           induction ks with
           |nil=>intro q r h;simp at h;subst h;exact⟨[],rfl,by simp[eI],⟨_,by simp[cT];rfl⟩,by simp[aY]⟩
           |cons k ks Gp=>
             intro q r h
             rw[List.foldlM_cons] at h
             obtain⟨q',h1,h2⟩:=Option.bind_eq_some_iff.1 h
             obtain⟨rfl,x,x1,⟨post,x2⟩,rfl⟩:=ih q k m q' h1
             obtain⟨xs,e1,e2,⟨Gq,e3⟩,rfl⟩:=Gp _ _ h2
             refine⟨x::xs,by simp only[cS,e1],by simp only[eI];omega,⟨Gq,?_⟩,by simp only[aY,Nat.add_assoc]⟩
             have:d.drop (q+x.dP)=post:=by
               rw[←List.drop_drop,x2,List.drop_append_of_le_length (by rw[x.ek];exact Nat.le_refl _),List.drop_eq_nil_of_le (by rw[x.ek];exact Nat.le_refl _)];rfl
             rw[x2,←this,e3];simp[cT]
         obtain⟨xs,e1,e2,⟨post,e3⟩,rfl⟩:=kids nd.kids (m+1) r (by simpa using h)
         refine⟨.mk nd.text nd.s nd.attrs xs,by simp only[Tree.dep];omega,⟨post,?_⟩,by simp only[Tree.dP];congr 1;omega⟩
         rw[drop_eq hx,e3]
         simp only[Tree.flat,List.cons_append,List.cons.injEq,and_true]
         exact Node.ext' rfl rfl rfl hp e1
       · simp at h
   · simp at h
theorem Gr (d:Doc):∀(f:Nat) (x:Tree) (m:Nat) (p:Int),x.dep≤f→(∃post,d.drop m=x.flat m p++post)→wk d f m p m=some ((m+x.dP:Nat):Int):=by
 intro f
 induction f with
 |zero=>intro x m p h;rw[x.ki] at h;omega
 |succ f ih=>
  intro x m p hd ⟨post,hx⟩;rw[x.kD] at hx;obtain⟨h1,h2⟩:=oC hx;unfold wk;rw[if_pos rfl,Int.toNat_natCast,h1];simp only[Tree.node,if_true]
  have kids:∀(xs:List Tree) (q:Nat),eI xs≤f→(∃post,d.drop q=cT q m xs++post)→(cS q xs).foldlM (fun q k=>wk d f k (m:Int) q) (q:Int)=some ((q+aY xs:Nat):Int):=by
   intro xs
   induction xs with
   |nil=>intro q _ _;simp[cS,aY]
   |cons y ys Gp=>
    intro q hq ⟨post,hp⟩;simp only[eI] at hq;simp only[cT,List.append_assoc] at hp;simp only[cS,List.foldlM_cons];rw[ih y q m (by omega) ⟨_,hp⟩];simp only[Option.bind_eq_bind,Option.bind_some];rw[Gp (q+y.dP) (by omega) ⟨post,by rw[←List.drop_drop,hp,List.drop_append_of_le_length (by rw[y.ek];exact Nat.le_refl _),List.drop_eq_nil_of_le (by rw[y.ek];exact Nat.le_refl _)];rfl⟩]
    simp only[aY,Nat.add_assoc]
  have KM:=x.ki;have:=kids x.kids (m+1) (by omega) ⟨post,h2⟩;rw[show((m:Int)+1)=((m+1:Nat):Int) by omega,this,x.ft]
  congr 2;omega
mutual
theorem Tree.rW:∀(x y:Tree) (off:Nat) (p:Int) (r r':List Node),x.flat off p++r=y.flat off p++r'→x=y
 | .mk t s as ks,.mk t' s' L0 CS,off,p,r,r',h=>by
  simp only[Tree.flat,List.cons_append,List.cons.injEq,Node.mk.injEq] at h;obtain⟨⟨rfl,rfl,rfl,_,hk⟩,h⟩:=h;have hl:ks.length=CS.length:=by have:=congrArg List.length hk;simpa[jF] using this
  rw[pL ks CS (off+1) off r r' hl h]
theorem pL:∀(xs ys:List Tree) (off p:Nat) (r r':List Node),xs.length=ys.length→cT off p xs++r=cT off p ys++r'→xs=ys
 |[],[],_,_,_,_,_,_=>rfl
 |[],_::_,_,_,_,_,h,_=>by simp at h
 |_::_,[],_,_,_,_,h,_=>by simp at h
 |x::xs,y::ys,off,p,r,r',hl,h=>by
  simp only[cT,List.append_assoc] at h;have e:=x.rW y off p _ _ h;subst e;have:=List.append_cancel_left h;rw[pL xs ys _ p r r' (by simpa using hl) this]
end
theorem wv {x y:Tree} (h:aR x=aR y):x=y:=x.rW y 0 (-1) [] [] (by simpa[aR] using h)
theorem hZ (x:Tree):(aR x).length=x.dP:=x.ek 0 (-1)
def oD (d:Doc):Prop:=∃x:Tree,x.fM=true∧d=aR x
open Classical in
noncomputable def cq (d:Doc):Bool:=decide (oD d)
theorem fE {d:Doc}:cq d=true↔oD d:=by simp[cq]
theorem oE {x:Tree} (h:x.fM=true):cq (aR x)=true:=fE.2 ⟨x,h,rfl⟩
theorem jm {d:Doc} (h:¬oD d):cq d=false:=by simp[cq,h]
theorem gK (x:Tree):x.fM=true↔x.text=false∧x.dep≤8∧x.dP≤80∧x.gM=true:=by
 simp only[Tree.fM,Bool.and_eq_true,Bool.not_eq_true',decide_eq_true_eq];constructor
 ·rintro⟨h1,h2,h3,h4⟩;exact⟨h1,by omega,by omega,h4⟩
 ·rintro⟨h1,h2,h3,h4⟩;exact⟨h1,by omega,by omega,h4⟩
theorem Eb {d:Doc} (h:wk d 8 0 (-1) 0=some (d.length:Int)):∃x:Tree,x.dep≤8∧d=aR x:=by
 obtain⟨_,x,h1,⟨post,h2⟩,h3⟩:=vm d 8 0 0 (-1) _ h;refine⟨x,h1,?_⟩;simp only[List.drop_zero,Nat.zero_add] at h2 h3
 have hl:post=[]:=by
  have:=congrArg List.length h2;rw[List.length_append,x.ek] at this;have:x.dP=d.length:=by omega
  exact List.length_eq_zero_iff.1 (by omega)
 rw[h2,hl,List.append_nil];rfl
theorem BC {x:Tree} (h:x.dep≤8):wk (aR x) 8 0 (-1) 0=some ((aR x).length:Int):=by
 have:=Gr (aR x) 8 x 0 (-1) h ⟨[],by simp[aR]⟩;rw[hZ];simpa using this
end Go.Am

/- Trees that are joined. -/
namespace Go.Am
open Go Go.RowKit
def Tree.Gs (x:Tree) (s:Bs):Tree:= .mk x.text s x.attrs x.kids
def Cx (p:Bool):List Tree→Bool
 |[]=>p
 |x::r=>Cx x.text r
def grow (s:Bs):List Tree→List Tree
 |[]=>[]
 |[x]=>[x.Gs (x.s++s)]
 |x::y::r=>x::grow s (y::r)
def push (out:List Tree) (x:Tree):List Tree:=
 if x.text&&x.s==[] then out else if x.text&&Cx false out then grow x.s out else out++[x]
end Go.Am

/- JoinedOf. -/
namespace Go.Am
open Go Go.RowKit
theorem tR {α:Type} {l:List α} {i:Nat} {x:α} (h:l[i]?=some x):l.take (i+1)=l.take i++[x]:=by rw[List.take_add_one,h];rfl
end Go.Am

/- Trees: the contracts, for all trees. -/
namespace Go.Am
open Go Go.RowKit
theorem BD {M:List Tree→Prop} (step:∀l,(∀x∈l,M x.kids)→M l):∀l,M l:=by
 have key:∀(n:Nat) (l:List Tree),fL l≤n→M l:=by
  intro n
  induction n with
  |zero=>
   intro l hn;refine step l fun x hx=> ?_
   obtain⟨i,hi⟩:=List.getElem?_of_mem hx;have:=lY l i x hi;have:=x.jQ;omega
  |succ n ih=>
   intro l hn;refine step l fun x hx=>ih _ ?_
   obtain⟨i,hi⟩:=List.getElem?_of_mem hx;have:=lY l i x hi;have:=x.jQ;omega
 exact fun l=>key _ l (Nat.le_refl _)
theorem mG {l:List Tree} {x:Tree} (h:x∈l):x.wt≤fL l:=by
 obtain⟨i,hi⟩:=List.getElem?_of_mem h;exact lY l i x hi
theorem nS (x:Tree):fL x.kids≤x.wt:=by have:=x.jQ;omega
theorem Gt (x:Tree):x.s.length≤x.wt:=by have:=x.jQ;omega
theorem l3 (x:Tree):pI x.attrs≤x.wt:=by have:=x.jQ;omega
theorem l4:∀{l:List Attr} {a:Attr},a∈l→a.wt≤pI l
 |[],a,h=>by simp at h
 |b::r,a,h=>by
  simp only[List.mem_cons] at h;rcases h with rfl|h
  ·simp[pI]
  ·have:=l4 h;simp only[pI];omega
section
variable {P:Program} {G:Nat→Option (List IV)}
theorem Gu {g:Nat} (hF:aB P G g=some (32,[(none,2),(none,3)],(vl g).bare)):∀x:Tree,x.wt≤B→ai P G g [x.av] (.ei [.int .i64 x.dep,.int .i64 x.dP]):=by
 have key:=BD (M:=fun l=>∀x∈l,x.wt≤B→ai P G g [x.av] (.ei [.int .i64 x.dep,.int .i64 x.dP])) (fun l h x hx hB=>Gl hF x hB fun k hk=>h x hx k hk (by have:=mG hk;have:=nS x;omega));exact fun x=>key [x] x (by simp)
theorem Ec {fP fN zY fF xh:Nat} (hP:aB P G fP=some (29,[(none,2)],oj.bare)) (hN:aB P G fN=some (28,[(none,2)],oo.bare)) (hA:aB P G zY=some (41,[(none,2)],(ir fN fP).bare))
  (hF:aB P G fF=some (38,[(none,2)],(rU fP fN zY xh).bare)) (Gm:aB P G xh=some (32,[(none,2)],(ow fF).bare)) (l:List Tree):fL l≤B→ai P G xh [.list (eY l)] (.bool (cM none l)):=by
 refine BD (M:=fun l=>fL l≤B→ai P G xh [.list (eY l)] (.bool (cM none l))) (fun l h hB=>Ea Gm l (by have:=gy l;omega) fun x hx=> ?_) l;have h1:=mG hx;have h2:=nS x;have h3:=Gt x;have h4:=l3 x;have h5:=g_ x.attrs;refine Cv hF x (qF hP _ (by omega)) (oq hN _ (by omega)) (ou hA _ (by omega) (fun a ha=>oq hN _ ?_) (fun a ha=>qF hP _ ?_)) (h x hx (by omega))
 ·have:=l4 ha;unfold Attr.wt at this;omega
 ·have:=l4 ha;unfold Attr.wt at this;omega
theorem Gv {fP fN zY fF xh:Nat} (hP:aB P G fP=some (29,[(none,2)],oj.bare)) (hN:aB P G fN=some (28,[(none,2)],oo.bare)) (hA:aB P G zY=some (41,[(none,2)],(ir fN fP).bare))
  (hF:aB P G fF=some (38,[(none,2)],(rU fP fN zY xh).bare)) (Gm:aB P G xh=some (32,[(none,2)],(ow fF).bare)) (x:Tree) (hB:x.wt≤B):ai P G fF [x.av] (.bool x.gM):=by
 have h2:=nS x;have h3:=Gt x;have h4:=l3 x;have h5:=g_ x.attrs;refine Cv hF x (qF hP _ (by omega)) (oq hN _ (by omega)) (ou hA _ (by omega) (fun a ha=>oq hN _ ?_) (fun a ha=>qF hP _ ?_)) (Ec hP hN hA hF Gm _ (by omega))
 ·have:=l4 ha;unfold Attr.wt at this;omega
 ·have:=l4 ha;unfold Attr.wt at this;omega
end
end Go.Am

/- A tree is put behind a document's nodes. -/
namespace Go.Am
open Go Go.RowKit
structure KN (x:Tree) where
 i:Nat
 L:Lb
 u:Lb→Bool
 hi:i≤x.kids.length
 l0:L≠ .par 0
 l8:L≠ .loc 8
 l10:L≠ .loc 10
 L1:L≠ .loc 47
 lg:∀j,i≤j→L≠ .gen (1000+j)
 L2:u (.loc 10)=false
 L3:u (.loc 47)=false
 ug:∀j,i≤j→u (.gen (1000+j))=false
end Go.Am

/- THE ABSTRACT MACHINE, part 35: an empty slice in a cell, owned. -/
namespace Go.Am
open Go Go.RowKit
theorem rX {p:Lb}:∀{ds:List AV},p∈ah ds→∃y∈ds,p∈y.ar
 |[],h=>by simp[ah] at h
 |y::r,h=>by
  simp only[ah,List.mem_append] at h;rcases h with h|h
  ·exact⟨y,by simp,h⟩
  ·obtain⟨z,hz,hp⟩:=rX h;exact⟨z,by simp[hz],hp⟩
theorem iJ {S:St} {env:Env} {H:Hp} {q:Lb} {cs:List AV} {j d sz:Nat} (g1:H q= .live ⟨cs.length,[cs]⟩) (g2:cs[j]?=some .nil0) (g3:H (.loc d)= .unused) (g4:0<sz) :
  gj S env H env (bL (bL H (.loc d) (.live ⟨sz,[]⟩)) q (.live ⟨cs.length,[cs.set j (.sl (.loc d) sz 0 0)]⟩)):=by
 intro K β a w Hm hS hr;have hk:=hr.k_ (.loc d) g3 (r:=⟨sz,[]⟩) (Below.refl _ _) none (by simp) (by simp) ⟨g4,by simp,by simp⟩;have Cy:q≠ .loc d:=by rintro rfl;rw[g1] at g3;cases g3
 have hq:bL H (.loc d) (.live ⟨sz,[]⟩) q= .live ⟨cs.length,[cs]⟩:=by rw[aA _ _ Cy];exact g1
 have iO:0<cs.length:=(hr.rows q _ g1).1;have JK:bL β (.loc d) none q=β q:=aA _ _ Cy;cases hb:β q with
 |none=>
  have:=(hr.rows q _ g1).2.2;simp[hb] at this
 |some g=>
  obtain⟨cur,e0,cap,k1,k2,k3,k4,k5⟩:=(hk.rows q _ hq).block (JK.trans hb);have re:j<cs.length:=(List.getElem?_eq_some_iff.1 g2).1
  have lJ:=hk.setRow q (r':=⟨cs.length,[cs.set j (.sl (.loc d) sz 0 0)]⟩) (cur':=cur) (cap:=cap) hq (JK.trans hb) k1 rfl rfl k2 k3 (by simpa using k4) (by simp)
   (by
    intro ds vR p hp;simp at vR;subst vR;obtain⟨y,hy,E7⟩:=rX hp;rcases List.mem_or_eq_of_mem_set hy with hy|rfl
    ·obtain⟨m,hm⟩:=List.getElem?_of_mem hy;exact hk.cB q _ hq cs (by simp) p (cR _ _ _ hm p E7)
    ·simp only[AV.ar,List.mem_singleton] at E7;subst E7;simp)
   (by
    intro i' j' ds x0 dX iB;cases i' with
    |succ i'=>simp at dX
    |zero=>
     simp at dX;subst dX;by_cases e:j'=j
     ·subst e;rw[List.getElem?_set_self re] at iB;cases iB;obtain⟨v,q1,q2⟩:=k5 0 j' cs _ (by simp) g2;simp only[RV] at q2;obtain⟨ad,rfl⟩:=q2;refine⟨_,q1,?_⟩;simp only[RV];exact⟨ad,0,rfl,Nat.le_refl _,by simp[maxLen],by simp,fun _=> .inl rfl⟩
     ·rw[List.getElem?_set_ne (Ne.symm e)] at iB;exact k5 0 j' cs x0 (by simp) iB)
  have n7:w.setRow g cur=w:=setRow_self w g cur e0 (0,0) k1;rw[n7] at lJ;exact⟨_,lJ⟩
section
variable {env:Env} {H:Hp}
theorem qI (m:Option Nat) (t u:Nat) (R:AV→Hp→Prop):ij [(some m,t),(none,u)] R .ret env H=cD (aN m (env t) H) (fun x=>R (.ei [x,env u]) H) .mk:=by
 simp only[ij,jh,ob,cD];cases aN m (env t) H<;>simp[mE]
end
end Go.Am

/- Documents: what lies where. -/
namespace Go.Am
open Go Go.RowKit
inductive Sub:Nat→Int→Tree→Nat→Int→Tree→Prop
 |self (off:Nat) (p:Int) (t:Tree):Sub off p t off p t
 |tU {off:Nat} {p:Int} {t:Tree} {n:Nat} {q:Int} {y:Tree} (a b:List Tree) (k:Tree):t.kids=a++k::b→Sub (off+1+aY a) off k n q y→Sub off p t n q y
def jn (d:Doc) (n:Nat) (q:Int) (y:Tree):Prop:=∃post,d.drop n=y.flat n q++post
theorem Sub.KO {off:Nat} {p:Int} {t:Tree} {n:Nat} {q:Int} {y:Tree} (h:Sub off p t n q y):off≤n∧n+y.dP≤off+t.dP:=by
 induction h with
 |self=>exact⟨Nat.le_refl _,Nat.le_refl _⟩
 |@tU off p t n q y a b k hk _ ih=>
  have h1:=t.ft;rw[hk,c7] at h1;simp only[aY] at h1;omega
theorem yD {α:Type} {a b c:List α} {n:Nat} (h:a.length=n):(a++b).drop n=b:=by subst h;simp
theorem Sub.yE {off:Nat} {p:Int} {t:Tree} {n:Nat} {q:Int} {y:Tree} (h:Sub off p t n q y):∀d:Doc,jn d off p t→jn d n q y:=by
 induction h with
 |self=>exact fun _ h=>h
 |@tU off p t n q y a b k hk _ ih=>
  rintro d ⟨post,h⟩;refine ih d ⟨cT (off+1+aY a+k.dP) off b++post,?_⟩;rw[t.kD,hk] at h;have h2:=(oC h).2;rw[mF] at h2;have h3:d.drop (off+1)=cT (off+1) off a++(cT (off+1+aY a) off (k::b)++post):=by rw[h2];exact List.append_assoc _ _ _
  rw[←List.drop_drop,h3,yD (c:=[]) (kE _ _ _)];simp[cT]
theorem Sub.parent {off:Nat} {p:Int} {t:Tree} {n:Nat} {q:Int} {y:Tree} (h:Sub off p t n q y) :
  (n=off∧q=p∧y=t)∨∃(m:Nat) (z:Tree) (r:Int),q=(m:Int)∧Sub off p t m r z∧m<n∧n+y.dP≤m+z.dP∧y∈z.kids∧off≤m:=by
 induction h with
 |self=>exact .inl ⟨rfl,rfl,rfl⟩
 |@tU off p t n q y a b k hk hs ih=>
  right;rcases ih with⟨rfl,rfl,rfl⟩|⟨m,z,r,e1,e2,e3,e4,e5,e6⟩
  ·have h1:=t.ft;rw[hk,c7] at h1;simp only[aY] at h1;exact⟨off,t,p,rfl,.self _ _ _,by omega,by omega,by rw[hk];simp,Nat.le_refl _⟩
  ·exact⟨m,z,r,e1,.tU a b k hk e2,e3,e4,e5,by omega⟩
theorem Sub.trans {off:Nat} {p:Int} {t:Tree} {n:Nat} {q:Int} {y:Tree} (h:Sub off p t n q y) {m:Nat} {r:Int} {z:Tree} (h2:Sub n q y m r z):Sub off p t m r z:=by
 induction h with
 |self=>exact h2
 |tU a b k hk _ ih=>exact .tU a b k hk (ih h2)
theorem vn:∀(sz:Nat) (t:Tree) (off:Nat) (p:Int) (n:Nat),t.dP≤sz→off≤n→n<off+t.dP→∃q y,Sub off p t n q y:=by
 intro sz
 induction sz with
 |zero=>intro t off p n h;have:=t.ew;omega
 |succ sz ih=>
   intro t off p n h h1 h2
   by_cases e:n=off
   · subst e;exact⟨_,_,.self _ _ _⟩
   · have key:∀(ks a:List Tree),t.kids=a++ks→off+1+aY a≤n→n<off+1+aY a+aY ks→∃q y,Sub off p t n q y:=by
       intro ks
       induction ks with
       |nil=>intro a _ h3 h4;simp[aY] at h4;omega
       |cons k ks Gp=>
         intro a hk h3 h4
         by_cases bz:n<off+1+aY a+k.dP
         · have hc:=t.ft
           rw[hk,c7] at hc
           simp only[aY] at hc
           obtain⟨q,y,hs⟩:=ih k (off+1+aY a) off n (by omega) h3 bz
           exact⟨q,y,.tU a ks k hk hs⟩
         · simp only[aY] at h4
           refine Gp (a++[k]) (by rw[hk];simp) ?_ ?_
           · rw[c7];simp only[aY];omega
           · rw[c7];simp only[aY];omega
     refine key t.kids [] rfl ?_ ?_
     · simp[aY];omega
     · have:=t.ft;simp[aY];omega
theorem jn.node {d:Doc} {n:Nat} {q:Int} {y:Tree} (h:jn d n q y):d[n]?=some (y.node n q):=by
 obtain⟨post,h⟩:=h;rw[y.kD] at h;exact(oC h).1
theorem jn.len {d:Doc} {n:Nat} {q:Int} {y:Tree} (h:jn d n q y):n+y.dP≤d.length:=by
 obtain⟨post,h⟩:=h;have:=congrArg List.length h;rw[List.length_drop,List.length_append,y.ek] at this;have:=y.ew;omega
theorem jn.tU {d:Doc} {n:Nat} {q:Int} {y:Tree} (h:jn d n q y) (a b:List Tree) (k:Tree) (hk:y.kids=a++k::b):jn d (n+1+aY a) n k:=
 (Sub.tU (off:=n) (p:=q) a b k hk (.self _ _ _)).yE d h
theorem rY {t:Tree} {n:Nat} (h:n<(aR t).length):∃q y,jn (aR t) n q y∧Sub 0 (-1) t n q y:=by
 rw[hZ] at h;obtain⟨q,y,hs⟩:=vn t.dP t 0 (-1) n (Nat.le_refl _) (Nat.zero_le _) (by omega);exact⟨q,y,hs.yE _ ⟨[],by simp[aR]⟩,hs⟩
theorem pM:∀{p:Option Bool} {l:List Tree},cM p l=true→∀x∈l,x.gM=true
 |_,[],_,x,hx=>by simp at hx
 |p,y::r,h,x,hx=>by
  simp only[cM,Bool.and_eq_true] at h;simp only[List.mem_cons] at hx;rcases hx with rfl|hx
  ·exact h.1
  ·exact pM h.2.2 x hx
theorem Tree.wx {x:Tree} (h:x.gM=true):cM none x.kids=true:=by
 cases ht:x.text with
 |true=>
  rw[x.tO ht] at h;simp only[Bool.and_eq_true,beq_iff_eq,List.length_eq_zero_iff] at h;rw[h.2.2.2];rfl
 |false=>
  rw[x.tQ ht] at h;simp only[Bool.and_eq_true] at h;exact h.2.2
theorem Sub.gM {off:Nat} {p:Int} {t:Tree} {n:Nat} {q:Int} {y:Tree} (h:Sub off p t n q y):t.gM=true→y.gM=true:=by
 induction h with
 |self=>exact id
 |tU a b k hk _ ih=>exact fun h=>ih (pM (Tree.wx h) k (by rw[hk];simp))
end Go.Am

/- Trees, level by level; how a document is made by a stack. -/
namespace Go.Am
open Go Go.RowKit
def fG (xs:List Tree):List Tree:=xs.flatMap Tree.kids
theorem ln (x:Tree) (r:List Tree):fG (x::r)=x.kids++fG r:=by simp[fG]
theorem pN:∀(xs:List Tree),xs≠[]→eI xs=eI (fG xs)+1
 |[],h=>absurd rfl h
 |[x],_=>by simp[fG,eI,x.ki]
 |x::y::r,_=>by
  have:=pN (y::r) (by simp);rw[ln,lZ];simp only[eI,x.ki] at this ⊢;omega
theorem kF:∀(xs:List Tree),aY xs=xs.length+aY (fG xs)
 |[]=>by simp[fG,aY]
 |x::r=>by rw[ln,c7];simp only[aY,x.ft,kF r,List.length_cons];omega
theorem l5:∀(xs:List Tree),fL (fG xs)+xs.length≤fL xs
 |[]=>by simp[fG,fL]
 |x::r=>by
  have:=l5 r;have:=x.jQ;rw[ln,kC];simp only[fL,List.length_cons];omega
def dU:Nat→List (Tree×Int)→List (Nat×Int)
 |_,[]=>[]
 |n,(t,p)::r=>(n,p)::dU (n+t.dP) r
def e8 (j:Int) (ps:List (Nat×Int)):List Int:=(ps.filter fun x=>x.2==j).map fun x=>(x.1:Int)
def gN:Nat→List (Tree×Int)→List Node
 |_,[]=>[]
 |n,(t,p)::r=>t.flat n p++gN (n+t.dP) r
def fill (ps:List (Nat×Int)):Nat→List Node→List Node
 |_,[]=>[]
 |j,x::r=>{x with kids:=x.kids++e8 j ps}::fill ps (j+1) r
def whole (d:List Node) (l:List (Tree×Int)):List Node:=fill (dU d.length l) 0 d++gN d.length l
theorem oF:∀(n:Nat) (a b:List (Tree×Int)),dU n (a++b)=dU n a++dU (n+aY (a.map Prod.fst)) b
 |n,[],b=>by simp[dU,aY]
 |n,(t,p)::a,b=>by simp only[List.cons_append,dU,oF _ a b,List.map_cons,aY,Nat.add_assoc]
theorem oG:∀(n:Nat) (a b:List (Tree×Int)),gN n (a++b)=gN n a++gN (n+aY (a.map Prod.fst)) b
 |n,[],b=>by simp[gN,aY]
 |n,(t,p)::a,b=>by simp only[List.cons_append,gN,oG _ a b,List.map_cons,aY,Nat.add_assoc,List.append_assoc]
theorem ng:∀(n m:Nat) (ks:List Tree),e8 m (dU n (ks.map fun k=>(k,(m:Int))))=cS n ks
 |n,m,[]=>rfl
 |n,m,k::r=>by
  have:=ng (n+k.dP) m r;simp only[List.map_cons,dU,e8] at this ⊢;rw[List.filter_cons_of_pos (by simp)];simp only[List.map_cons,cS,this]
theorem l6:∀(n m:Nat) (j:Int) (ks:List Tree),j≠m→e8 j (dU n (ks.map fun k=>(k,(m:Int))))=[]
 |n,m,j,[],_=>rfl
 |n,m,j,k::r,h=>by
  have:=l6 (n+k.dP) m j r h;simp only[List.map_cons,dU,e8] at this ⊢;rw[List.filter_cons_of_neg (by simpa using Ne.symm h)];exact this
theorem nh:∀(n m:Nat) (ks:List Tree),gN n (ks.map fun k=>(k,(m:Int)))=cT n m ks
 |n,m,[]=>rfl
 |n,m,k::r=>by simp only[List.map_cons,gN,cT,nh _ m r]
theorem oH (j:Int) (a b:List (Nat×Int)):e8 j (a++b)=e8 j a++e8 j b:=by simp[e8]
theorem ni (j:Int) (n:Nat) (p:Int) (b:List (Nat×Int)):e8 j ((n,p)::b)=(if p=j then [(n:Int)] else [])++e8 j b:=by
 simp only[e8,List.filter_cons];by_cases h:p=j<;>simp[h]
theorem oI (ps:List (Nat×Int)):∀(d:List Node) (j i:Nat),(fill ps j d)[i]?=d[i]?.map fun x=>{x with kids:=x.kids++e8 ((j+i:Nat):Int) ps}
 |[],j,i=>by simp[fill]
 |x::r,j,0=>by simp[fill]
 |x::r,j,i+1=>by simp only[fill,List.getElem?_cons_succ,oI ps r (j+1) i,show j+1+i=j+(i+1) by omega]
theorem kj (ps:List (Nat×Int)):∀(d:List Node) (j:Nat),(fill ps j d).length=d.length
 |[],j=>rfl
 |x::r,j=>by simp[fill,kj ps r]
theorem rZ:∀(d:List Node) (j:Nat),fill [] j d=d
 |[],j=>rfl
 |x::r,j=>by simp[fill,e8,rZ r]
def gn (d:List Node) (p n:Int):List Node:=
 if 0≤p then match d[p.toNat]? with
  |some x=>d.set p.toNat {x with kids:=x.kids++[n]}
  |none=>d
 else d
theorem oJ (d:List Node) (p n:Int):(gn d p n).length=d.length:=by
 unfold gn;split
 ·split<;>simp
 ·rfl
theorem tV (d:List Node) (t:Tree) (p:Int) (r:List (Tree×Int)) (hp:p<d.length) (hr:∀x∈r,x.2<(d.length:Int)) :
   whole d ((t,p)::r)=whole (gn (d++[⟨t.text,t.s,t.attrs,p,[]⟩]) p d.length) (t.kids.map (fun k=>(k,(d.length:Int)))++r):=by
 have hlen:(gn (d++[⟨t.text,t.s,t.attrs,p,[]⟩]) p d.length).length=d.length+1:=by rw[oJ];simp
 have hc:d.length+t.dP=d.length+1+aY ((t.kids.map fun k=>(k,(d.length:Int))).map Prod.fst):=by
   rw[t.ft,List.map_map,show(Prod.fst∘fun k:Tree=>(k,(d.length:Int)))=id from rfl,List.map_id];omega
 unfold whole
 rw[hlen,oF,oG,nh,←hc]
 simp only[dU,gN,t.kD]
 have vo:((d.length:Int))≠p:=by omega
 have key:fill (dU (d.length+1) (t.kids.map fun k=>(k,(d.length:Int)))++dU (d.length+t.dP) r) 0 (gn (d++[⟨t.text,t.s,t.attrs,p,[]⟩]) p d.length) =
     fill ((d.length,p)::dU (d.length+t.dP) r) 0 d++[{t.node d.length p with kids:=cS (d.length+1) t.kids++e8 d.length (dU (d.length+t.dP) r)}]:=by
   apply List.ext_getElem?
   intro i
   rw[oI]
   simp only[Nat.zero_add]
   have IE:(gn (d++[⟨t.text,t.s,t.attrs,p,[]⟩]) p d.length)[i]?=(d++[⟨t.text,t.s,t.attrs,p,[]⟩])[i]?.map fun x=>if(i:Int)=p then {x with kids:=x.kids++[(d.length:Int)]} else x:=by
     unfold gn
     by_cases h0:0≤p
     · rw[if_pos h0]
       obtain⟨q,rfl⟩:=Int.eq_ofNat_of_zero_le h0
       have hq:q<d.length:=by omega
       rw[Int.toNat_natCast,List.getElem?_append_left hq,List.getElem?_eq_getElem hq]
       simp only
       rw[List.getElem?_set]
       by_cases e:q=i
       · subst e
         rw[if_pos rfl,if_pos (by simp;omega),List.getElem?_append_left hq,List.getElem?_eq_getElem hq]
         simp
       · rw[if_neg e]
         have:¬(i:Int)=(q:Int):=by omega
         cases (d++[(⟨t.text,t.s,t.attrs,(q:Int),[]⟩:Node)])[i]?<;>simp[this]
     · rw[if_neg h0]
       have:¬(i:Int)=p:=by omega
       cases (d++[(⟨t.text,t.s,t.attrs,p,[]⟩:Node)])[i]?<;>simp[this]
   rw[IE]
   by_cases hi:i<d.length
   · rw[List.getElem?_append_left hi,List.getElem?_append_left (by rw[kj];exact hi),oI,List.getElem?_eq_getElem hi]
     simp only[Option.map_some,Nat.zero_add]
     congr 1
     rw[oH,ni,l6 _ _ _ _ (by omega)]
     by_cases e:(i:Int)=p
     · rw[if_pos e,if_pos e.symm];simp
     · rw[if_neg e,if_neg (Ne.symm e)]
   · by_cases e : i = d.length
     · subst e
       rw[List.getElem?_append_right (Nat.le_refl _),List.getElem?_append_right (by rw[kj];exact Nat.le_refl _),kj,Nat.sub_self]
       simp only[List.getElem?_cons_zero,Option.map_some]
       rw[if_neg vo]
       congr 1
       rw[oH,ng]
       rfl
     · rw[List.getElem?_eq_none (by simp;omega),List.getElem?_eq_none (by rw[List.length_append,kj];simp;omega)];rfl
 rw[key]
 have pa:∀(n:Nat) (r:List (Tree×Int)),(∀x∈r,x.2<(d.length:Int))→e8 d.length (dU n r)=[]:=by
   intro n r
   induction r generalizing n with
   |nil=>intro _;rfl
   |cons x r ih=>
     obtain⟨t',p'⟩:=x
     intro h
     have h1:=h (t',p') (by simp)
     simp only[dU,ni]
     rw[if_neg (by simp only at h1;omega),ih _ (fun y hy=>h y (by simp[hy]))];rfl
 rw[pa _ r hr]
 simp[Tree.node]
theorem wy (d:List Node):whole d []=d:=by simp[whole,dU,gN,rZ]
theorem r6 (t:Tree):whole [] [(t,-1)]=aR t:=by simp[whole,dU,gN,fill,aR]
end Go.Am

/- Documents, by who has which parent. -/
namespace Go.Am
open Go Go.RowKit
def bA (m:Int):Nat→List Node→List Nat
 |_,[]=>[]
 |j,x::r=>(if x.parent=m then [j] else [])++bA m (j+1) r
theorem gp (m:Int):∀(j:Nat) (a b:List Node),bA m j (a++b)=bA m j a++bA m (j+a.length) b
 |j,[],b=>by simp[bA]
 |j,x::a,b=>by simp only[List.cons_append,bA,gp m (j+1) a b,List.length_cons,List.append_assoc,Nat.add_comm 1,Nat.add_assoc]
theorem lr (m:Int):∀(j:Nat) (a:List Node) (k:Nat),k∈bA m j a↔j≤k∧∃x,a[k - j]?=some x∧x.parent=m
 |j,[],k=>by simp[bA]
 |j,x::a,k=>by
  simp only[bA,List.mem_append,lr m (j+1) a k];constructor
  ·rintro(h|⟨h1,y,h2,h3⟩)
   ·split at h
    ·rename_i hp;simp only[List.mem_singleton] at h;subst h;exact⟨Nat.le_refl _,x,by simp,hp⟩
    ·simp at h
   ·exact⟨by omega,y,by rw[show k - j=(k - (j+1))+1 by omega];simpa using h2,h3⟩
  ·rintro⟨h1,y,h2,h3⟩;by_cases e:k=j
   ·subst e;simp only[Nat.sub_self,List.getElem?_cons_zero,Option.some.injEq] at h2;subst h2;left;rw[if_pos h3];simp
   ·right;rw[show k - j=(k - (j+1))+1 by omega,List.getElem?_cons_succ] at h2;exact⟨by omega,y,h2,h3⟩
mutual
theorem Tree.vp (off:Nat) (p m:Int):∀x:Tree,(m<off∨(off+x.dP:Nat)≤m)→bA m off (x.flat off p)=if p=m then [off] else []
 | .mk t s as ks,h=>by
  simp only[Tree.flat,bA];simp only[Tree.dP] at h;rw[l7 (off+1) off m ks (by omega) (by omega)];simp
theorem l7 (off p:Nat) (m:Int):∀xs:List Tree,(m<off∨(off+aY xs:Nat)≤m)→(p:Int)≠m→bA m off (cT off p xs)=[]
 |[],_,_=>rfl
 |k::r,h,hp=>by
  simp only[aY] at h;simp only[cT,gp,k.ek];rw[k.vp off p m (by omega),l7 (off+k.dP) p m r (by omega) hp,if_neg hp];rfl
end
def d_ (off:Nat):List Tree→List Nat
 |[]=>[]
 |k::r=>off::d_ (off+k.dP) r
theorem pO:∀(off:Nat) (xs:List Tree),(d_ off xs).map (fun k:Nat=>(k:Int))=cS off xs
 |_,[]=>rfl
 |off,k::r=>by simp[d_,cS,pO _ r]
theorem pP (off p:Nat):∀xs:List Tree,p<off→bA p off (cT off p xs)=d_ off xs
 |[],_=>rfl
 |k::r,h=>by
  simp only[cT,gp,k.ek,d_];rw[k.vp off p p (by omega),pP (off+k.dP) p r (by omega)];simp
theorem Sub.IF {off:Nat} {p:Int} {t:Tree} {n:Nat} {q:Int} {y:Tree} (h:Sub off p t n q y):p<off→bA n off (t.flat off p)=d_ (n+1) y.kids:=by
 induction h with
 |self off p t=>
  intro hp;rw[t.kD];simp only[bA];rw[if_neg (show ¬(t.node off p).parent=(off:Int) by show ¬p=(off:Int);omega),pP (off+1) off t.kids (by omega)];rfl
 |@tU off p t n q y a b k hk hs ih=>
  intro hp;have hr:=hs.KO;have h1:=t.ft;rw[hk,c7] at h1;simp only[aY] at h1;have hy:=y.ew;rw[t.kD,hk,mF];simp only[bA,gp,kE,cT,k.ek];rw[if_neg (show ¬(t.node off p).parent=(n:Int) by show ¬p=(n:Int);omega),l7 (off+1) off n a (by omega) (by omega),ih (by omega),l7 (off+1+aY a+k.dP) off n b (by omega) (by omega)];simp
theorem r7 {t:Tree} {n:Nat} {q:Int} {y:Tree} (h:Sub 0 (-1) t n q y):bA n 0 (aR t)=d_ (n+1) y.kids:=h.IF (by omega)
def fj (d:Doc):Nat→Nat→Tree
 |0,_=> .mk false [] [] []
 |f+1,n=>match d[n]? with
  |some x=> .mk x.text x.s x.attrs ((bA n (n+1) (d.drop (n+1))).map (fj d f))
  |none=> .mk false [] [] []
theorem r8 {d:Doc} {m:Int} {n:Nat} (h:∀k∈bA m 0 d,n≤k) (hn:n≤d.length):bA m n (d.drop n)=bA m 0 d:=by
 have e:d=d.take n++d.drop n:=(List.take_append_drop n d).symm
 have h2:bA m 0 d=bA m 0 (d.take n)++bA m n (d.drop n):=by
  conv=>lhs;rw[e]
  rw[gp,List.length_take,Nat.min_eq_left hn,Nat.zero_add]
 have h3:bA m 0 (d.take n)=[]:=by
  apply List.eq_nil_iff_forall_not_mem.2;intro k hk;have:=h k (by rw[h2];simp[hk]);obtain⟨_,x,hx,_⟩:=(lr m 0 _ k).1 hk;have:=(List.getElem?_eq_some_iff.1 hx).1;simp at this;omega
 rw[h2,h3];rfl
theorem oK:∀(off:Nat) (xs:List Tree),∀k∈d_ off xs,off≤k
 |_,[],k,h=>by simp[d_] at h
 |off,x::r,k,h=>by
  simp only[d_,List.mem_cons] at h;rcases h with rfl|h
  ·exact Nat.le_refl _
  ·have:=oK _ r k h;omega
theorem r9 {t:Tree}:∀(f:Nat) (n:Nat) (q:Int) (y:Tree),Sub 0 (-1) t n q y→y.dep≤f→fj (aR t) f n=y:=by
 intro f
 induction f with
 |zero=>intro n q y _ h;rw[y.ki] at h;omega
 |succ f ih=>
  intro n q y hs hd;have hl:=hs.yE (aR t) ⟨[],by simp[aR]⟩;have vq:=hl.node;have hlen:=hl.len;have hp:=r7 hs;have hy:=y.ew;unfold fj;rw[vq];simp only[Tree.node];rw[r8 (by rw[hp];exact oK _ _) (by omega),hp]
  have kids:∀(b a:List Tree),y.kids=a++b→(d_ (n+1+aY a) b).map (fj (aR t) f)=b:=by
   intro b
   induction b with
   |nil=>intro a _;rfl
   |cons k b IG=>
    intro a hk;simp only[d_,List.map_cons]
    have IH:k.dep≤f:=by
     have h1:=y.ki;rw[hk,lZ] at h1;simp only[eI] at h1;omega
    rw[ih _ n k (hs.trans (.tU a b k hk (.self _ _ _))) IH];have:=IG (a++[k]) (by rw[hk];simp);rw[c7] at this;simp only[aY,Nat.add_zero] at this;rw[show n+1+aY a+k.dP=n+1+(aY a+k.dP) by omega,this]
  have:=kids y.kids [] rfl;simp only[aY,Nat.add_zero] at this;rw[this];cases y;rfl
end Go.Am

/- Documents: what is told of them. -/
namespace Go.Am
open Go Go.RowKit
noncomputable def yF (d:Doc) (n:Int):Tree×Int:=if cq d=true then(if 0≤n∧n<d.length then(fj d d.length n.toNat,0) else(.mk false [] [] [],3)) else(.mk false [] [] [],1)
def kk (x:Tree):Doc×Int:=if x.fM=true then(aR x,0) else([],1)
section
variable {t:Tree}
theorem yG (ht:t.fM=true) {n:Nat} {q:Int} {y:Tree} (hs:Sub 0 (-1) t n q y):yF (aR t) n=(y,0):=by
 have h:=hs.yE (aR t) ⟨[],by simp[aR]⟩;have hl:=h.len;have hc:=y.ew;unfold yF;rw[if_pos (oE ht),if_pos ⟨by omega,by omega⟩,Int.toNat_natCast]
 have hd:y.dep≤(aR t).length:=by
  have h1:=(gK t).1 ht
  have h2:∀x:Tree,x.dep≤x.dP:=by
   have key:∀n:Nat,(∀x:Tree,x.dP≤n→x.dep≤x.dP)∧∀xs:List Tree,aY xs≤n→eI xs≤aY xs:=by
    intro n
    induction n with
    |zero=>exact⟨fun x h=>by have:=x.ew;omega,fun xs h=>by cases xs with|nil=>simp[eI]|cons a r=>have:=a.ew;simp[aY] at h;omega⟩
    |succ n ih=>
     have one:∀x:Tree,x.dP≤n+1→x.dep≤x.dP:=fun x h=>by
      have:=ih.2 x.kids (by have:=x.ft;omega);rw[x.ki,x.ft];omega
     refine⟨one,fun xs=> ?_⟩
     induction xs with
     |nil=>intro _;simp[eI]
     |cons a r II=>
      intro h;simp only[aY] at h;have:=a.ew;have:=one a (by omega);have:=II (by omega);simp only[eI,aY];omega
   exact fun x=>(key x.dP).1 x (Nat.le_refl _)
  have:=h2 y;omega
 rw[r9 _ n q y hs hd]
end
end Go.Am

/- Documents: made; walked; the trees in them. -/
namespace Go.Am
open Go Go.RowKit
def Doc.av (d:Doc):AV:= .agg [.list (d.map Node.iv)]
section
variable {P:Program} {G:Nat→Option (List IV)}
end
def jG (dI:Nat):AC:=
(.seq (.au [⟨some 5,none,.box (.t 0)⟩,⟨some 10,none,.af (.c (.bool false))⟩]) (.seq (.seq (.au [⟨some 13,none,.af (.t 1)⟩,⟨some 14,none,.af (.t 4)⟩,⟨some 15,none,.mq (.t 14)⟩,⟨some 16,none,.load none (.t 15)⟩,⟨some 17,none,.bin .neq (.t 13) (.t 16)⟩,⟨some 18,none,.af (.t 17)⟩,⟨some 19,(some (18,false)),(.af (.t 1))⟩,⟨some 20,(some (18,false)),(.bU (.t 5) 0)⟩,⟨some 21,(some (18,false)),(.load none (.t 20))⟩,⟨some 22,(some (18,false)),(.len (.t 21))⟩,⟨some 23,(some (18,false)),(.bin .geq (.t 19) (.t 22))⟩,⟨some 24,none,.pick (.t 18) (.c (.bool true)) (.t 23)⟩,⟨some 25,none,.af (.t 24)⟩,⟨some 26,(some (25,false)),(.bU (.t 5) 0)⟩,⟨some 27,(some (25,false)),(.load none (.t 26))⟩,⟨some 28,(some (25,false)),(.af (.t 1))⟩,⟨some 29,(some (25,false)),(.fH (.t 27) (.t 28) 5)⟩,⟨some 30,(some (25,false)),(.bU (.t 29) 3)⟩,⟨some 31,(some (25,false)),(.load none (.t 30))⟩,⟨some 32,(some (25,false)),(.af (.t 2))⟩,⟨some 33,(some (25,false)),(.bin .neq (.t 31) (.t 32))⟩,⟨some 34,none,.pick (.t 25) (.c (.bool true)) (.t 33)⟩,⟨some 35,none,.af (.t 34)⟩,⟨some 36,(some (35,false)),(.af (.t 3))⟩,⟨some 37,(some (35,false)),(.bin .gtr (.t 36) (.c (.int .i64 8)))⟩,⟨some 38,none,.pick (.t 35) (.c (.bool true)) (.t 37)⟩]) (.cond (.t 38) (.seq (.au [⟨some 10,none,.af (.c (.bool false))⟩]) .ret) .skip)) (.seq (.au [⟨some 39,none,.af (.t 4)⟩,⟨some 40,none,.mq (.t 39)⟩,⟨some 41,none,.load none (.t 40)⟩,⟨some 42,none,.bin .add (.t 41) (.c (.int .i64 1))⟩,⟨some 43,none,.mq (.t 39)⟩,⟨none,none,.store 1 (.t 43) (.t 42)⟩]) (.seq (.seq (.au [⟨some 44,none,.bU (.t 5) 0⟩,⟨some 45,none,.load none (.t 44)⟩,⟨some 46,none,.af (.t 1)⟩,⟨some 47,none,.fH (.t 45) (.t 46) 5⟩,⟨some 48,none,.bU (.t 47) 4⟩,⟨some 49,none,.load none (.t 48)⟩,⟨some 50,none,.len (.t 49)⟩,⟨some 51,none,.af (.c (.int .i64 0))⟩]) (.block 0 (.loop (.seq (.au [⟨some 52,none,.bin .lss (.t 51) (.t 50)⟩]) (.seq (.cond (.t 52) .skip (.exit 0)) (.seq (.block 1 (.seq (.au [⟨some 53,none,.fH (.t 49) (.t 51) 1⟩,⟨some 54,none,.load none (.t 53)⟩,⟨some 12,none,.af (.t 54)⟩]) (.seq (.au [⟨some 55,none,.load (some 1) (.t 5)⟩,⟨some 56,none,.af (.t 12)⟩,⟨some 57,none,.af (.t 1)⟩,⟨some 58,none,.af (.t 3)⟩,⟨some 59,none,.bin .add (.t 58) (.c (.int .i64 1))⟩,⟨some 60,none,.af (.t 4)⟩,⟨some 61,none,.call dI [(.t 55),(.t 56),(.t 57),(.t 59),(.t 60)]⟩,⟨some 62,none,.not (.t 61)⟩]) (.cond (.t 62) (.seq (.au [⟨some 10,none,.af (.c (.bool false))⟩]) .ret) .skip)))) (.au [⟨some 63,none,.bin .add (.t 51) (.c (.int .i64 1))⟩,⟨some 51,none,.af (.t 63)⟩]))))))) (.seq (.au [⟨some 10,none,.af (.c (.bool true))⟩]) .ret)))))
theorem BE {d:Doc} {f:Nat} {n p nx:Int} {x:Node} (hn:n=nx) (hx:d[n.toNat]?=some x) (hp:x.parent=p):wk d (f+1) n p nx=x.kids.foldlM (fun q k=>wk d f k n q) (nx+1):=by
 rw[wk,if_pos hn,hx];simp[hp]
theorem yH {d:Doc}:∀{f:Nat} {n p nx v:Int},0≤nx→wk d f n p nx=some v→nx<v∧v≤d.length:=by
 intro f n p nx v h0 h
 have hn:n=nx:=by
  cases f with
  |zero=>simp[wk] at h
  |succ f=>rw[wk] at h;split at h;assumption;simp at h
 obtain⟨m,rfl⟩:∃m:Nat,nx=m:=⟨nx.toNat,by omega⟩;obtain⟨_,x,_,⟨post,h2⟩,rfl⟩:=vm d f m n p v h;have hc:=x.ew;have:=congrArg List.length h2;rw[List.length_drop,List.length_append,x.ek] at this;omega
theorem Doc.er {d:Doc} {n:Nat} {x:Node} (h:d[n]?=some x):(d.map Node.iv)[n]?=some x.iv:=by rw[List.getElem?_map,h];rfl
theorem oL (l:List Int) (i:Nat):(l.map bl)[i]?=(l[i]?).map bl:=List.getElem?_map ..
theorem Cz {d:Doc} {f:Nat} {n p nx:Int} (h:n≠nx):wk d f n p nx=none:=by
 cases f with
 |zero=>rfl
 |succ f=>rw[wk,if_neg h]
theorem Ed {d:Doc} {f:Nat} {n p nx:Int} (h:d[n.toNat]?=none):wk d f n p nx=none:=by
 cases f with
 |zero=>rfl
 |succ f=>rw[wk,h];simp
theorem Ee {d:Doc} {f:Nat} {n p nx:Int} {x:Node} (h:d[n.toNat]?=some x) (hp:x.parent≠p):wk d f n p nx=none:=by
 cases f with
 |zero=>rfl
 |succ f=>rw[wk,h];simp[hp]
theorem Gw {P : Program} {G : Nat → Option (List IV)} {dI : Nat} (hF : aB P G dI = some (64,[(none,10)],(jG dI).bare)) (d : Doc) (hd : d.length ≤ B) (hk : ∀ x ∈ d,x.kids.length ≤ B) : ∀ (f : Nat) (n p nx : Int),f ≤ 8 → 0 ≤ nx → nx ≤ B →
   lV P G dI [Doc.av d,.int .i64 n,.int .i64 p,.int .i64 (9 - (f:Int)),.ptr (.par 0) 1 0 0] [.int .i64 nx] fun x cs=>∃v,x= .bool (wk d f n p nx).isSome∧cs=[.int .i64 v]∧∀r,wk d f n p nx=some r→v=r:=by
 intro f
 induction f with
 |zero=>
   intro n p nx hf h0 hB
   refine jj hF (by simp) (by simp[ah,AV.ar,Doc.av]) (by simp[ah,AV.ar]) ?_
   unfold jG
   have IJ:decide ((9:Int) - ((0:Nat):Int)>8)=true:=by decide
   simp only[↓aX,mX,reduceCtorEq,Nat.reduceEqDiff,Nat.reduceLT,Nat.reduceLeDiff,Nat.reduceAdd,Nat.reduceMul,Int.reduceToNat,Int.reduceLE,Int.reduceLT,Doc.av,ke]
   cases h1:(n !=nx) with
   |true=>
     simp only[↓aX,mX,reduceCtorEq,Nat.reduceEqDiff,Nat.reduceLT,Nat.reduceLeDiff,Nat.reduceAdd,Nat.reduceMul,Int.reduceToNat,Int.reduceLE,Int.reduceLT]
     exact⟨_,⟨nx,rfl,rfl,by simp[wk]⟩,rfl,rfl,rfl,rfl⟩
   |false=>
     have:n=nx:=by simpa using h1
     subst this
     obtain⟨m,rfl⟩:∃m:Nat,n=m:=⟨n.toNat,by omega⟩
     cases hx:d[m]? with
     |none=>
       have mn:decide ((m:Int)≥(d.length:Int))=true:=by
         have:=List.getElem?_eq_none_iff.1 hx
         simp;omega
       simp only[↓aX,mX,reduceCtorEq,Nat.reduceEqDiff,Nat.reduceLT,Nat.reduceLeDiff,Nat.reduceAdd,Nat.reduceMul,Int.reduceToNat,Int.reduceLE,Int.reduceLT,List.length_map,mn]
       exact⟨_,⟨m,rfl,rfl,by simp[wk]⟩,rfl,rfl,rfl,rfl⟩
     |some x=>
       have bz:=(List.getElem?_eq_some_iff.1 hx).1
       have mn:decide ((m:Int)≥(d.length:Int))=false:=by simp;omega
       simp only[↓aX,mX,reduceCtorEq,Nat.reduceEqDiff,Nat.reduceLT,Nat.reduceLeDiff,Nat.reduceAdd,Nat.reduceMul,Int.reduceToNat,Int.reduceLE,Int.reduceLT,List.length_map,mn,Doc.er hx,gJ,Node.aU,Node.cs]
       cases h2:(x.parent !=p) with
       |true=>
         simp only[↓aX,mX,reduceCtorEq,Nat.reduceEqDiff,Nat.reduceLT,Nat.reduceLeDiff,Nat.reduceAdd,Nat.reduceMul,Int.reduceToNat,Int.reduceLE,Int.reduceLT]
         exact⟨_,⟨m,rfl,rfl,by simp[wk]⟩,rfl,rfl,rfl,rfl⟩
       |false=>
         simp only[↓aX,mX,reduceCtorEq,Nat.reduceEqDiff,Nat.reduceLT,Nat.reduceLeDiff,Nat.reduceAdd,Nat.reduceMul,Int.reduceToNat,Int.reduceLE,Int.reduceLT,IJ]
         exact⟨_,⟨m,rfl,rfl,by simp[wk]⟩,rfl,rfl,rfl,rfl⟩
 |succ f ih=>
   intro n p nx hf h0 hB
   refine jj hF (by simp) (by simp[ah,AV.ar,Doc.av]) (by simp[ah,AV.ar]) ?_
   unfold jG
   have IJ:decide ((9:Int) - ((f+1:Nat):Int)>8)=false:=by simp;omega
   have KP:IntKind.i64.wrap ((9:Int) - ((f+1:Nat):Int)+1)=9 - (f:Int):=by rw[wrap64 (by omega) (by omega)];omega
   simp only[↓aX,mX,reduceCtorEq,Nat.reduceEqDiff,Nat.reduceLT,Nat.reduceLeDiff,Nat.reduceAdd,Nat.reduceMul,Int.reduceToNat,Int.reduceLE,Int.reduceLT,Doc.av,ke]
   cases h1:(n !=nx) with
   |true=>
     have uU:n≠nx:=by simpa using h1
     simp only[↓aX,mX,reduceCtorEq,Nat.reduceEqDiff,Nat.reduceLT,Nat.reduceLeDiff,Nat.reduceAdd,Nat.reduceMul,Int.reduceToNat,Int.reduceLE,Int.reduceLT]
     exact⟨_,⟨nx,by rw[Cz uU];rfl,rfl,by rw[Cz uU];simp⟩,rfl,rfl,rfl,rfl⟩
   |false=>
     have:n=nx:=by simpa using h1
     subst this
     obtain⟨m,rfl⟩:∃m:Nat,n=m:=⟨n.toNat,by omega⟩
     cases hx:d[m]? with
     |none=>
       have mn:decide ((m:Int)≥(d.length:Int))=true:=by
         have:=List.getElem?_eq_none_iff.1 hx
         simp;omega
       have Ef:wk d (f+1) (m:Int) p (m:Int)=none:=Ed (by simpa using hx)
       simp only[↓aX,mX,reduceCtorEq,Nat.reduceEqDiff,Nat.reduceLT,Nat.reduceLeDiff,Nat.reduceAdd,Nat.reduceMul,Int.reduceToNat,Int.reduceLE,Int.reduceLT,List.length_map,mn]
       exact⟨_,⟨m,by rw[Ef];rfl,rfl,by rw[Ef];simp⟩,rfl,rfl,rfl,rfl⟩
     |some x=>
       have bz:=(List.getElem?_eq_some_iff.1 hx).1
       have mn:decide ((m:Int)≥(d.length:Int))=false:=by simp;omega
       have KQ:=hk x (List.mem_of_getElem? hx)
       have E9:IntKind.i64.wrap ((m:Int)+1)=(m:Int)+1:=wrap64 (by omega) (by unfold B at hd;omega)
       simp only[↓aX,mX,reduceCtorEq,Nat.reduceEqDiff,Nat.reduceLT,Nat.reduceLeDiff,Nat.reduceAdd,Nat.reduceMul,Int.reduceToNat,Int.reduceLE,Int.reduceLT,List.length_map,mn,Doc.er hx,gJ,Node.aU,Node.cs]
       cases h2:(x.parent !=p) with
       |true=>
         have Ef:wk d (f+1) (m:Int) p (m:Int)=none:=Ee (by simpa using hx) (by simpa using h2)
         simp only[↓aX,mX,reduceCtorEq,Nat.reduceEqDiff,Nat.reduceLT,Nat.reduceLeDiff,Nat.reduceAdd,Nat.reduceMul,Int.reduceToNat,Int.reduceLE,Int.reduceLT]
         exact⟨_,⟨m,by rw[Ef];rfl,rfl,by rw[Ef];simp⟩,rfl,rfl,rfl,rfl⟩
       |false=>
         have hp:x.parent=p:=by simpa using h2
         have fW:=BE (d:=d) (f:=f) (n:=m) (nx:=m) rfl (by simpa using hx) hp
         simp only[↓aX,mX,reduceCtorEq,Nat.reduceEqDiff,Nat.reduceLT,Nat.reduceLeDiff,Nat.reduceAdd,Nat.reduceMul,Int.reduceToNat,Int.reduceLE,Int.reduceLT,IJ,E9,List.length_map,Doc.er hx,gJ,Node.aU,Node.cs]
         refine eo (σ:={q:Nat×Int // q.1≤x.kids.length∧0≤q.2∧q.2≤d.length∧wk d (f+1) (m:Int) p (m:Int)=(x.kids.drop q.1).foldlM (fun q k=>wk d f k (m:Int) q) q.2}) [.par 0,.loc 5]
           (fun q=>[(1,.int .i64 m),(3,.int .i64 (9 - ((f+1:Nat):Int))),(4,.ptr (.par 0) 1 0 0),(5,.ptr (.loc 5) 1 0 0),(49,.list (x.kids.map bl)),(50,.int .i64 x.kids.length),(51,.int .i64 q.1.1)])
           (fun q=>[(.par 0,⟨1,[[.int .i64 q.1.2]]⟩),(.loc 5,⟨1,[[.list (d.map Node.iv)]]⟩)]) (fun q=>x.kids.length - q.1.1) ⟨(0,(m:Int)+1),by simp,by simp only;omega,by simp only;omega,by rw[fW];rfl⟩
           (fun _=>rfl) (by decide) (by simp[ah,AV.ar]) (by simp[ah,AV.ar]) ?_ ?_
         · refine dT ?_ (by repeat' constructor) (by repeat' constructor)
           intro l hl hu
           by_cases e:l= .par 0
           · subst e;simp
           · exfalso;apply hu;cases l<;>simp_all[Lb.fresh,ae,Hp.none]
         · rintro⟨⟨i,q⟩,hi,FD,Cy,hs⟩
           simp only at hi FD Cy hs
           simp only[↓aX,mX,reduceCtorEq,Nat.reduceEqDiff,Nat.reduceLT,Nat.reduceLeDiff,Nat.reduceAdd,Nat.reduceMul,Int.reduceToNat,Int.reduceLE,Int.reduceLT,cb,bO]
           by_cases bz:i<x.kids.length
           · obtain⟨k,yz⟩:∃k,x.kids[i]?=some k:=⟨_,List.getElem?_eq_getElem bz⟩
             have hw:IntKind.i64.wrap ((i:Int)+1)=((i+1:Nat):Int):=wrap64 (by omega) (by unfold B at KQ;omega)
             rw[show decide ((i:Int)<(x.kids.length:Int))=true by simpa using bz]
             simp only[↓aX,mX,reduceCtorEq,Nat.reduceEqDiff,Nat.reduceLT,Nat.reduceLeDiff,Nat.reduceAdd,Nat.reduceMul,Int.reduceToNat,Int.reduceLE,Int.reduceLT,oL,yz,oy,List.length_map,Option.map_some,bl,IV.cells,KP]
             refine hY (l:= .par 0) (ih k m q (by omega) FD (by unfold B at hd ⊢;omega)) rfl (by simp only[↓aX,mX,reduceCtorEq,Nat.reduceEqDiff,Nat.reduceLT,Nat.reduceLeDiff,Nat.reduceAdd,Nat.reduceMul,Int.reduceToNat,Int.reduceLE,Int.reduceLT];try rfl) ?_
             rintro x1 kK ⟨v,rfl,rfl,hv⟩ _ _ _
             have KR:x.kids.drop i=k::x.kids.drop (i+1):=drop_eq yz
             rw[KR,List.foldlM_cons] at hs
             cases hr:wk d f k m q with
             |none=>
               rw[hr] at hs
               simp only[Option.bind_eq_bind,Option.bind_none] at hs
               simp only[↓aX,mX,reduceCtorEq,Nat.reduceEqDiff,Nat.reduceLT,Nat.reduceLeDiff,Nat.reduceAdd,Nat.reduceMul,Int.reduceToNat,Int.reduceLE,Int.reduceLT,Option.isSome_none,Bool.not_false]
               exact⟨_,⟨v,by rw[hs];rfl,rfl,by rw[hs];simp⟩,rfl,rfl,rfl,rfl⟩
             |some r=>
               have KS:=hv r hr
               subst KS
               rw[hr] at hs
               simp only[Option.bind_eq_bind,Option.bind_some] at hs
               have hb:=yH FD hr
               simp only[↓aX,mX,reduceCtorEq,Nat.reduceEqDiff,Nat.reduceLT,Nat.reduceLeDiff,Nat.reduceAdd,Nat.reduceMul,Int.reduceToNat,Int.reduceLE,Int.reduceLT,Option.isSome_some,Bool.not_true,hw]
               refine⟨⟨(i+1,v),bz,by simp only;omega,by simp only;omega,hs⟩,by simp only;omega,dT ?_ (by repeat' constructor) (by repeat' constructor)⟩
               intro l hl hu
               by_cases e:l= .par 0
               · subst e;simp
               · exfalso;apply hu;cases l<;>simp_all[Lb.fresh,ae,Hp.none]
           · have lC:i=x.kids.length:=by omega
             subst lC
             rw[List.drop_length] at hs
             simp only[List.foldlM_nil] at hs
             rw[show decide ((x.kids.length:Int)<(x.kids.length:Int))=false by simp]
             simp only[↓aX,mX,reduceCtorEq,Nat.reduceEqDiff,Nat.reduceLT,Nat.reduceLeDiff,Nat.reduceAdd,Nat.reduceMul,Int.reduceToNat,Int.reduceLE,Int.reduceLT]
             exact⟨_,⟨q,by rw[hs];rfl,rfl,by rw[hs];rintro r h;cases h;rfl⟩,rfl,rfl,rfl,rfl⟩
end Go.Am

/- Documents: the tree at a place. -/
namespace Go.Am
open Go Go.RowKit
theorem iu (rs:List (Lb×Row)):yC (fun _=>false) rs=gU rs:=by
 funext q;unfold yC;cases gU rs q<;>rfl
theorem oM:∀(off:Nat) (xs:List Tree) (i:Nat),i<xs.length→(cS off xs)[i]?=some ((off+aY (xs.take i):Nat):Int)
 |_,[],i,h=>by simp at h
 |off,x::r,0,_=>by simp[cS,aY]
 |off,x::r,i+1,h=>by
  simp only[cS,List.getElem?_cons_succ,List.take_succ_cons,aY];rw[oM (off+x.dP) r i (by simpa using h),Nat.add_assoc]
def l9 (a_ c8:Nat):AC:=
(.seq (.au [⟨some 2,none,.box (.t 0)⟩,⟨some 4,none,.new [(.bool false),(.str []),.nil0,.nil0]⟩]) (.seq (.au [⟨some 9,none,.bU (.t 2) 0⟩,⟨some 10,none,.load none (.t 9)⟩,⟨some 11,none,.af (.t 1)⟩,⟨some 12,none,.fH (.t 10) (.t 11) 5⟩,⟨some 13,none,.load (some 5) (.t 12)⟩,⟨some 5,none,.new [(.bool false),(.str []),.nil0,(.int .i64 0),.nil0]⟩,⟨none,none,.store 5 (.t 5) (.t 13)⟩]) (.seq (.fY [⟨some 14,none,.bU (.t 5) 0⟩,⟨some 15,none,.load none (.t 14)⟩,⟨some 16,none,.bU (.t 5) 1⟩,⟨some 17,none,.load none (.t 16)⟩,⟨some 18,none,.bU (.t 5) 2⟩,⟨some 19,none,.load none (.t 18)⟩,⟨some 20,none,.call a_ [(.t 19)]⟩,⟨some 21,none,.rp [(.bool false),(.str []),.nil0,.nil0] [(0,(1,(.t 15))),(1,(1,(.t 17))),(2,(1,(.t 20)))]⟩,⟨some 6,none,.new [(.bool false),(.str []),.nil0,.nil0]⟩,⟨none,none,.store 4 (.t 6) (.t 21)⟩] [[],[0],[],[2],[],[4],[5],[1,3,6],[],[8,7,6,0,1,2,3,4,5,6,7,8]] [.no,.rw [.loc 5] [],.no,.rw [.loc 5] [],.no,.rw [.loc 5] [],.no,.no,.rw [] [.loc 6],.rw [] [.loc 6]]) (.seq (.gh .nF (.seq (.au [⟨some 22,none,.bU (.t 5) 4⟩,⟨some 23,none,.load none (.t 22)⟩,⟨some 24,none,.len (.t 23)⟩,⟨some 25,none,.af (.c (.int .i64 0))⟩]) (.block 0 (.loop (.seq (.au [⟨some 26,none,.bin .lss (.t 25) (.t 24)⟩]) (.seq (.cond (.t 26) .skip (.exit 0)) (.seq (.block 1 (.seq (.au [⟨some 27,none,.fH (.t 23) (.t 25) 1⟩,⟨some 28,none,.load none (.t 27)⟩,⟨some 8,none,.af (.t 28)⟩]) (.fY [⟨some 29,none,.bU (.t 6) 3⟩,⟨some 30,none,.load none (.t 29)⟩,⟨some 31,none,.load (some 1) (.t 2)⟩,⟨some 32,none,.af (.t 8)⟩,⟨some 33,none,.call c8 [(.t 31),(.t 32)]⟩,⟨some 34,none,.lits 1 4 [(.bool false),(.str []),.nil0,.nil0] [(0,(.t 33))]⟩,⟨some 35,none,.app (.t 30) (.t 34) 4 72⟩,⟨some 36,none,.bU (.t 6) 3⟩,⟨none,none,.store 1 (.t 36) (.t 35)⟩] [[],[0],[],[],[2,3],[4],[1,5,4],[0,1,2,3,4,5,6],[7,6,6,0,1,2,3,4,5,6]] [.no,.rw [.loc 6] [],.rw [.loc 2] [],.no,.no,.no,(.rw [] [.loc 50,.loc 35]),.no,.rw [] [.loc 6]]))) (.au [⟨some 37,none,.bin .add (.t 25) (.c (.int .i64 1))⟩,⟨some 25,none,.af (.t 37)⟩])))))))) (.gh (.tF (.loc 50) (.loc 6) 3) (.seq (.au [⟨some 38,none,.load (some 4) (.t 6)⟩,⟨none,none,.store 4 (.t 4) (.t 38)⟩]) .ret))))))
theorem KT {P:Program} {G:Nat→Option (List IV)} {c8 a_:Nat} (hF:aB P G c8=some (39,[((some (some 4)),4)],(l9 a_ c8).bare)) (d:Doc) (hd:d.length≤B) (n:Nat) (q:Int) (x:Tree) (hL:jn d n q x) (hx:x.wt≤B)
  (hC:ai P G a_ [.list (eh x.attrs)] (.list (eh x.attrs)))
  (hK:∀k∈x.kids,∀(m:Nat) (p:Int),jn d m p k→ai P G c8 [Doc.av d,.int .i64 m] k.av):ai P G c8 [Doc.av d,.int .i64 n] x.av:=by
 refine gI hF (by simp) (by simp[ah,AV.ar,Doc.av]) (by simp[AV.ar,Tree.av,ah]) ?_;have vq:=hL.node;have hlen:=hL.len;have bz:=(List.getElem?_eq_some_iff.1 vq).1;have L4:=x.jQ;have FN:=gy x.kids;have zW:(cS (n+1) x.kids).length=x.kids.length:=jF _ _;unfold l9
 simp only[↓aX,mX,reduceCtorEq,Nat.reduceEqDiff,Nat.reduceLT,Nat.reduceLeDiff,Nat.reduceAdd,Nat.reduceMul,Int.reduceToNat,Int.reduceLE,Int.reduceLT,Doc.av,List.length_map,Doc.er vq,gJ,Node.aU,Node.cs,Tree.node];refine⟨rfl,ik hC ?_⟩;simp only[↓aX,mX,reduceCtorEq,Nat.reduceEqDiff,Nat.reduceLT,Nat.reduceLeDiff,Nat.reduceAdd,Nat.reduceMul,Int.reduceToNat,Int.reduceLE,Int.reduceLT,List.length_map]
 rw[kx];refine⟨_,_,iJ (q:= .loc 6) (cs:=[.bool x.text,.str x.s,.list (eh x.attrs),.nil0]) (j:=3) (d:=50) (sz:=4) rfl rfl (by simp[ae,Hp.none]) (by decide),?_⟩;simp only[↓aX,mX,reduceCtorEq,Nat.reduceEqDiff,Nat.reduceLT,Nat.reduceLeDiff,Nat.reduceAdd,Nat.reduceMul,Int.reduceToNat,Int.reduceLE,Int.reduceLT]
 refine dA (σ:={i:Nat // i≤x.kids.length}) (fun _=>[.loc 2,.loc 4,.loc 6,.loc 50]) (fun _ _=>false)
  (fun q=>[(2,.ptr (.loc 2) 1 0 0),(4,.ptr (.loc 4) 4 0 0),(6,.ptr (.loc 6) 4 0 0),(23,.list ((cS (n+1) x.kids).map bl)),(24,.int .i64 x.kids.length),(25,.int .i64 q.1)])
  (fun q=>[(.loc 2,⟨1,[[.list (d.map Node.iv)]]⟩),(.loc 4,⟨4,[[.bool false,.str [],.nil0,.nil0]]⟩),(.loc 6,⟨4,[[.bool x.text,.str x.s,.list (eh x.attrs),.sl (.loc 50) 4 0 q.1]]⟩),(.loc 50,⟨4,aG (eY (x.kids.take q.1))⟩)])
  (fun q=>x.kids.length - q.1) ⟨0,Nat.zero_le _⟩ (fun _=>rfl) (fun q=>by simp[ah,AV.ar]) ?_ ⟨[],?_⟩ ?_
 ·rintro q r hr cs bx l hl;simp only[List.mem_cons,List.not_mem_nil,or_false] at hr;rcases hr with rfl|rfl|rfl|rfl
  ·simp only[List.mem_singleton] at bx;subst bx;simp[ah,AV.ar] at hl
  ·simp only[List.mem_singleton] at bx;subst bx;simp[ah,AV.ar] at hl
  ·simp only[List.mem_singleton] at bx;subst bx;simp[ah,AV.ar] at hl;subst hl;simp
  ·rw[bY bx] at hl;simp at hl
 ·refine⟨?_,?_,?_,by simp[bq],fun l _=>⟨id,fun _=>rfl⟩⟩
  ·intro l hf hu;exfalso;apply hu;cases l<;>simp_all[Lb.fresh,ae,Hp.none]
  ·simp[iq,bq,bQ,put,zW]
  ·simp[jW,bq,ae,bX,bT,bQ,aG,eY]
 ·rintro⟨i,hi⟩;rw[iu];simp only[↓aX,mX,reduceCtorEq,Nat.reduceEqDiff,Nat.reduceLT,Nat.reduceLeDiff,Nat.reduceAdd,Nat.reduceMul,Int.reduceToNat,Int.reduceLE,Int.reduceLT,cb,bO];by_cases bz:i<x.kids.length
  ·rw[show decide ((i:Int)<(x.kids.length:Int))=true by simpa using bz];obtain⟨k,yz⟩:∃k,x.kids[i]?=some k:=⟨_,List.getElem?_eq_getElem bz⟩;have hw:IntKind.i64.wrap ((i:Int)+1)=((i+1:Nat):Int):=wrap64 (by omega) (by unfold B at hx;omega);have hg:=oM (n+1) x.kids i bz
   simp only[↓aX,mX,reduceCtorEq,Nat.reduceEqDiff,Nat.reduceLT,Nat.reduceLeDiff,Nat.reduceAdd,Nat.reduceMul,Int.reduceToNat,Int.reduceLE,Int.reduceLT,oL,hg,oy,List.length_map,Option.map_some,bl,IV.cells];have KU:=List.mem_of_getElem? yz;have KV:jn d (n+1+aY (x.kids.take i)) n k:=hL.tU (x.kids.take i) (x.kids.drop (i+1)) k (by rw[←drop_eq yz,List.take_append_drop])
   have KW:(eY (x.kids.take i)).length=i:=by rw[bG,List.length_take];omega
   have tm:eY (x.kids.take (i+1))=eY (x.kids.take i)++[.agg [.bool k.text,.str k.s,.list (eh k.attrs),.list (eY k.kids)]]:=by rw[tR yz,nO];simp[eY,Tree.rT,Tree.cs]
   refine⟨rfl,ik (hK k KU _ _ KV) ?_⟩;simp only[↓aX,mX,reduceCtorEq,Nat.reduceEqDiff,Nat.reduceLT,Nat.reduceLeDiff,Nat.reduceAdd,Nat.reduceMul,Int.reduceToNat,Int.reduceLE,Int.reduceLT,Tree.av]
   rw[eX 4 72 35 50 (eY (x.kids.take i)) (.agg [.bool k.text,.str k.s,.list (eh k.attrs),.list (eY k.kids)]) (by simp[ae]) KW rfl (by simp[IV.cells]) (by unfold B at hx;omega) (by decide) (by decide) (by simp[ae,Hp.none])];simp only[↓aX,mX,reduceCtorEq,Nat.reduceEqDiff,Nat.reduceLT,Nat.reduceLeDiff,Nat.reduceAdd,Nat.reduceMul,Int.reduceToNat,Int.reduceLE,Int.reduceLT,hw]
   refine⟨by rintro l (rfl|rfl)<;>simp[Lb.iM],?_⟩;refine⟨⟨i+1,bz⟩,by simp only;omega,[(.loc 50,.loc 35)],?_⟩;refine⟨?_,?_,?_,by simp[bq],?_⟩
   ·intro l hf hu;exfalso;apply hu;cases l<;>simp_all[Lb.fresh,ae,Hp.none]
   ·simp[iq,bq,bQ,put]
   ·have hr:∀xs:List IV,bX (bq [(.loc 50,.loc 35)]) ⟨4,aG xs⟩=⟨4,aG xs⟩:=fun xs=>cr _ _ _
    simp[jW,bq,ae,bX,bT,bQ,tm];simp[aG,lR]
   ·intro l hl;simp only[List.mem_cons,List.not_mem_nil,or_false] at hl;rcases hl with rfl|rfl|rfl|rfl
    ·exact⟨fun _=>rfl,fun _=>rfl⟩
    ·exact⟨fun _=>rfl,fun _=>rfl⟩
    ·exact⟨fun _=>rfl,fun _=>rfl⟩
    ·exact⟨fun _=>rfl,fun h=>by simp[Lb.fresh] at h⟩
  ·have lC:i=x.kids.length:=by omega
   subst lC;rw[show decide ((x.kids.length:Int)<(x.kids.length:Int))=false by simp];simp only[↓aX,mX,reduceCtorEq,Nat.reduceEqDiff,Nat.reduceLT,Nat.reduceLeDiff,Nat.reduceAdd,Nat.reduceMul,Int.reduceToNat,Int.reduceLE,Int.reduceLT,List.take_length];refine⟨4,eY x.kids,0,x.kids.length,[.bool x.text,.str x.s,.list (eh x.attrs),.sl (.loc 50) 4 0 x.kids.length],rfl,rfl,rfl,by simp,by rw[bG];omega,vk _,?_⟩
   simp only[↓aX,mX,reduceCtorEq,Nat.reduceEqDiff,Nat.reduceLT,Nat.reduceLeDiff,Nat.reduceAdd,Nat.reduceMul,Int.reduceToNat,Int.reduceLE,Int.reduceLT,List.drop_zero,List.take_of_length_le (show(eY x.kids).length≤x.kids.length by rw[bG];exact Nat.le_refl _)];rfl
end Go.Am

/- Documents: which are good; what is told of them. -/
namespace Go.Am
open Go Go.RowKit
def Node.wt (x:Node):Nat:=1+x.s.length+pI x.attrs+x.kids.length
def gO:Doc→Nat
 |[]=>0
 |x::r=>x.wt+gO r
theorem l_:∀a b:Doc,gO (a++b)=gO a+gO b
 |[],b=>by simp[gO]
 |x::r,b=>by simp[gO,l_ r b,Nat.add_assoc]
theorem fk:∀d:Doc,d.length≤gO d
 |[]=>by simp
 |x::r=>by have:=fk r;simp only[gO,Node.wt,List.length_cons];omega
theorem kG:∀{d:Doc} {x:Node},x∈d→x.wt≤gO d
 |[],x,h=>by simp at h
 |y::r,x,h=>by
  simp only[List.mem_cons] at h;rcases h with rfl|h
  ·simp[gO]
  ·have:=kG h;simp only[gO];omega
mutual
theorem Tree.vt (off:Nat) (p:Int):∀x:Tree,x.wt≤gO (x.flat off p)
 | .mk t s as ks=>by
  have:=r_ (off+1) off ks;simp only[Tree.flat,gO,Node.wt,Tree.wt];omega
theorem r_ (off p:Nat):∀xs:List Tree,fL xs≤gO (cT off p xs)
 |[]=>by simp[fL]
 |k::r=>by
  have:=k.vt off p;have:=r_ (off+k.dP) p r;simp only[cT,l_,fL];omega
end
theorem jn.wt {d:Doc} {n:Nat} {q:Int} {y:Tree} (h:jn d n q y):y.wt≤gO d:=by
 obtain⟨post,h⟩:=h;have h1:=y.vt n q;have h2:=l_ (d.take n) (d.drop n);rw[List.take_append_drop,h,l_] at h2;omega
section
variable {P:Program} {G:Nat→Option (List IV)}
theorem KX {c8 a_:Nat} (hF:aB P G c8=some (39,[((some (some 4)),4)],(l9 a_ c8).bare)) (hC:∀xs:List Attr,xs.length≤B→ai P G a_ [.list (eh xs)] (.list (eh xs))) (d:Doc) (hd:gO d≤B) (n:Nat) (q:Int) (x:Tree) (hL:jn d n q x) :
  ai P G c8 [Doc.av d,.int .i64 n] x.av:=by
 have key:=BD (M:=fun l=>∀x∈l,∀(n:Nat) (q:Int),jn d n q x→ai P G c8 [Doc.av d,.int .i64 n] x.av)
  (fun l h x hx n q hL=>KT hF d (by have:=fk d;omega) n q x hL (by have:=hL.wt;omega) (hC _ (by have:=hL.wt;have:=l3 x;have:=g_ x.attrs;omega)) fun k hk m p KY=>h x hx k hk m p KY)
 exact key [x] x (by simp) n q hL
end
theorem sa (x:Tree):cq (aR x)=x.fM:=by
 cases h:x.fM with
 |true=>exact oE h
 |false=>exact jm fun⟨y,h1,h2⟩=>by rw[wv h2,h1] at h;cases h
theorem oD.len {d:Doc} (h:oD d):1≤d.length∧d.length≤80:=by
 obtain⟨x,hx,rfl⟩:=h;have:=(gK x).1 hx;have:=x.ew;rw[hZ];omega
theorem oD.wk {d:Doc} (h:oD d):wk d 8 0 (-1) 0=some (d.length:Int):=by
 obtain⟨x,hx,rfl⟩:=h;exact BC ((gK x).1 hx).2.1
def lu (dI c8 iK:Nat):AC:=
(.seq (.au [⟨some 1,none,.box (.t 0)⟩,⟨some 2,none,.af (.c (.bool false))⟩]) (.seq (.seq (.au [⟨some 4,none,.bU (.t 1) 0⟩,⟨some 5,none,.load none (.t 4)⟩,⟨some 6,none,.len (.t 5)⟩,⟨some 7,none,.bin .lss (.t 6) (.c (.int .i64 1))⟩,⟨some 8,none,.af (.t 7)⟩,⟨some 9,(some (8,false)),(.bU (.t 1) 0)⟩,⟨some 10,(some (8,false)),(.load none (.t 9))⟩,⟨some 11,(some (8,false)),(.len (.t 10))⟩,⟨some 12,(some (8,false)),(.bin .gtr (.t 11) (.c (.int .i64 80)))⟩,⟨some 13,none,.pick (.t 8) (.c (.bool true)) (.t 12)⟩]) (.cond (.t 13) (.seq (.au [⟨some 2,none,.af (.c (.bool false))⟩]) .ret) .skip)) (.seq (.au [⟨some 3,none,.new [(.int .i64 0)]⟩,⟨none,none,.store 1 (.t 3) (.c (.int .i64 0))⟩]) (.seq (.seq (.au [⟨some 14,none,.load (some 1) (.t 1)⟩,⟨some 15,none,.call dI [(.t 14),(.c (.int .i64 0)),(.c (.int .i64 (-1))),(.c (.int .i64 1)),(.t 3)]⟩,⟨some 16,none,.not (.t 15)⟩,⟨some 17,none,.af (.t 16)⟩,⟨some 18,(some (17,false)),(.load none (.t 3))⟩,⟨some 19,(some (17,false)),(.bU (.t 1) 0)⟩,⟨some 20,(some (17,false)),(.load none (.t 19))⟩,⟨some 21,(some (17,false)),(.len (.t 20))⟩,⟨some 22,(some (17,false)),(.bin .neq (.t 18) (.t 21))⟩,⟨some 23,none,.pick (.t 17) (.c (.bool true)) (.t 22)⟩]) (.cond (.t 23) (.seq (.au [⟨some 2,none,.af (.c (.bool false))⟩]) .ret) .skip)) (.seq (.au [⟨some 24,none,.load (some 1) (.t 1)⟩,⟨some 25,none,.call c8 [(.t 24),(.c (.int .i64 0))]⟩,⟨some 26,none,.call iK [(.t 25)]⟩,⟨some 2,none,.af (.t 26)⟩]) .ret)))))
theorem yI {P:Program} {G:Nat→Option (List IV)} {cE dI c8 iK:Nat} (hF:aB P G cE=some (27,[(none,2)],(lu dI c8 iK).bare)) (d:Doc) (hd:gO d≤B)
  (hW:lV P G dI [Doc.av d,.int .i64 0,.int .i64 (-1),.int .i64 (9 - ((8:Nat):Int)),.ptr (.par 0) 1 0 0] [.int .i64 0] fun x cs=>∃v,x= .bool (wk d 8 0 (-1) 0).isSome∧cs=[.int .i64 v]∧∀r,wk d 8 0 (-1) 0=some r→v=r)
  (hA:∀x,d=aR x→ai P G c8 [Doc.av d,.int .i64 0] x.av) (hG:∀x,d=aR x→ai P G iK [x.av] (.bool x.fM)):ai P G cE [Doc.av d] (.bool (cq d)):=by
 refine aC hF (by simp) (by simp[ah,AV.ar,Doc.av]) (by simp[AV.ar]) ?_;have hlen:=fk d;unfold lu;simp only[↓aX,mX,reduceCtorEq,Nat.reduceEqDiff,Nat.reduceLT,Nat.reduceLeDiff,Nat.reduceAdd,Nat.reduceMul,Int.reduceToNat,Int.reduceLE,Int.reduceLT,Doc.av,List.length_map];cases h1:decide ((d.length:Int)<1) with
 |true=>
  have:cq d=false:=jm fun h=>by have:=h.len;simp at h1;omega
  simp only[↓aX,mX,reduceCtorEq,Nat.reduceEqDiff,Nat.reduceLT,Nat.reduceLeDiff,Nat.reduceAdd,Nat.reduceMul,Int.reduceToNat,Int.reduceLE,Int.reduceLT,this]
 |false=>
  cases h2:decide ((d.length:Int)>80) with
  |true=>
   have:cq d=false:=jm fun h=>by have:=h.len;simp at h2;omega
   simp only[↓aX,mX,reduceCtorEq,Nat.reduceEqDiff,Nat.reduceLT,Nat.reduceLeDiff,Nat.reduceAdd,Nat.reduceMul,Int.reduceToNat,Int.reduceLE,Int.reduceLT,List.length_map,h2,this]
  |false=>
   simp only[↓aX,mX,reduceCtorEq,Nat.reduceEqDiff,Nat.reduceLT,Nat.reduceLeDiff,Nat.reduceAdd,Nat.reduceMul,Int.reduceToNat,Int.reduceLE,Int.reduceLT,List.length_map,h2];refine hY (l:= .loc 3) hW rfl (by simp only[↓aX,mX,reduceCtorEq,Nat.reduceEqDiff,Nat.reduceLT,Nat.reduceLeDiff,Nat.reduceAdd,Nat.reduceMul,Int.reduceToNat,Int.reduceLE,Int.reduceLT];try rfl) ?_
   rintro x1 kK ⟨v,rfl,rfl,hv⟩ _ _ _;cases hr:wk d 8 0 (-1) 0 with
   |none=>
    have:cq d=false:=jm fun h=>by have:=h.wk;rw[hr] at this;cases this
    simp only[↓aX,mX,reduceCtorEq,Nat.reduceEqDiff,Nat.reduceLT,Nat.reduceLeDiff,Nat.reduceAdd,Nat.reduceMul,Int.reduceToNat,Int.reduceLE,Int.reduceLT,Option.isSome_none,Bool.not_false,this]
   |some r=>
    have:=hv r hr;subst this;simp only[↓aX,mX,reduceCtorEq,Nat.reduceEqDiff,Nat.reduceLT,Nat.reduceLeDiff,Nat.reduceAdd,Nat.reduceMul,Int.reduceToNat,Int.reduceLE,Int.reduceLT,Option.isSome_some,Bool.not_true,List.length_map];cases h3:(v !=(d.length:Int)) with
    |true=>
     have:cq d=false:=jm fun h=>by have:=h.wk;rw[hr] at this;cases this;simp at h3
     simp only[↓aX,mX,reduceCtorEq,Nat.reduceEqDiff,Nat.reduceLT,Nat.reduceLeDiff,Nat.reduceAdd,Nat.reduceMul,Int.reduceToNat,Int.reduceLE,Int.reduceLT,this]
    |false=>
     have EY:v=d.length:=by simpa using h3
     rw[EY] at hr;obtain⟨x,rl,IK⟩:=Eb hr;simp only[↓aX,mX,reduceCtorEq,Nat.reduceEqDiff,Nat.reduceLT,Nat.reduceLeDiff,Nat.reduceAdd,Nat.reduceMul,Int.reduceToNat,Int.reduceLE,Int.reduceLT];refine aj (hA x IK) ?_;simp only[↓aX,mX,reduceCtorEq,Nat.reduceEqDiff,Nat.reduceLT,Nat.reduceLeDiff,Nat.reduceAdd,Nat.reduceMul,Int.reduceToNat,Int.reduceLE,Int.reduceLT];refine aj (hG x IK) ?_
     simp only[↓aX,mX,reduceCtorEq,Nat.reduceEqDiff,Nat.reduceLT,Nat.reduceLeDiff,Nat.reduceAdd,Nat.reduceMul,Int.reduceToNat,Int.reduceLE,Int.reduceLT];rw[IK,sa]
end Go.Am

/- DocBack and DocNests. -/
namespace Go.Am
open Go Go.RowKit
theorem tW (x:Tree):jn (aR x) 0 (-1) x:=⟨[],by simp[aR]⟩
end Go.Am
