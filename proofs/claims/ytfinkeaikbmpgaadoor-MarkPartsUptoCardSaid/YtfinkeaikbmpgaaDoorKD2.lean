import Derived.Test.YtfinkeaikbmpgaaDoorKT1
import Derived.Test.YtfinkeaikbmpgaaDoorKAm24
set_option linter.unusedSimpArgs false
set_option linter.unusedVariables false
set_option linter.unnecessarySimpa false
set_option linter.defProp false
/- Documents: which lists of nodes are some. -/
namespace Go.Am
open Go Go.RowKit
def wk (d:Doc):Nat→Int→Int→Int→Option Int
 |0,_,_,_=>none
 |f+1,n,p,nx=>if n=nx then match d[n.toNat]? with
   |some x=>if x.parent=p then x.kids.foldlM (fun q k=>wk d f k n q) (nx+1) else none
   |none=>none
  else none
def ob {α:Type} {l:List α} {n:Nat} {x:α} {r:List α} (h:l.drop n=x::r):l[n]?=some x∧l.drop (n+1)=r:=by
 have h1:(l.drop n)[0]?=some x:=by rw[h];rfl
 refine⟨by simpa[V3] using h1,?_⟩;have:(l.drop n).drop 1=r:=by rw[h];rfl
 rwa[Xo] at this
def drop_eq {α:Type} {l:List α} {n:Nat} {x:α} (h:l[n]?=some x):l.drop n=x::l.drop (n+1):=by
 obtain⟨hn,rfl⟩:=U9.1 h;exact Wi hn
def Gq (d:Doc):∀(f:Nat) (x:Tree) (m:Nat) (p:Int),x.dep≤f→(∃post,d.drop m=x.flat m p++post)→wk d f m p m=some ((m+x.jz:Nat):Int):=by
 intro f;induction f with
 |zero=>intro x m p h;rw[x.n7] at h;omega
 |succ f ih=>
 intro x m p hd ⟨post,hx⟩;rw[x.qm] at hx;obtain⟨h1,h2⟩:=ob hx;unfold wk;rw[Vd rfl,VJ,h1];simp only[Tree.node,Vp];have kids:∀(xs:List Tree) (q:Nat),fB xs≤f→(∃post,d.drop q=fC q m xs++post)→(mw q xs).foldlM (fun q k=>wk d f k (m:Int) q) (q:Int)=some ((q+dP xs:Nat):Int):=by
  intro xs;induction xs with
  |nil=>intro q _ _;simp[mw,dP]
  |cons y ys Li=>
  intro q hq ⟨post,hp⟩;simp only[fB] at hq;simp only[fC,VP] at hp;simp only[mw,XW];rw[ih y q m (by omega) ⟨_,hp⟩];simp only[Option.bind_eq_bind,U7];rw[Li (q+y.jz) (by omega) ⟨post,by rw[←Xo,hp,List.drop_append_of_le_length (by rw[y.j9];exact Va _),Xr (by rw[y.j9];exact Va _)];rfl⟩];simp only[dP,We]
 have Lj:=x.n7;have:=kids x.kids (m+1) (by omega) ⟨post,h2⟩;rw[show((m:Int)+1)=((m+1:Nat):Int) by omega,this,x.n8];congr 2;omega
def pf (x:Tree):(lW x).length=x.jz:=x.j9 0 (-1)
def uF (d:Doc):Prop:=∃x:Tree,x.d_=true∧d=lW x
def ia (x:Tree):x.d_=true↔x.text=false∧x.dep≤8∧x.jz≤80∧x.fu=true:=by
 simp only[Tree.d_,Vc,Wc,Vn];constructor
 ·rintro⟨h1,h2,h3,h4⟩;exact⟨h1,by omega,by omega,h4⟩
 rintro⟨h1,h2,h3,h4⟩;exact⟨h1,by omega,by omega,h4⟩
def A3 {x:Tree} (h:x.dep≤8):wk (lW x) 8 0 (-1) 0=some ((lW x).length:Int):=by
 have:=Gq (lW x) 8 x 0 (-1) h ⟨[],by simp[lW]⟩;rw[pf];simpa using this

def Tree.Gr (x:Tree) (s:Bs):Tree:= .mk x.text s x.attrs x.kids
def Cd (p:Bool):List Tree→Bool
 |[]=>p
 |x::r=>Cd x.text r
def grow (s:Bs):List Tree→List Tree
 |[]=>[]
 |[x]=>[x.Gr (x.s++s)]
 |x::y::r=>x::grow s (y::r)
def push (out:List Tree) (x:Tree):List Tree:=
 if x.text&&x.s==[] then out else if x.text&&Cd false out then grow x.s out else out++[x]
mutual
def Tree.jd:Tree→Bool
 | .mk _ _ _ ks=>Kf false ks
def Kf (p:Bool):List Tree→Bool
 |[]=>true
 |x::r=> !(x.text&&(p||x.s==[]))&&(x.jd&&Kf x.text r)
end

def A4 {M:List Tree→Prop} (step:∀l,(∀x∈l,M x.kids)→M l):∀l,M l:=by
 have key:∀(n:Nat) (l:List Tree),dE l≤n→M l:=by
  intro n;induction n with
  |zero=>
   intro l hn;refine step l fun x hx=> ?_;obtain⟨i,hi⟩:=VI hx;have:=jx l i x hi;have:=x.gx;omega
  |succ n ih=>
  intro l hn;refine step l fun x hx=>ih _ ?_;obtain⟨i,hi⟩:=VI hx;have:=jx l i x hi;have:=x.gx;omega
 exact fun l=>key _ l (Va _)
def j_ {l:List Tree} {x:Tree} (h:x∈l):x.wt≤dE l:=by
 obtain⟨i,hi⟩:=VI h;exact jx l i x hi
def jA (x:Tree):dE x.kids≤x.wt:=by have:=x.gx;omega
def Gs (x:Tree):x.s.length≤x.wt:=by have:=x.gx;omega
def lY (x:Tree):dX x.attrs≤x.wt:=by have:=x.gx;omega
theorem lZ:∀{l:List Attr} {a:Attr},a∈l→a.wt≤dX l
 |[],a,h=>by simp at h
 |b::r,a,h=>by
  simp only[Vg] at h;rcases h with rfl|h
  ·simp[dX]
  have:=lZ h;simp only[dX];omega
section
variable {P:Program} {G:Nat→Option (List IV)}
def Gt {g:Nat} (hF:aw P G g=some (32,[(none,2),(none,3)],(uz g).bare)):∀x:Tree,x.wt≤B→au P G g [x.av] (.gf [.int .i64 x.dep,.int .i64 x.jz]):=by
 have key:=A4 (M:=fun l=>∀x∈l,x.wt≤B→au P G g [x.av] (.gf [.int .i64 x.dep,.int .i64 x.jz])) (fun l h x hx hB=>Gm hF x hB fun k hk=>h x hx k hk (by have:=j_ hk;have:=jA x;omega));exact fun x=>key [x] x (by simp)
def xY {fP fN zm fF wA:Nat} (hP:aw P G fP=some (29,[(none,2)],nZ.bare)) (hN:aw P G fN=some (28,[(none,2)],n4.bare)) (hA:aw P G zm=some (41,[(none,2)],(hZ fN fP).bare))
  (hF:aw P G fF=some (38,[(none,2)],(rr fP fN zm wA).bare)) (Gn:aw P G wA=some (32,[(none,2)],(n_ fF).bare)) (l:List Tree):dE l≤B→au P G wA [.list (dq l)] (.bool (bQ none l)):=by
 refine A4 (M:=fun l=>dE l≤B→au P G wA [.list (dq l)] (.bool (bQ none l))) (fun l h hB=>D2 Gn l (by have:=eZ l;omega) fun x hx=> ?_) l;have h1:=j_ hx;have h2:=jA x;have h3:=Gs x;have h4:=lY x;have h5:=iz x.attrs;refine Cc hF x (qj hP _ (by omega)) (qk hN _ (by omega)) (n6 hA _ (by omega) (fun a ha=>qk hN _ ?_) (fun a ha=>qj hP _ ?_)) (h x hx (by omega))
 ·have:=lZ ha;unfold Attr.wt at this;omega
 have:=lZ ha;unfold Attr.wt at this;omega
def Gu {fP fN zm fF wA:Nat} (hP:aw P G fP=some (29,[(none,2)],nZ.bare)) (hN:aw P G fN=some (28,[(none,2)],n4.bare)) (hA:aw P G zm=some (41,[(none,2)],(hZ fN fP).bare))
  (hF:aw P G fF=some (38,[(none,2)],(rr fP fN zm wA).bare)) (Gn:aw P G wA=some (32,[(none,2)],(n_ fF).bare)) (x:Tree) (hB:x.wt≤B):au P G fF [x.av] (.bool x.fu):=by
 have h2:=jA x;have h3:=Gs x;have h4:=lY x;have h5:=iz x.attrs;refine Cc hF x (qj hP _ (by omega)) (qk hN _ (by omega)) (n6 hA _ (by omega) (fun a ha=>qk hN _ ?_) (fun a ha=>qj hP _ ?_)) (xY hP hN hA hF Gn _ (by omega))
 ·have:=lZ ha;unfold Attr.wt at this;omega
 have:=lZ ha;unfold Attr.wt at this;omega
end

structure Lk (x:Tree) where
 i:Nat
 L:Lb
 u:Lb→Bool
 hi:i≤x.kids.length
 l0:L≠ .par 0
 l8:L≠ .loc 8
 l10:L≠ .loc 10
 Mo:L≠ .loc 47
 lg:∀j,i≤j→L≠ .gen (1000+j)
 Mp:u (.loc 10)=false
 Mq:u (.loc 47)=false
 ug:∀j,i≤j→u (.gen (1000+j))=false

theorem Px {p:Lb}:∀{ds:List AV},p∈ah ds→∃y∈ds,p∈y.an
 |[],h=>by simp[ah] at h
 |y::r,h=>by
  simp only[ah,Vi] at h;rcases h with h|h
  ·exact⟨y,by simp,h⟩
  obtain⟨z,hz,hp⟩:=Px h;exact⟨z,by simp[hz],hp⟩
def Qm {S:St} {env:Env} {H:Hp} {q:Lb} {cs:List AV} {j d sz:Nat} (g1:H q= .live ⟨cs.length,[cs]⟩) (g2:cs[j]?=some .nil0) (g3:H (.loc d)= .unused) (g4:0<sz) :
  nQ S env H env (bD (bD H (.loc d) (.live ⟨sz,[]⟩)) q (.live ⟨cs.length,[cs.set j (.sl (.loc d) sz 0 0)]⟩)):=by
 intro K β a w IJ hS hr;have hk:=hr.OI (.loc d) g3 (r:=⟨sz,[]⟩) (Below.refl _ _) none (by simp) (by simp) ⟨g4,by simp,by simp⟩;have TF:q≠ .loc d:=by rintro rfl;rw[g1] at g3;cases g3
 have hq:bD H (.loc d) (.live ⟨sz,[]⟩) q= .live ⟨cs.length,[cs]⟩:=by rw[aq _ _ TF];exact g1
 have gm:0<cs.length:=(hr.rows q _ g1).1;have TG:bD β (.loc d) none q=β q:=aq _ _ TF;cases hb:β q with
 |none=>
  have:=(hr.rows q _ g1).2.2;simp[hb] at this
 |some g=>
 obtain⟨cur,e0,cap,k1,k2,k3,k4,k5⟩:=(hk.rows q _ hq).block (TG.trans hb);have zk:j<cs.length:=(U9.1 g2).1;have vf:=hk.setRow q (r':=⟨cs.length,[cs.set j (.sl (.loc d) sz 0 0)]⟩) (cur':=cur) (cap:=cap) hq (TG.trans hb) k1 rfl rfl k2 k3 (by simpa using k4) (by simp)
  (by
   intro ds ua p hp;simp at ua;subst ua;obtain⟨y,hy,J'⟩:=Px hp;rcases Wh hy with hy|rfl
   ·obtain⟨m,hm⟩:=VI hy;exact hk.cH q _ hq cs (by simp) p (cW _ _ _ hm p J')
   simp only[AV.an,Vm] at J';subst J';simp)
  (by
   intro i' j' ds x0 ed iX;cases i' with
   |succ i'=>simp at ed
   |zero=>
   simp at ed;subst ed;by_cases e:j'=j
   ·subst e;rw[WW zk] at iX;cases iX;obtain⟨v,q1,q2⟩:=k5 0 j' cs _ (by simp) g2;simp only[RV] at q2;obtain⟨ad,rfl⟩:=q2;refine⟨_,q1,?_⟩;simp only[RV];exact⟨ad,0,rfl,Va _,by simp[maxLen],by simp,fun _=> .inl rfl⟩
   rw[WK (V7 e)] at iX;exact k5 0 j' cs x0 (by simp) iX)
 have j0:w.setRow g cur=w:=setRow_self w g cur e0 (0,0) k1;rw[j0] at vf;exact⟨_,vf⟩
section
variable {env:Env} {H:Hp}
def kq (m:Option Nat) (t u:Nat) (R:AV→Hp→Prop):fX [(some m,t),(none,u)] R .ret env H=cw (ee m (env t) H) (fun x=>R (.gf [x,env u]) H) .mk:=by
 simp only[fX,ef,oO,cw];cases ee m (env t) H<;>simp[gD]
end

inductive Sub:Nat→Int→Tree→Nat→Int→Tree→Prop
 |self (off:Nat) (p:Int) (t:Tree):Sub off p t off p t
 |Ce {off:Nat} {p:Int} {t:Tree} {n:Nat} {q:Int} {y:Tree} (a b:List Tree) (k:Tree):t.kids=a++k::b→Sub (off+1+dP a) off k n q y→Sub off p t n q y
def oc (d:Doc) (n:Nat) (q:Int) (y:Tree):Prop:=∃post,d.drop n=y.flat n q++post
def xZ {α:Type} {a b c:List α} {n:Nat} (h:a.length=n):(a++b).drop n=b:=by subst h;simp
def Sub.Gv {off:Nat} {p:Int} {t:Tree} {n:Nat} {q:Int} {y:Tree} (h:Sub off p t n q y):∀d:Doc,oc d off p t→oc d n q y:=by
 induction h with
 |self=>exact fun _ h=>h
 |@Ce off p t n q y a b k hk _ ih=>
 rintro d ⟨post,h⟩;refine ih d ⟨fC (off+1+dP a+k.jz) off b++post,?_⟩;rw[t.qm,hk] at h;have h2:=(ob h).2;rw[pd] at h2;have h3:d.drop (off+1)=fC (off+1) off a++(fC (off+1+dP a) off (k::b)++post):=by rw[h2];exact VP _ _ _
 rw[←Xo,h3,xZ (c:=[]) (my _ _ _)];simp[fC]
def Sub.parent {off:Nat} {p:Int} {t:Tree} {n:Nat} {q:Int} {y:Tree} (h:Sub off p t n q y) :
  (n=off∧q=p∧y=t)∨∃(m:Nat) (z:Tree) (r:Int),q=(m:Int)∧Sub off p t m r z∧m<n∧n+y.jz≤m+z.jz∧y∈z.kids∧off≤m:=by
 induction h with
 |self=>exact .inl ⟨rfl,rfl,rfl⟩
 |@Ce off p t n q y a b k hk hs ih=>
 right;rcases ih with⟨rfl,rfl,rfl⟩|⟨m,z,r,e1,e2,e3,e4,e5,e6⟩
 ·have h1:=t.n8;rw[hk,lU] at h1;simp only[dP] at h1;exact⟨off,t,p,rfl,.self _ _ _,by omega,by omega,by rw[hk];simp,Va _⟩
 exact⟨m,z,r,e1,.Ce a b k hk e2,e3,e4,e5,by omega⟩
def Sub.trans {off:Nat} {p:Int} {t:Tree} {n:Nat} {q:Int} {y:Tree} (h:Sub off p t n q y) {m:Nat} {r:Int} {z:Tree} (h2:Sub n q y m r z):Sub off p t m r z:=by
 induction h with
 |self=>exact h2
 |Ce a b k hk _ ih=>exact .Ce a b k hk (ih h2)
def oc.node {d:Doc} {n:Nat} {q:Int} {y:Tree} (h:oc d n q y):d[n]?=some (y.node n q):=by
 obtain⟨post,h⟩:=h;rw[y.qm] at h;exact(ob h).1
def oc.len {d:Doc} {n:Nat} {q:Int} {y:Tree} (h:oc d n q y):n+y.jz≤d.length:=by
 obtain⟨post,h⟩:=h;have:=VW List.length h;rw[W_,Vw,y.j9] at this;have:=y.uE;omega
def oc.Ce {d:Doc} {n:Nat} {q:Int} {y:Tree} (h:oc d n q y) (a b:List Tree) (k:Tree) (hk:y.kids=a++k::b):oc d (n+1+dP a) n k:=
 (Sub.Ce (off:=n) (p:=q) a b k hk (.self _ _ _)).Gv d h
theorem pg:∀{p:Option Bool} {l:List Tree},bQ p l=true→∀x∈l,x.fu=true
 |_,[],_,x,hx=>by simp at hx
 |p,y::r,h,x,hx=>by
  simp only[bQ,Vc] at h;simp only[Vg] at hx;rcases hx with rfl|hx
  ·exact h.1
  exact pg h.2.2 x hx
def Tree.vH {x:Tree} (h:x.fu=true):bQ none x.kids=true:=by
 cases ht:x.text with
 |true=>
  rw[x.oa ht] at h;simp only[Vc,V8,Vv] at h;rw[h.2.2.2];rfl
 |false=>
 rw[x.Pa ht] at h;simp only[Vc] at h;exact h.2.2
def Sub.fu {off:Nat} {p:Int} {t:Tree} {n:Nat} {q:Int} {y:Tree} (h:Sub off p t n q y):t.fu=true→y.fu=true:=by
 induction h with
 |self=>exact id
 |Ce a b k hk _ ih=>exact fun h=>ih (pg (Tree.vH h) k (by rw[hk];simp))

def fj (xs:List Tree):List Tree:=xs.flatMap Tree.kids
def la (x:Tree) (r:List Tree):fj (x::r)=x.kids++fj r:=by simp[fj]
theorem ph:∀(xs:List Tree),xs≠[]→fB xs=fB (fj xs)+1
 |[],h=>absurd rfl h
 |[x],_=>by simp[fj,fB,x.n7]
 |x::y::r,_=>by
  have:=ph (y::r) (by simp);rw[la,n9];simp only[fB,x.n7] at this ⊢;omega
theorem kt:∀(xs:List Tree),dP xs=xs.length+dP (fj xs)
 |[]=>by simp[fj,dP]
 |x::r=>by rw[la,lU];simp only[dP,x.n8,kt r,Vo];omega
theorem l3:∀(xs:List Tree),dE (fj xs)+xs.length≤dE xs
 |[]=>by simp[fj,dE]
 |x::r=>by
  have:=l3 r;have:=x.gx;rw[la,kn];simp only[dE,Vo];omega
def x4:Nat→List (Tree×Int)→List (Nat×Int)
 |_,[]=>[]
 |n,(t,p)::r=>(n,p)::x4 (n+t.jz) r
def D3 (j:Int) (ps:List (Nat×Int)):List Int:=(ps.filter fun x=>x.2==j).map fun x=>(x.1:Int)
def x5:Nat→List (Tree×Int)→List Node
 |_,[]=>[]
 |n,(t,p)::r=>t.flat n p++x5 (n+t.jz) r
def fill (ps:List (Nat×Int)):Nat→List Node→List Node
 |_,[]=>[]
 |j,x::r=>{x with kids:=x.kids++D3 j ps}::fill ps (j+1) r
def whole (d:List Node) (l:List (Tree×Int)):List Node:=fill (x4 d.length l) 0 d++x5 d.length l

def Doc.av (d:Doc):AV:= .agg [.list (d.map Node.iv)]
section
variable {P:Program} {G:Nat→Option (List IV)}
end

def Cf (rs:List (Lb×Row)):ie (fun _=>false) rs=kl rs:=by
 funext q;unfold ie;cases kl rs q<;>rfl
def x7 (iJ x8:Nat):AC:=
(aM [sC 2 0,aQ 4 (.new [(.bool false),(.str []),.nil0,.nil0])] (aM [ep 9 2 0,fm 10 9,MR 11 1,jL 12 10 11 5,gz 13 5 12,aQ 5 (.new [(.bool false),(.str []),.nil0,(.int .i64 0),.nil0]),gg (.store 5 (.t 5) (.t 13))] (.seq (.fK [ep 14 5 0,fm 15 14,ep 16 5 1,fm 17 16,ep 18 5 2,fm 19 18,aQ 20 (.call iJ [(.t 19)]),aQ 21 (.sg [(.bool false),(.str []),.nil0,.nil0] [(0,(1,(.t 15))),(1,(1,(.t 17))),(2,(1,(.t 20)))]),aQ 6 (.new [(.bool false),(.str []),.nil0,.nil0]),gg (.store 4 (.t 6) (.t 21))] [[],[0],[],[2],[],[4],[5],[1,3,6],[],[8,7,6,0,1,2,3,4,5,6,7,8]] [.no,.rw [.loc 5] [],.no,.rw [.loc 5] [],.no,.rw [.loc 5] [],.no,.no,.rw [] [.loc 6],.rw [] [.loc 6]]) (.seq (.gh .vk (aM [ep 22 5 4,fm 23 22,oy 24 23,gH 25 0] (.block 0 (.loop (aM [et 26 .lss 25 24] (.seq (.cond (.t 26) .skip (.exit 0)) (.seq (.block 1 (aM [jL 27 23 25 1,fm 28 27,MR 8 28] (.fK [ep 29 6 3,fm 30 29,gz 31 1 2,MR 32 8,aQ 33 (.call x8 [(.t 31),(.t 32)]),aQ 34 (.lits 1 4 [(.bool false),(.str []),.nil0,.nil0] [(0,(.t 33))]),aQ 35 (.app (.t 30) (.t 34) 4 72),ep 36 6 3,gg (.store 1 (.t 36) (.t 35))] [[],[0],[],[],[2,3],[4],[1,5,4],[0,1,2,3,4,5,6],[7,6,6,0,1,2,3,4,5,6]] [.no,.rw [.loc 6] [],.rw [.loc 2] [],.no,.no,.no,(.rw [] [.loc 50,.loc 35]),.no,.rw [] [.loc 6]]))) (.cq [eY 37 .add 25 1,MR 25 37])))))))) (.gh (.xd (.loc 50) (.loc 6) 3) (aM [gz 38 4 6,gg (.store 4 (.t 4) (.t 38))] .ret))))))

def Node.wt (x:Node):Nat:=1+x.s.length+dX x.attrs+x.kids.length
def zn:Doc→Nat
 |[]=>0
 |x::r=>x.wt+zn r
theorem nv:∀a b:Doc,zn (a++b)=zn a+zn b
 |[],b=>by simp[zn]
 |x::r,b=>by simp[zn,nv r b,We]
mutual
theorem Tree.uH (off:Nat) (p:Int):∀x:Tree,x.wt≤zn (x.flat off p)
 | .mk t s as ks=>by
  have:=ru (off+1) off ks;simp only[Tree.flat,zn,Node.wt,Tree.wt];omega
theorem ru (off p:Nat):∀xs:List Tree,dE xs≤zn (fC off p xs)
 |[]=>by simp[dE]
 |k::r=>by
  have:=k.uH off p;have:=ru (off+k.jz) p r;simp only[fC,nv,dE];omega
end
def oc.wt {d:Doc} {n:Nat} {q:Int} {y:Tree} (h:oc d n q y):y.wt≤zn d:=by
 obtain⟨post,h⟩:=h;have h1:=y.uH n q;have h2:=nv (d.take n) (d.drop n);rw[VM,h,nv] at h2;omega
section
variable {P:Program} {G:Nat→Option (List IV)}
end
def uF.len {d:Doc} (h:uF d):1≤d.length∧d.length≤80:=by
 obtain⟨x,hx,rfl⟩:=h;have:=(ia x).1 hx;have:=x.uE;rw[pf];omega
def uF.wk {d:Doc} (h:uF d):wk d 8 0 (-1) 0=some (d.length:Int):=by
 obtain⟨x,hx,rfl⟩:=h;exact A3 ((ia x).1 hx).2.1

def Ot (Oy Ok:Nat):AC:=
(aM [jM 2 false] (aM [gH 3 0] (.seq (aM [MR 8 0,oy 9 8,gH 10 0] (.block 0 (.loop (aM [et 11 .lss 10 9] (.seq (.cond (.t 11) .skip (.exit 0)) (.seq (.block 1 (aM [jL 12 8 10 4,gz 13 4 12,aQ 5 (.new [(.bool false),(.str []),.nil0,.nil0]),gg (.store 4 (.t 5) (.t 13))] (aM [gz 15 4 5,aQ 16 (.call Oy [(.t 15)]),MR 14 16,ox 17 14 0,ox 18 14 1,MR 6 17,MR 7 18] (.seq (aM [MR 19 6,eY 20 .gtr 19 8] (.cond (.t 20) (aM [jM 2 false] .ret) .skip)) (.cq [MR 21 3,MR 22 7,et 23 .add 21 22,MR 3 23]))))) (.cq [eY 24 .add 10 1,MR 10 24]))))))) (aM [MR 25 3,eY 26 .leq 25 80,MR 27 26,cU 28 27 0,dW 29 27 (.call Ok [(.t 28)]),jT 30 27 29,MR 2 30] .ret))))
def content (l:List Tree):Bool:=l.all (fun x=>decide (x.dep≤8))&&(decide (dP l≤80)&&bQ none l)
def R1 {P:Program} {G:Nat→Option (List IV)} {No Oy Ok:Nat} (hF:aw P G No=some (31,[(none,2)],(Ot Oy Ok).bare)) (l:List Tree) (hx:dE l≤B)
  (hS:∀x∈l,au P G Oy [x.av] (.gf [.int .i64 x.dep,.int .i64 x.jz])) (Gn:au P G Ok [.list (dq l)] (.bool (bQ none l))):au P G No [.list (dq l)] (.bool (content l)):=by
 refine aR hF (by simp) (by simp[ah,AV.an]) (by simp[AV.an]) ?_;have hl:=eZ l;unfold Ot;simp only[↓aX,mX,seval,bF];refine kk (σ:={i:Nat // i≤l.length∧(l.take i).all (fun x=>decide (x.dep≤8))=true}) (fun q=>[(0,.list (dq l)),(3,.int .i64 (dP (l.take q.1))),(8,.list (dq l)),(9,.int .i64 l.length),(10,.int .i64 q.1)]) (fun q=>l.length - q.1) ⟨0,by simp⟩ (fun _=>rfl) ?_ ?_
 ·exact⟨by simp only[↓aX,mX,seval],by repeat' constructor⟩
 rintro⟨i,hi,hs⟩;simp only[↓aX,mX,seval,bF];refine AU (fun h=> ?_) (fun h=> ?_)
 ·have bI:i<l.length:=by simpa using h
  obtain⟨x,Ja⟩:∃x,l[i]?=some x:=⟨_,U' bI⟩;have hw:IntKind.i64.wrap ((i:Int)+1)=((i+1:Nat):Int):=wrap64 (by omega) (by unfold B at hx;omega);have h2:=lV l i;have h3:=ql (l.take i);have h5:=jx _ _ _ Ja;have h6:=x.td;have h1:l.take (i+1)=l.take i++[x]:=by rw[V2,Ja];rfl
  have hc:IntKind.i64.wrap ((dP (l.take i):Int)+(x.jz:Int))=((dP (l.take (i+1)):Nat):Int):=by
   rw[wrap64 (by omega) (by unfold B at hx;omega),h1,lU];simp[dP]
  simp only[↓aX,mX,seval,iy,Ja,lT,Tree.cJ,Tree.cs];refine ay (hS x (U_ Ja)) ?_;simp only[↓aX,mX,seval];refine AU (fun h9=> ?_) (fun h9=> ?_)
  ·simp only[↓aX,mX,seval];have:l.all (fun x=>decide (x.dep≤8))=false:=by
    rw[Xq];intro dN;have:=Vx.1 dN x (U_ Ja);simp at this h9;omega
   rw[content,this];rfl
  simp only[↓aX,mX,seval,hw,hc];refine⟨⟨i+1,bI,?_⟩,by simp only;omega,by simp only[↓aX,mX,seval],by repeat' constructor⟩;rw[h1,YB,hs];simp at h9 ⊢;omega
 have oI:i=l.length:=by simp at h;omega
 subst oI;rw[VS] at hs;simp only[↓aX,mX,seval,VS];cases h9:decide ((dP l:Int)≤80) with
 |true=>
  simp only[↓aX,mX,seval];refine ay Gn ?_;simp only[↓aX,mX,seval];have:decide (dP l≤80)=true:=by simp at h9 ⊢;omega
  rw[content,hs,this];rfl
 |false=>
 simp only[↓aX,mX,seval];have:decide (dP l≤80)=false:=by simp at h9 ⊢;omega
 rw[content,hs,this];rfl

def Nv (M3:Nat):AC:=
(aM [sC 2 0,sC 3 1,jM 4 false] (.seq (aM [ep 6 2 0,fm 7 6,ep 8 3 0,fm 9 8,aQ 10 (.zt true (.t 7) (.t 9)),MR 11 10,oH 12 11 2 1,oG 13 11 12,oH 14 11 3 1,oG 15 11 14,iR 16 11 (.bin .neq (.t 13) (.t 15)),sj 17 11 16,MR 18 17,oH 19 18 2 2,oG 20 18 19,iR 21 18 (.len (.t 20)),oH 22 18 3 2,oG 23 18 22,iR 24 18 (.len (.t 23)),iR 25 18 (.bin .neq (.t 21) (.t 24)),sj 26 18 25] (.cond (.t 26) (aM [jM 4 false] .ret) .skip)) (.seq (aM [ep 27 2 2,fm 28 27,oy 29 28,gH 30 0] (.block 0 (.loop (aM [et 31 .lss 30 29] (.seq (.cond (.t 31) .skip (.exit 0)) (.seq (.block 1 (aM [MR 32 30,MR 5 32] (.seq (.fK [ep 33 2 2,fm 34 33,MR 35 5,jL 36 34 35 2,gz 37 2 36,ep 38 3 2,fm 39 38,MR 40 5,jL 41 39 40 2,gz 42 2 41,aQ 43 (.pM true [.s,.s] (.t 37) (.t 42))] [[],[0],[],[1,2],[3],[],[5],[],[6,7],[8],[4,9]] [.no,.rw [.loc 2] [],.no,.no,.no,.no,(.rw [.loc 3] []),.no,.no,.no,.no]) (.cond (.t 43) (aM [jM 4 false] .ret) .skip)))) (.cq [eY 44 .add 30 1,MR 30 44]))))))) (aM [ep 45 2 3,fm 46 45,ep 47 3 3,fm 48 47,aQ 49 (.call M3 [(.t 46),(.t 48)]),MR 4 49] .ret))))
def P5 {P:Program} {G:Nat→Option (List IV)} {Np M3:Nat} (hF:aw P G Np=some (50,[(none,4)],(Nv M3).bare)) (x y:Tree) (hx:x.attrs.length≤B)
  (hS:au P G M3 [.list (dq x.kids),.list (dq y.kids)] (.bool (P2 x.kids y.kids))):au P G Np [x.av,y.av] (.bool (P2 x y)):=by
 refine aR hF (by simp) (by simp[ah,AV.an,Tree.av]) (by simp[AV.an]) ?_;unfold Nv;simp only[↓aX,mX,seval,Tree.av];by_cases h1:x.text=y.text
 ·have e1:(x.text==y.text)=true:=by rw[h1];simp
  simp only[e1,↓aX,mX,seval];by_cases h2:x.s=y.s
  ·have e2:(x.s==y.s)=true:=(by rw[h2];simp);simp only[e2,↓aX,mX,seval,bp];by_cases h3:x.attrs.length=y.attrs.length
   ·rw[show((x.attrs.length:Int) !=(y.attrs.length:Int))=false by simp[h3]];simp only[↓aX,mX,seval,bp];refine ca (σ:={i:Nat // i≤x.attrs.length∧∀j,j<i→x.attrs[j]?=y.attrs[j]?}) [.loc 3,.loc 2] (fun q=>[(2,.ptr (.loc 2) 4 0 0),(3,.ptr (.loc 3) 4 0 0),(29,.int .i64 x.attrs.length),(30,.int .i64 q.1)])
     (fun _=>[(.loc 3,⟨4,[[.bool y.text,.str y.s,.list (cD y.attrs),.list (dq y.kids)]]⟩),(.loc 2,⟨4,[[.bool x.text,.str x.s,.list (cD x.attrs),.list (dq x.kids)]]⟩)]) (fun q=>x.attrs.length - q.1) ⟨0,by simp⟩
     (fun _=>rfl) (by decide) (by simp[ah,AV.an]) (by simp[ah,AV.an]) ?_ ?_
    ·exact eL (by simp only[uu,rn]) (by repeat' constructor) (by repeat' constructor)
    rintro⟨i,hi,hs⟩;simp only[↓aX,mX,seval,cF,bW];by_cases bI:i<x.attrs.length
    ·rw[show decide ((i:Int)<(x.attrs.length:Int))=true by simpa using bI];obtain⟨a,ha⟩:∃a,x.attrs[i]?=some a:=⟨_,U' bI⟩;obtain⟨b,hb⟩:∃b,y.attrs[i]?=some b:=⟨_,U' (h3▸bI)⟩;have hw:IntKind.i64.wrap ((i:Int)+1)=((i+1:Nat):Int):=wrap64 (by omega) (by unfold B at hx;omega);simp only[↓aX,mX,seval,lS,ha,hb,rq,Attr.cJ,Attr.cs,eqs,JP];refine⟨rfl,?_⟩;by_cases MO:a=b
     ·subst MO;rw[show(a.name==a.name&&a.val==a.val)=true by simp];simp only[↓aX,mX,seval,hw];exact⟨⟨i+1,bI,fun j hj=>by
       by_cases e:j=i
       ·rw[e,ha,hb]
       exact hs j (by omega)⟩,by simp only;omega,eL (by simp only[uu,rn]) (by repeat' constructor) (by repeat' constructor)⟩
     have fO:x≠y:=fun e=>MO (by rw[e,hb] at ha;cases ha;rfl);have Ry:(a.name==b.name&&a.val==b.val)=false:=by
      simp only[W8,VX];by_cases e1:a.name=b.name
      ·exact .inr fun e2=>MO (Attr.ext e1 e2)
      exact .inl e1
     rw[Ry];simp only[↓aX,mX,seval,NJ fO]
    rw[show decide ((i:Int)<(x.attrs.length:Int))=false by simpa using bI];have ha:x.attrs=y.attrs:=V' fun j=>by
     by_cases hj:j<i
     ·exact hs j hj
     rw[VV (by omega),VV (by omega)]
    simp only[↓aX,mX,seval];refine ay hS ?_;by_cases h4:x.kids=y.kids
    ·have:x=y:=Tree.ext h1 h2 ha h4;subst this;simp only[↓aX,mX,seval,Oh]
    have:x≠y:=fun e=>h4 (by rw[e]);simp only[↓aX,mX,seval,NJ h4,NJ this]
   rw[show((x.attrs.length:Int) !=(y.attrs.length:Int))=true by simp;omega];have:x≠y:=fun e=>h3 (by rw[e]);simp only[↓aX,mX,seval,NJ this]
  have e2:(x.s==y.s)=false:=by simpa using h2
  have:x≠y:=fun e=>h2 (by rw[e]);simp only[e2,↓aX,mX,seval,NJ this]
 have e1:(x.text==y.text)=false:=by simpa using h1
 have:x≠y:=fun e=>h1 (by rw[e]);simp only[e1,↓aX,mX,seval,NJ this]
def QN {P:Program} {G:Nat→Option (List IV)} {Np M3:Nat} (hF:aw P G Np=some (50,[(none,4)],(Nv M3).bare)) (hS:aw P G M3=some (27,[(none,4)],(N_ Np).bare)) (xs:List Tree) :
  ∀ys,dE xs≤B→au P G M3 [.list (dq xs),.list (dq ys)] (.bool (P2 xs ys)):=
 A4 (M:=fun xs=>∀ys,dE xs≤B→au P G M3 [.list (dq xs),.list (dq ys)] (.bool (P2 xs ys))) (fun xs h ys hB=>OY hS xs ys (by have:=eZ xs;omega) fun x hx y _=>
  have h1:=j_ hx;have h2:=jA x;have h3:=lY x;have h4:=iz x.attrs
  P5 hF x y (by omega) (h x hx _ (by omega))) xs

section
variable {P:Program}
def Sh.Cg {t:TypeId} {y:IV} (h:Sh P t y) (hu:P.underlying t=some .bool):∃x,y= .bool x:=by
 cases h<;>simp_all
def Sh.Ch {t:TypeId} {y:IV} {k:IntKind} (h:Sh P t y) (hu:P.underlying t=some (.int k)):∃n,y= .int k n∧(Lit.int k n).wf=true:=by
 cases h<;>simp_all
def Sh.uJ {t:TypeId} {y:IV} (h:Sh P t y) (hu:P.underlying t=some .string):∃x,y= .str x:=by
 cases h<;>simp_all
def Sh.uK {t e:TypeId} {y:IV} (h:Sh P t y) (hu:P.underlying t=some (.slice e)):∃ys,y= .list ys∧∀y∈ys,Sh P e y:=by
 cases h<;>simp_all
def Sh.x9 {t:TypeId} {fs:Array Field} {y:IV} (h:Sh P t y) (hu:P.underlying t=some (.struct fs)) :
  ∃ys,y= .agg ys∧ys.length=fs.size∧∀(j:Nat) (f:Field) (y:IV),fs[j]?=some f→ys[j]?=some y→Sh P f.type y:=by
 cases h with
 |g DG h1 h2=>
  rw[DG] at hu;cases hu;exact⟨_,rfl,h1,h2⟩
 |_=>simp_all
structure Ci (P:Program) where
 tB:TypeId
 tS:TypeId
 tA:TypeId
 EZ:TypeId
 tT:TypeId
 HB:TypeId
 fA:Array Field
 fT:Array Field
 uB:P.underlying tB=some .bool
 uS:P.underlying tS=some .string
 I3:P.underlying EZ=some (.slice tA)
 Kg:P.underlying HB=some (.slice tT)
 uA:P.underlying tA=some (.struct fA)
 uT:P.underlying tT=some (.struct fT)
 sA:fA.toList.map (·.type)=[tS,tS]
 sT:fT.toList.map (·.type)=[tB,tS,EZ,HB]
def eC {fs:Array Field} {ts:List TypeId} (h:fs.toList.map (·.type)=ts) (j:Nat) (t:TypeId) (ht:ts[j]?=some t):∃f,fs[j]?=some f∧f.type=t:=by
 subst h;rw[VL] at ht;obtain⟨f,h1,rfl⟩:=oA.1 ht;exact⟨f,by simpa using h1,rfl⟩
def Sh.attr (T:Ci P) {y:IV} (h:Sh P T.tA y):∃a:Attr,y=a.iv∧a.wt≤y.wt:=by
 obtain⟨ys,rfl,hl,hy⟩:=h.x9 T.uA;have hs:T.fA.size=2:=by have:=VW List.length T.sA;simpa using this
 match ys,hl.trans hs,hy with
 |[y0,y1],_,hy=>
  obtain⟨f0,e0,t0⟩:=eC T.sA 0 T.tS rfl;obtain⟨f1,e1,t1⟩:=eC T.sA 1 T.tS rfl;have h0:=hy 0 f0 y0 e0 rfl;have h1:=hy 1 f1 y1 e1 rfl;rw[t0] at h0;rw[t1] at h1;obtain⟨x0,rfl⟩:=h0.uJ T.uS;obtain⟨x1,rfl⟩:=h1.uJ T.uS;exact⟨⟨x0,x1⟩,rfl,by simp[Attr.wt,IV.wt,k9];omega⟩
theorem Sh.attrs (T:Ci P):∀(ys:List IV),(∀y∈ys,Sh P T.tA y)→∃as,ys=cD as∧dX as≤k9 ys
 |[],_=>⟨[],rfl,by simp[dX,k9]⟩
 |y::r,h=>by
  obtain⟨a,rfl,h1⟩:=(h y (by simp)).attr T;obtain⟨as,rfl,h2⟩:=Sh.attrs T r (fun z hz=>h z (by simp[hz]));exact⟨a::as,rfl,by simp only[dX,k9];omega⟩

structure Kh (P:Program) (T:Ci P) where
 tI:TypeId
 I4:TypeId
 tN:TypeId
 Ki:TypeId
 tD:TypeId
 fN:Array Field
 fD:Array Field
 uI:P.underlying tI=some (.int .i64)
 Lm:P.underlying I4=some (.slice tI)
 uN:P.underlying tN=some (.struct fN)
 Mr:P.underlying Ki=some (.slice tN)
 uD:P.underlying tD=some (.struct fD)
 sN:fN.toList.map (·.type)=[T.tB,T.tS,T.EZ,tI,I4]
 sD:fD.toList.map (·.type)=[Ki]
theorem Sh.ints {T:Ci P} (D:Kh P T):∀(ys:List IV),(∀y∈ys,Sh P D.tI y)→∃xs:List Int,ys=xs.map xX∧xs.length≤k9 ys
 |[],_=>⟨[],rfl,by simp[k9]⟩
 |y::r,h=>by
  obtain⟨n,rfl,_⟩:=(h y (by simp)).Ch D.uI;obtain⟨xs,rfl,h2⟩:=Sh.ints D r (fun z hz=>h z (by simp[hz]));exact⟨n::xs,rfl,by simp only[Vo,k9,IV.wt];omega⟩
def Sh.node {T:Ci P} (D:Kh P T) {y:IV} (h:Sh P D.tN y):∃x:Node,y=x.iv∧x.wt≤y.wt:=by
 obtain⟨ys,rfl,hl,sn⟩:=h.x9 D.uN;have hs:D.fN.size=5:=by have:=VW List.length D.sN;simpa using this
 match ys,hl.trans hs,sn with
 |[y0,y1,y2,y3,y4],_,sn=>
  obtain⟨f0,e0,t0⟩:=eC D.sN 0 T.tB rfl;obtain⟨f1,e1,t1⟩:=eC D.sN 1 T.tS rfl;obtain⟨f2,e2,t2⟩:=eC D.sN 2 T.EZ rfl;obtain⟨f3,e3,t3⟩:=eC D.sN 3 D.tI rfl;obtain⟨f4,e4,t4⟩:=eC D.sN 4 D.I4 rfl;have h0:=sn 0 f0 y0 e0 rfl;have h1:=sn 1 f1 y1 e1 rfl;have h2:=sn 2 f2 y2 e2 rfl;have h3:=sn 3 f3 y3 e3 rfl;have h4:=sn 4 f4 y4 e4 rfl;rw[t0] at h0;rw[t1] at h1;rw[t2] at h2;rw[t3] at h3;rw[t4] at h4;obtain⟨b,rfl⟩:=h0.Cg T.uB;obtain⟨s,rfl⟩:=h1.uJ T.uS;obtain⟨z2,rfl,g2⟩:=h2.uK T.I3;obtain⟨p,rfl,_⟩:=h3.Ch D.uI;obtain⟨z4,rfl,g4⟩:=h4.uK D.Lm;obtain⟨as,rfl,w2⟩:=Sh.attrs T z2 g2;obtain⟨ks,rfl,w4⟩:=Sh.ints D z4 g4;exact⟨⟨b,s,as,p,ks⟩,rfl,by simp only[Node.wt,IV.wt,k9];omega⟩
theorem Sh.nodes {T:Ci P} (D:Kh P T):∀(ys:List IV),(∀y∈ys,Sh P D.tN y)→∃d:Doc,ys=d.map Node.iv∧zn d≤k9 ys
 |[],_=>⟨[],rfl,by simp[k9,zn]⟩
 |y::r,h=>by
  obtain⟨x,rfl,h1⟩:=(h y (by simp)).node D;obtain⟨d,rfl,h2⟩:=Sh.nodes D r (fun z hz=>h z (by simp[hz]));exact⟨x::d,rfl,by simp only[zn,k9];omega⟩
end
end Go.Am
