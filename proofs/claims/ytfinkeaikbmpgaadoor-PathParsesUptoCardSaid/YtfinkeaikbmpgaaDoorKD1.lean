import Derived.Test.YtfinkeaikbmpgaaDoorKAm25
set_option linter.unusedSimpArgs false
set_option linter.unusedVariables false
set_option linter.unnecessarySimpa false
set_option linter.defProp false
/- Documents: their values; how a tree lies in one. -/
namespace Go.Am
open Go Go.RowKit
structure Node where
 text:Bool
 s:Bs
 attrs:List Attr
 parent:Int
 kids:List Int
abbrev Doc:=List Node
def su (n:Int):IV:= .int .i64 n
def Node.cs (x:Node):List IV:=[.bool x.text,.str x.s,.list (zu x.attrs),.int .i64 x.parent,.list (x.kids.map su)]
def Node.iv (x:Node):IV:= .agg x.cs
def Node.av (x:Node):AV:= .agg [.bool x.text,.str x.s,.list (zu x.attrs),.int .i64 x.parent,.list (x.kids.map su)]
def Node.eN (x:Node):x.iv.cells=x.cs:=rfl
def jb (off:Nat):List Tree→List Int
 |[]=>[]
 |k::r=>(off:Int)::jb (off+k.kR) r
mutual
def Tree.flat (off:Nat) (p:Int):Tree→List Node
 | .mk t s as ks=>⟨t,s,as,p,jb (off+1) ks⟩::dK (off+1) off ks
def dK (off:Nat) (p:Nat):List Tree→List Node
 |[]=>[]
 |k::r=>k.flat off p++dK (off+k.kR) p r
end
def Tree.node (off:Nat) (p:Int) (x:Tree):Node:=⟨x.text,x.s,x.attrs,p,jb (off+1) x.kids⟩
def Tree.l9 (off:Nat) (p:Int) (x:Tree):x.flat off p=x.node off p::dK (off+1) off x.kids:=by
 cases x;simp[Tree.flat,Tree.node,Tree.text,Tree.s,Tree.attrs,Tree.kids]
mutual
theorem Tree.gl (off:Nat) (p:Int):∀x:Tree,(x.flat off p).length=x.kR
 | .mk t s as ks=>by simp[Tree.flat,Tree.kR,jc (off+1) off ks]
theorem jc (off:Nat) (p:Nat):∀xs:List Tree,(dK off p xs).length=eO xs
 |[]=>by simp[dK,eO]
 |k::r=>by simp[dK,eO,k.gl,jc _ p r]
end
theorem lx:∀(off p:Nat) (xs ys:List Tree),dK off p (xs++ys)=dK off p xs++dK (off+eO xs) p ys
 |off,p,[],ys=>by simp[dK,eO]
 |off,p,k::r,ys=>by simp[dK,eO,lx _ p r ys,GZ]
def iF (x:Tree):Doc:=x.flat 0 (-1)
def Tree.ph (x:Tree):0<x.kR:=by rw[x.oo];omega

def tl (u:Lb→Bool) (rs:List (Lb×Row)):Hp:=fun q=>match ln rs q with
 | .unused=>if u q then .dead else .unused
 |s=>s
def kt {u:Lb→Bool} {rs:List (Lb×Row)} {l:Lb} {r:Row}:tl u rs l= .live r↔ln rs l= .live r:=by
 unfold tl;cases h:ln rs l with
 |unused=>by_cases hu:u l=true<;>simp[hu]
 |dead=>simp
 |live r'=>simp
def ku {u:Lb→Bool} {rs:List (Lb×Row)} {l:Lb} (h:l∈rs.map Prod.fst∨u l=true):tl u rs l≠ .unused:=by
 unfold tl;rcases h with h|h
 ·have:=iD h;cases h2:ln rs l with
  |unused=>exact absurd h2 this
  |dead=>simp
  |live r=>simp
 cases h2:ln rs l with
 |unused=>simp[h]
 |dead=>simp
 |live r=>simp
structure WU (ls:List Lb) (u:Lb→Bool) (ps:List (Nat×AV)) (rs:List (Lb×Row)) (env:Env) (H:Hp) (m:List (Lb×Lb)):Prop where
 nf:∀l:Lb,l.fresh=false→H l≠ .unused→l∈ls∨u l=true
 e:iZ (cP m) env ps
 r:jR (cP m) H rs
 inj:(ls.map (cP m)).Nodup
 fr:∀l∈ls,(l.fresh=true→(cP m l).fresh=true)∧(l.fresh=false→cP m l=l)
def WU.wk {ls:List Lb} {u:Lb→Bool} {ps:List (Nat×AV)} {rs:List (Lb×Row)} {env:Env} {H:Hp} {m:List (Lb×Lb)} (h:WU ls u ps rs env H m) (kK:rs.map Prod.fst=ls) (hp:∀l∈af (ps.map Prod.snd),l∈ls)
  (hr:∀q∈rs,∀cs∈q.2.bN,∀l∈af cs,l∈ls):Wk (cP m) env H (oj ps) (tl u rs):=by
 have vu:∀l,live (tl u rs) l→l∈ls:=fun l ⟨r,h⟩=>by rw[←kK];exact F2.2 ⟨_,fz (kt.1 h),rfl⟩
 refine⟨h.e.we,fun l r hl=>l7 h.r (fz (kt.1 hl)),fun l l' h1 h2 e=>fe h.inj l (vu l h1) l' (vu l' h2) e,l6 fun l hl=>ku (.inl (by rw[kK];exact hp l hl)),fun l r hl cs bt q hq=> ?_,
  fun l hf=>⟨fun hu=> ?_,fun hl=>(h.fr l (vu l hl)).2 (Lb.ed hf)⟩,fun l hl hf=>(h.fr l (vu l hl)).1 hf⟩
 ·exact ku (.inl (by rw[kK];exact hr _ (fz (kt.1 hl)) cs bt q hq))
 exact ku (by rw[kK];exact h.nf l (Lb.ed hf) hu)
def fB {σ:Type} {S:St} {Q:eQ} {c:AC} {k:List It} {env:Env} {H:Hp} (ls:σ→List Lb) (u:σ→Lb→Bool) (ps:σ→List (Nat×AV)) (rs:σ→List (Lb×Row)) (μ:σ→Nat) (s0:σ)
  (kK:∀s,(rs s).map Prod.fst=ls s) (hp:∀s,∀l∈af ((ps s).map Prod.snd),l∈ls s) (hr:∀s,∀q∈rs s,∀cs∈q.2.bN,∀l∈af cs,l∈ls s) (h0:∃m,WU (ls s0) (u s0) (ps s0) (rs s0) env H m)
  (round:∀s,go S (jy S Q k (fun env H s=>∃m,WU (ls s) (u s) (ps s) (rs s) env H m) μ (μ s)) [.code c] (oj (ps s)) (tl (u s) (rs s))):kj S Q c k env H:=
 kq (fun s=>oj (ps s)) (fun s=>tl (u s) (rs s)) _ (fun _ _ s ⟨m,h⟩=>⟨_,h.wk (kK s) (hp s) (hr s)⟩) μ s0 h0 round
def bI (ρ:Lb→Lb) (sz:Nat) (xs:List IV):cC ρ ⟨sz,bK xs⟩=⟨sz,bK xs⟩:=nc ρ sz xs

def wk (d:Doc):Nat→Int→Int→Int→Option Int
 |0,_,_,_=>none
 |f+1,n,p,nx=>if n=nx then match d[n.toNat]? with
   |some x=>if x.parent=p then x.kids.foldlM (fun q k=>wk d f k n q) (nx+1) else none
   |none=>none
  else none
def kv {α:Type} {l:List α} {n:Nat} {x:α} {r:List α} (h:l.drop n=x::r):l[n]?=some x∧l.drop (n+1)=r:=by
 have h1:(l.drop n)[0]?=some x:=by rw[h];rfl
 refine⟨by simpa[F6] using h1,?_⟩;have:(l.drop n).drop 1=r:=by rw[h];rfl
 rwa[G'] at this
def AK (d:Doc):∀(f:Nat) (x:Tree) (m:Nat) (p:Int),x.dep≤f→(∃post,d.drop m=x.flat m p++post)→wk d f m p m=some ((m+x.kR:Nat):Int):=by
 intro f;induction f with
 |zero=>intro x m p h;rw[x.ss] at h;omega
 |succ f ih=>
 intro x m p hd ⟨post,hx⟩;rw[x.l9] at hx;obtain⟨h1,h2⟩:=kv hx;unfold wk;rw[FG rfl,FQ,h1];simp only[Tree.node,Gv];have kids:∀(xs:List Tree) (q:Nat),sr xs≤f→(∃post,d.drop q=dK q m xs++post)→(jb q xs).foldlM (fun q k=>wk d f k (m:Int) q) (q:Int)=some ((q+eO xs:Nat):Int):=by
  intro xs;induction xs with
  |nil=>intro q _ _;simp[jb,eO]
  |cons y ys Er=>
  intro q hq ⟨post,hp⟩;simp only[sr] at hq;simp only[dK,Gn] at hp;simp only[jb,List.foldlM_cons];rw[ih y q m (by omega) ⟨_,hp⟩];simp only[Option.bind_eq_bind,Fy];rw[Er (q+y.kR) (by omega) ⟨post,by rw[←G',hp,List.drop_append_of_le_length (by rw[y.gl];exact FJ _),HK (by rw[y.gl];exact FJ _)];rfl⟩];simp only[eO,GZ]
 have Es:=x.ss;have:=kids x.kids (m+1) (by omega) ⟨post,h2⟩;rw[show((m:Int)+1)=((m+1:Nat):Int) by omega,this,x.oo];congr 2;omega
def ly (x:Tree):(iF x).length=x.kR:=x.gl 0 (-1)
def pj (d:Doc):Prop:=∃x:Tree,x.yC=true∧d=iF x
def nj (x:Tree):x.yC=true↔x.text=false∧x.dep≤8∧x.kR≤80∧x.jT=true:=by
 simp only[Tree.yC,FE,GU,FV];constructor
 ·rintro⟨h1,h2,h3,h4⟩;exact⟨h1,by omega,by omega,h4⟩
 rintro⟨h1,h2,h3,h4⟩;exact⟨h1,by omega,by omega,h4⟩
def vC {x:Tree} (h:x.dep≤8):wk (iF x) 8 0 (-1) 0=some ((iF x).length:Int):=by
 have:=AK (iF x) 8 x 0 (-1) h ⟨[],by simp[iF]⟩;rw[ly];simpa using this

def Tree.AL (x:Tree) (s:Bs):Tree:= .mk x.text s x.attrs x.kids
def wx (p:Bool):List Tree→Bool
 |[]=>p
 |x::r=>wx x.text r
def grow (s:Bs):List Tree→List Tree
 |[]=>[]
 |[x]=>[x.AL (x.s++s)]
 |x::y::r=>x::grow s (y::r)
def push (out:List Tree) (x:Tree):List Tree:=
 if x.text&&x.s==[] then out else if x.text&&wx false out then grow x.s out else out++[x]

structure Et (x:Tree) where
 i:Nat
 L:Lb
 u:Lb→Bool
 hi:i≤x.kids.length
 l0:L≠ .par 0
 l8:L≠ .loc 8
 l10:L≠ .loc 10
 Fc:L≠ .loc 47
 lg:∀j,i≤j→L≠ .gen (1000+j)
 Fe:u (.loc 10)=false
 Ff:u (.loc 47)=false
 ug:∀j,i≤j→u (.gen (1000+j))=false

section
variable {env:Env} {H:Hp}
def vD (m:Option Nat) (t u:Nat) (R:AV→Hp→Prop):fc [(some m,t),(none,u)] R .ret env H=bz (cN m (env t) H) (fun x=>R (.dG [x,env u]) H) .mk:=by
 simp only[fc,fy,km,bz];cases cN m (env t) H<;>simp[iY]
end

inductive Sub:Nat→Int→Tree→Nat→Int→Tree→Prop
 |self (off:Nat) (p:Int) (t:Tree):Sub off p t off p t
 |wy {off:Nat} {p:Int} {t:Tree} {n:Nat} {q:Int} {y:Tree} (a b:List Tree) (k:Tree):t.kids=a++k::b→Sub (off+1+eO a) off k n q y→Sub off p t n q y
def kx (d:Doc) (n:Nat) (q:Int) (y:Tree):Prop:=∃post,d.drop n=y.flat n q++post
def sv {α:Type} {a b c:List α} {n:Nat} (h:a.length=n):(a++b).drop n=b:=by subst h;simp
def Sub.AM {off:Nat} {p:Int} {t:Tree} {n:Nat} {q:Int} {y:Tree} (h:Sub off p t n q y):∀d:Doc,kx d off p t→kx d n q y:=by
 induction h with
 |self=>exact fun _ h=>h
 |@wy off p t n q y a b k hk _ ih=>
 rintro d ⟨post,h⟩;refine ih d ⟨dK (off+1+eO a+k.kR) off b++post,?_⟩;rw[t.l9,hk] at h;have h2:=(kv h).2;rw[lx] at h2;have h3:d.drop (off+1)=dK (off+1) off a++(dK (off+1+eO a) off (k::b)++post):=by rw[h2];exact Gn _ _ _
 rw[←G',h3,sv (c:=[]) (jc _ _ _)];simp[dK]
def Sub.parent {off:Nat} {p:Int} {t:Tree} {n:Nat} {q:Int} {y:Tree} (h:Sub off p t n q y) :
  (n=off∧q=p∧y=t)∨∃(m:Nat) (z:Tree) (r:Int),q=(m:Int)∧Sub off p t m r z∧m<n∧n+y.kR≤m+z.kR∧y∈z.kids∧off≤m:=by
 induction h with
 |self=>exact .inl ⟨rfl,rfl,rfl⟩
 |@wy off p t n q y a b k hk hs ih=>
 right;rcases ih with⟨rfl,rfl,rfl⟩|⟨m,z,r,e1,e2,e3,e4,e5,e6⟩
 ·have h1:=t.oo;rw[hk,ni] at h1;simp only[eO] at h1;exact⟨off,t,p,rfl,.self _ _ _,by omega,by omega,by rw[hk];simp,FJ _⟩
 exact⟨m,z,r,e1,.wy a b k hk e2,e3,e4,e5,by omega⟩
def Sub.trans {off:Nat} {p:Int} {t:Tree} {n:Nat} {q:Int} {y:Tree} (h:Sub off p t n q y) {m:Nat} {r:Int} {z:Tree} (h2:Sub n q y m r z):Sub off p t m r z:=by
 induction h with
 |self=>exact h2
 |wy a b k hk _ ih=>exact .wy a b k hk (ih h2)
def kx.node {d:Doc} {n:Nat} {q:Int} {y:Tree} (h:kx d n q y):d[n]?=some (y.node n q):=by
 obtain⟨post,h⟩:=h;rw[y.l9] at h;exact(kv h).1
def kx.len {d:Doc} {n:Nat} {q:Int} {y:Tree} (h:kx d n q y):n+y.kR≤d.length:=by
 obtain⟨post,h⟩:=h;have:=FK List.length h;rw[Gm,Ga,y.gl] at this;have:=y.ph;omega
def kx.wy {d:Doc} {n:Nat} {q:Int} {y:Tree} (h:kx d n q y) (a b:List Tree) (k:Tree) (hk:y.kids=a++k::b):kx d (n+1+eO a) n k:=
 (Sub.wy (off:=n) (p:=q) a b k hk (.self _ _ _)).AM d h
theorem lz:∀{p:Option Bool} {l:List Tree},lv p l=true→∀x∈l,x.jT=true
 |_,[],_,x,hx=>by simp at hx
 |p,y::r,h,x,hx=>by
  simp only[lv,FE] at h;simp only[FP] at hx;rcases hx with rfl|hx
  ·exact h.1
  exact lz h.2.2 x hx
def Tree.qg {x:Tree} (h:x.jT=true):lv none x.kids=true:=by
 cases ht:x.text with
 |true=>
  rw[x.yA ht] at h;simp only[FE,Hj,GR] at h;rw[h.2.2.2];rfl
 |false=>
 rw[x.yB ht] at h;simp only[FE] at h;exact h.2.2
def Sub.jT {off:Nat} {p:Int} {t:Tree} {n:Nat} {q:Int} {y:Tree} (h:Sub off p t n q y):t.jT=true→y.jT=true:=by
 induction h with
 |self=>exact id
 |wy a b k hk _ ih=>exact fun h=>ih (lz (Tree.qg h) k (by rw[hk];simp))

def sw:Nat→List (Tree×Int)→List (Nat×Int)
 |_,[]=>[]
 |n,(t,p)::r=>(n,p)::sw (n+t.kR) r
def yD (j:Int) (ps:List (Nat×Int)):List Int:=(ps.filter fun x=>x.2==j).map fun x=>(x.1:Int)
def sx:Nat→List (Tree×Int)→List Node
 |_,[]=>[]
 |n,(t,p)::r=>t.flat n p++sx (n+t.kR) r
def fill (ps:List (Nat×Int)):Nat→List Node→List Node
 |_,[]=>[]
 |j,x::r=>{x with kids:=x.kids++yD j ps}::fill ps (j+1) r
def whole (d:List Node) (l:List (Tree×Int)):List Node:=fill (sw d.length l) 0 d++sx d.length l

def Doc.av (d:Doc):AV:= .agg [.list (d.map Node.iv)]
section
variable {P:Program} {G:Nat→Option (List IV)}
end

def nk (rs:List (Lb×Row)):tl (fun _=>false) rs=ln rs:=by
 funext q;unfold tl;cases ln rs q<;>rfl
def sy (ff sB:Nat):AC:=
(aK [DC 2 0,bg 4 (.new [(.bool false),(.str []),.nil0,.nil0])] (aK [mo 9 2 0,oT 10 9,ah 11 1,tz 12 10 11 5,qP 13 5 12,bg 5 (.new [(.bool false),(.str []),.nil0,(.int .i64 0),.nil0]),mq (.store 5 (.t 5) (.t 13))] (.seq (.ix [mo 14 5 0,oT 15 14,mo 16 5 1,oT 17 16,mo 18 5 2,oT 19 18,bg 20 (.call ff [(.t 19)]),bg 21 (.qL [(.bool false),(.str []),.nil0,.nil0] [(0,(1,(.t 15))),(1,(1,(.t 17))),(2,(1,(.t 20)))]),bg 6 (.new [(.bool false),(.str []),.nil0,.nil0]),mq (.store 4 (.t 6) (.t 21))] [[],[0],[],[2],[],[4],[5],[1,3,6],[],[8,7,6,0,1,2,3,4,5,6,7,8]] [.no,.rw [.loc 5] [],.no,.rw [.loc 5] [],.no,.rw [.loc 5] [],.no,.no,.rw [] [.loc 6],.rw [] [.loc 6]]) (.seq (.gh .pN (aK [mo 22 5 4,oT 23 22,tC 24 23,iK 25 0] (.block 0 (.loop (aK [ga 26 .lss 25 24] (.seq (.cond (.t 26) .skip (.exit 0)) (.seq (.block 1 (aK [tz 27 23 25 1,oT 28 27,ah 8 28] (.ix [mo 29 6 3,oT 30 29,qP 31 1 2,ah 32 8,bg 33 (.call sB [(.t 31),(.t 32)]),bg 34 (.lits 1 4 [(.bool false),(.str []),.nil0,.nil0] [(0,(.t 33))]),bg 35 (.app (.t 30) (.t 34) 4 72),mo 36 6 3,mq (.store 1 (.t 36) (.t 35))] [[],[0],[],[],[2,3],[4],[1,5,4],[0,1,2,3,4,5,6],[7,6,6,0,1,2,3,4,5,6]] [.no,.rw [.loc 6] [],.rw [.loc 2] [],.no,.no,.no,(.rw [] [.loc 50,.loc 35]),.no,.rw [] [.loc 6]]))) (.fU [ew 37 .add 25 1,ah 25 37])))))))) (.gh (.uj (.loc 50) (.loc 6) 3) (aK [qP 38 4 6,mq (.store 4 (.t 4) (.t 38))] .ret))))))

def Node.wt (x:Node):Nat:=1+x.s.length+zv x.attrs+x.kids.length
def tm:Doc→Nat
 |[]=>0
 |x::r=>x.wt+tm r
theorem jY:∀a b:Doc,tm (a++b)=tm a+tm b
 |[],b=>by simp[tm]
 |x::r,b=>by simp[tm,jY r b,GZ]
mutual
theorem Tree.pk (off:Nat) (p:Int):∀x:Tree,x.wt≤tm (x.flat off p)
 | .mk t s as ks=>by
  have:=nn (off+1) off ks;simp only[Tree.flat,tm,Node.wt,Tree.wt];omega
theorem nn (off p:Nat):∀xs:List Tree,zw xs≤tm (dK off p xs)
 |[]=>by simp[zw]
 |k::r=>by
  have:=k.pk off p;have:=nn (off+k.kR) p r;simp only[dK,jY,zw];omega
end
def kx.wt {d:Doc} {n:Nat} {q:Int} {y:Tree} (h:kx d n q y):y.wt≤tm d:=by
 obtain⟨post,h⟩:=h;have h1:=y.pk n q;have h2:=jY (d.take n) (d.drop n);rw[FZ,h,jY] at h2;omega
section
variable {P:Program} {G:Nat→Option (List IV)}
end
def pj.len {d:Doc} (h:pj d):1≤d.length∧d.length≤80:=by
 obtain⟨x,hx,rfl⟩:=h;have:=(nj x).1 hx;have:=x.ph;rw[ly];omega
def pj.wk {d:Doc} (h:pj d):wk d 8 0 (-1) 0=some (d.length:Int):=by
 obtain⟨x,hx,rfl⟩:=h;exact vC ((nj x).1 hx).2.1

section
variable {P:Program}
def Sh.AN {t:TypeId} {y:IV} (h:Sh P t y) (hu:P.underlying t=some .bool):∃x,y= .bool x:=by
 cases h<;>simp_all
def Sh.sC {t:TypeId} {y:IV} {k:IntKind} (h:Sh P t y) (hu:P.underlying t=some (.int k)):∃n,y= .int k n∧(Lit.int k n).wf=true:=by
 cases h<;>simp_all
def Sh.np {t:TypeId} {y:IV} (h:Sh P t y) (hu:P.underlying t=some .string):∃x,y= .str x:=by
 cases h<;>simp_all
def Sh.wz {t e:TypeId} {y:IV} (h:Sh P t y) (hu:P.underlying t=some (.slice e)):∃ys,y= .list ys∧∀y∈ys,Sh P e y:=by
 cases h<;>simp_all
def Sh.sE {t:TypeId} {fs:Array Field} {y:IV} (h:Sh P t y) (hu:P.underlying t=some (.struct fs)) :
  ∃ys,y= .agg ys∧ys.length=fs.size∧∀(j:Nat) (f:Field) (y:IV),fs[j]?=some f→ys[j]?=some y→Sh P f.type y:=by
 cases h with
 |g AE h1 h2=>
  rw[AE] at hu;cases hu;exact⟨_,rfl,h1,h2⟩
 |_=>simp_all
structure wA (P:Program) where
 tB:TypeId
 tS:TypeId
 tA:TypeId
 AP:TypeId
 tT:TypeId
 Cz:TypeId
 fA:Array Field
 fT:Array Field
 uB:P.underlying tB=some .bool
 uS:P.underlying tS=some .string
 Dn:P.underlying AP=some (.slice tA)
 Eu:P.underlying Cz=some (.slice tT)
 uA:P.underlying tA=some (.struct fA)
 uT:P.underlying tT=some (.struct fT)
 sA:fA.toList.map (·.type)=[tS,tS]
 sT:fT.toList.map (·.type)=[tB,tS,AP,Cz]
def dL {fs:Array Field} {ts:List TypeId} (h:fs.toList.map (·.type)=ts) (j:Nat) (t:TypeId) (ht:ts[j]?=some t):∃f,fs[j]?=some f∧f.type=t:=by
 subst h;rw[F9] at ht;obtain⟨f,h1,rfl⟩:=Fu.1 ht;exact⟨f,by simpa using h1,rfl⟩
def Sh.attr (T:wA P) {y:IV} (h:Sh P T.tA y):∃a:Attr,y=a.iv∧a.wt≤y.wt:=by
 obtain⟨ys,rfl,hl,hy⟩:=h.sE T.uA;have hs:T.fA.size=2:=by have:=FK List.length T.sA;simpa using this
 match ys,hl.trans hs,hy with
 |[y0,y1],_,hy=>
  obtain⟨f0,e0,t0⟩:=dL T.sA 0 T.tS rfl;obtain⟨f1,e1,t1⟩:=dL T.sA 1 T.tS rfl;have h0:=hy 0 f0 y0 e0 rfl;have h1:=hy 1 f1 y1 e1 rfl;rw[t0] at h0;rw[t1] at h1;obtain⟨x0,rfl⟩:=h0.np T.uS;obtain⟨x1,rfl⟩:=h1.np T.uS;exact⟨⟨x0,x1⟩,rfl,by simp[Attr.wt,IV.wt,kQ];omega⟩
theorem Sh.attrs (T:wA P):∀(ys:List IV),(∀y∈ys,Sh P T.tA y)→∃as,ys=zu as∧zv as≤kQ ys
 |[],_=>⟨[],rfl,by simp[zv,kQ]⟩
 |y::r,h=>by
  obtain⟨a,rfl,h1⟩:=(h y (by simp)).attr T;obtain⟨as,rfl,h2⟩:=Sh.attrs T r (fun z hz=>h z (by simp[hz]));exact⟨a::as,rfl,by simp only[zv,kQ];omega⟩

structure Dp (P:Program) (T:wA P) where
 tI:TypeId
 CA:TypeId
 tN:TypeId
 Dq:TypeId
 tD:TypeId
 fN:Array Field
 fD:Array Field
 uI:P.underlying tI=some (.int .i64)
 Ev:P.underlying CA=some (.slice tI)
 uN:P.underlying tN=some (.struct fN)
 Fg:P.underlying Dq=some (.slice tN)
 uD:P.underlying tD=some (.struct fD)
 sN:fN.toList.map (·.type)=[T.tB,T.tS,T.AP,tI,CA]
 sD:fD.toList.map (·.type)=[Dq]
theorem Sh.ints {T:wA P} (D:Dp P T):∀(ys:List IV),(∀y∈ys,Sh P D.tI y)→∃xs:List Int,ys=xs.map su∧xs.length≤kQ ys
 |[],_=>⟨[],rfl,by simp[kQ]⟩
 |y::r,h=>by
  obtain⟨n,rfl,_⟩:=(h y (by simp)).sC D.uI;obtain⟨xs,rfl,h2⟩:=Sh.ints D r (fun z hz=>h z (by simp[hz]));exact⟨n::xs,rfl,by simp only[FW,kQ,IV.wt];omega⟩
def Sh.node {T:wA P} (D:Dp P T) {y:IV} (h:Sh P D.tN y):∃x:Node,y=x.iv∧x.wt≤y.wt:=by
 obtain⟨ys,rfl,hl,o1⟩:=h.sE D.uN;have hs:D.fN.size=5:=by have:=FK List.length D.sN;simpa using this
 match ys,hl.trans hs,o1 with
 |[y0,y1,y2,y3,y4],_,o1=>
  obtain⟨f0,e0,t0⟩:=dL D.sN 0 T.tB rfl;obtain⟨f1,e1,t1⟩:=dL D.sN 1 T.tS rfl;obtain⟨f2,e2,t2⟩:=dL D.sN 2 T.AP rfl;obtain⟨f3,e3,t3⟩:=dL D.sN 3 D.tI rfl;obtain⟨f4,e4,t4⟩:=dL D.sN 4 D.CA rfl;have h0:=o1 0 f0 y0 e0 rfl;have h1:=o1 1 f1 y1 e1 rfl;have h2:=o1 2 f2 y2 e2 rfl;have h3:=o1 3 f3 y3 e3 rfl;have h4:=o1 4 f4 y4 e4 rfl;rw[t0] at h0;rw[t1] at h1;rw[t2] at h2;rw[t3] at h3;rw[t4] at h4;obtain⟨b,rfl⟩:=h0.AN T.uB;obtain⟨s,rfl⟩:=h1.np T.uS;obtain⟨z2,rfl,g2⟩:=h2.wz T.Dn;obtain⟨p,rfl,_⟩:=h3.sC D.uI;obtain⟨z4,rfl,g4⟩:=h4.wz D.Ev;obtain⟨as,rfl,w2⟩:=Sh.attrs T z2 g2;obtain⟨ks,rfl,w4⟩:=Sh.ints D z4 g4;exact⟨⟨b,s,as,p,ks⟩,rfl,by simp only[Node.wt,IV.wt,kQ];omega⟩
end
end Go.Am
