import Derived.Test.YtfeijflhfhkbnaaGreatDoorKAc0S
import Derived.Test.YtfeijflhfhkbnaaGreatDoorKT60S
import Derived.Test.YtfeijflhfhkbnaaGreatDoorKT9S
import Derived.Test.YtfeijflhfhkbnaaGreatDoorKT21S
import Derived.Test.YtfeijflhfhkbnaaGreatDoorKAm47S
import Derived.Test.YtfeijflhfhkbnaaGreatDoorKAm40S
set_option linter.all false
/- The bench: attributes set and dropped. -/
namespace Go.Am
open Go Go.RowKit
def i_ (az:List Attr) (o:Op):List Attr:=
 if o.kind=10 then(if vF az o.name then az.take (fJ az o.name)++az.drop (fJ az o.name+1) else az)
 else if vF az o.name then az.set (fJ az o.name) ⟨o.name,o.s⟩ else az.take (fJ az o.name)++[⟨o.name,o.s⟩]++az.drop (fJ az o.name)
def Bn.attr (b:Bn) (n:Nat) (o:Op):Bn:=match b.nodes[n]? with
 |some x=>b.set n {x with attrs:=i_ x.attrs o}
 |none=>b
theorem KS (az:List Attr) (key:Bs):fJ az key<=az.length:=by unfold fJ;exact(List.takeWhile_sublist _).length_le
def AF {az:List Attr} {key:Bs} (h:vF az key=true):∃a,az[fJ az key]?=some a/\a.name=key:=by
 unfold vF at h;split at h
 ·rename_i a ha;exact⟨a,ha,aj6⟩
 cases h
def Gq {α:Type} {l:List α} {n:Nat} {v:α} (h:l[n]?=some v):l.set n v=l:=by
 obtain⟨h1,rfl⟩:=afY.1 h;exact List.set_getElem_self h1
def QD {az:List Attr} {i:Nat} {a:Attr} (h:az[i]?=some a):(ak (aQ az))[i]?=some [.str a.name,.str a.val]:=by
 simp[ak,aQ,h,Attr.iv,Attr.cs,IV.cells,IV.dw]
def QE (az:List Attr) (i:Nat) (a:Attr):(ak (aQ az)).set i [.str a.name,.str a.val]=ak (aQ (az.set i a)):=by
 simp[ak,aQ,aiT,Attr.iv,Attr.cs,IV.cells,IV.dw]
def acs (P:Program) (G:Nat->Option (List IV)) (f:Nat):Prop:=∀(xs vs:List Attr) (i:Nat),i<=xs.length->xs.length+vs.length<=B ->
 qj P G 2 f [.sl (.par 0) 2 0 xs.length,.int .i64 i,.list (aQ vs)] (aQ xs) (aQ (xs.take i++vs++xs.drop i))
def acu (P:Program) (G:Nat->Option (List IV)) (f:Nat):Prop:=∀(xs:List Attr) (i:Nat),i<xs.length->xs.length<=B ->
 qj P G 2 f [.sl (.par 0) 2 0 xs.length,.int .i64 i,.int .i64 ((i+1:Nat):Int)] (aQ xs) (aQ (xs.take i++xs.drop (i+1)))
section
variable {P:Program} {G:Nat->Option (List IV)} [KN P G]
set_option maxRecDepth 20000 in
def acv (b:Bn) (n:Nat) (hp:n<b.n0) (x:Node) (hx:b.nodes[n]?=some x)
  (o:Op) (ht:o.target=n) (hk:o.kind=9\/o.kind=10) (hb:x.attrs.length+1<=B) (hS:aj P G 188 [.list (aQ x.attrs),.str o.name,.fn 189 [] []] (.bq [.int .i64 (fJ x.attrs o.name),.bool (vF x.attrs o.name)]))
  (hI:acs P G 191) (hD:acu P G 190) :
  r_ P G 160 [.ptr (.par 0) 3 0 0,o.av] (dh b) (b.NY (4+2*n)) λX R2=>X=(λ_=> .bq [])/\R2=dh (b.attr n o):=by
 refine ez (cw 160 [.f 7 5 (.rw [.loc 3] []),.f 15 5 (.rw [.loc 3] []),.f 49 6 (.rw [.loc 3] []),.f 62 7 (.rw [.loc 3] []),.f 62 9 (.rw [.loc 3] []),.f 10 3 (.rw [(.par 0)] []),.f 18 3 (.rw [(.par 1)] []),.f 21 6 (.v7 []),.f 52 3 (.rw [(.par 1)] []),.f 57 9 .all,.f 66 4 (.rw [(.par 1)] []),.f 74 12 (.v7 []),.f 74 15 (.rw [] [(.par 1)])]) ajL aj_ ?_;have dO:b8 Lb.par b (n7 (dh b)):=mb _;have hU:∀q:Lb,(∀p,p<4+2*b.n0->q≠ .par p)->n7 (dh b) q= .unused:=λq hq=>gx _ λp hp e=>hq p (aW.1 hp) e.symm;have h3:n7 (dh b) (.loc 3)= .unused:=hU _ ajL;have h39:n7 (dh b) (.gen 39)= .unused:=hU _ ajL;have h74:n7 (dh b) (.gen 74)= .unused:=hU _ ajL;have hlen:n<b.nodes.length:=(List.getElem?_eq_some_iff.1 hx).1;have gV:B=1073741824:=rfl;have Sj:=cy (n0:=b.n0) (lab:=Lb.par) (x:=x) hp;have bU:=dO.get hx;rw[Sj] at bU;have oE:=dO.at' hp hx;simp only[↓aX,mX,seval,Op.av,ht,h3,dO.s,dO.n,hlen,List.length_mapIdx,Int.natCast_nonneg,Int.toNat_natCast,and_self,true_and,Nat.zero_add,bU];refine⟨rfl,rfl,?_⟩;refine OY hS (.cons (Gl alP (gn _) (by simp[aE])) (.cons (.same _) (.cons (.same _) .nil))) rfl ?_;have HD:=KS x.attrs o.name;have hw:IntKind.i64.wrap ((fJ x.attrs o.name:Int)+1)=((fJ x.attrs o.name+1:Nat):Int):=wrap64 ajK ajK;have yn:IntKind.i64.wrap ((fJ x.attrs o.name:Int)+1)=((fJ x.attrs o.name+1:Nat):Int):=hw;simp only[↓aX,mX,seval,Op.av,ht,h3,dO.s,dO.n,hlen,List.length_mapIdx,Int.natCast_nonneg,Int.toNat_natCast,and_self,true_and,Nat.zero_add,bU];have aex:b.attr n o=b.set n {x with attrs:=i_ x.attrs o}:=by unfold Bn.attr;rw[hx]
 have hb3:b8 Lb.par b (aS (n7 (dh b)) (.loc 3) (.live ⟨5,[[.int .i64 o.kind,.int .i64 n,.list (aM o.content),.str o.name,.str o.s]]⟩)):=dO.tp ajL;have key:∀(N:Lb) (ys:List Attr),i_ x.attrs o=ys->(N= .par (4+2*n)\/N= .gen 39\/N= .gen 74)->∀H2:Hp,H2 (.par 1)= .live ⟨5,(b.nodes.mapIdx (b5 b.n0 Lb.par)).set n [.bool x.text,.str x.s,.sl N 2 0 ys.length,.int .i64 x.parent,.sl (.par (5+2*n)) 1 0 x.kids.length]⟩ ->
   H2 N= .live ⟨2,ak (aQ ys)⟩->(∀q,q≠ .par 1->q≠N->q≠ .par (4+2*n)->q≠ .loc 3->H2 q=n7 (dh b) q) ->
   ∃t:((Nat->Lb)->AV)×n6×(Nat->Lb),(t.1=(λ_=> .bq [])/\t.2.1=dh (b.attr n o))/\(∀ρ,aH ρ (t.1 t.2.2)=t.1 λi=>ρ (t.2.2 i))/\(∀l∈(AV.bq []).aq,∃p,t.2.1.ok p/\l=t.2.2 p)/\AV.bq []=t.1 t.2.2/\ko t.2.2 t.2.1 H2/\∀p'∈b.NY (4+2*n),t.2.2 p'= .par p':=by
  intro N ys sM hN H2 e1 e2 e3;refine⟨⟨λ_=> .bq [],dh (b.attr n o),λp'=>if p'=4+2*n then N else .par p'⟩,⟨rfl,rfl⟩,λρ=>by simp[aH,aA],ajU,rfl,?_,?_⟩
  ·rw[aex,sM];have hN3:∀p',(if p'=4+2*n then N else Lb.par p')≠ .loc 3:=by
    intro p';split
    ·rcases hN with rfl|rfl|rfl<;>simp
    simp
   have:=b8.fZ (H2:=λq=>if q= .loc 3 then n7 (dh b) q else H2 q) dO (N:=N) (ys:=ys) hp hx (by
    rcases hN with rfl|rfl|rfl
    ·exact .inl rfl
    ·exact .inr ajL
    ·exact .inr ajL) an3 (by rw[if_neg (by rcases hN with rfl|rfl|rfl<;>simp)];exact e2) (by
    intro q g1 g2 g3;by_cases g4:q= .loc 3
    ·simp[g4]
    simp only[g4,if_false];exact e3 q g1 g2 g3 g4)
   refine⟨λq r hr=> ?_,this.inj⟩;have h1:=this.row q r hr;exact(if_neg (hN3 q)).symm.trans h1
  intro p' fE;exact if_neg (ik.1 fE).2
 have h14:¬(1:Nat)=4+2*n:=ajK
 have Gr:∀P Q:List Attr,(if(9:Int)=10 then P else Q)=Q:=λ_ _=>if_neg ajN;rcases hk with hk|hk
 ·simp only[↓aX,mX,seval,hk,Int.reduceBEq,ht,h3,dO.s,dO.n,hlen,List.length_mapIdx,Int.natCast_nonneg,Int.toNat_natCast,and_self,true_and,Nat.zero_add,bU];refine j7 (λh=> ?_) (λh=> ?_)
  ·obtain⟨a,ha,hn⟩:=AF h;have PJ:fJ x.attrs o.name<x.attrs.length:=(List.getElem?_eq_some_iff.1 ha).1;simp only[↓aX,mX,seval,hk,h,Int.reduceBEq,ht,h3,dO.s,dO.n,hlen,List.length_mapIdx,Int.natCast_nonneg,Int.toNat_natCast,and_self,true_and,Nat.zero_add,bU];refine⟨rfl,?_⟩;have aey:=QD ha;simp only[↓aX,mX,seval,PJ,h3,oE,aey];rw[fF];refine⟨[],rfl,key (.par (4+2*n)) (x.attrs.set (fJ x.attrs o.name) ⟨o.name,o.s⟩) ?_ (.inl rfl) _ ?_ ?_ ?_⟩
   ·simp only[i_,hk,Gr,h,if_true]
   ·rw[List.length_set,Gq bU];simp[ae,dO.n,h14]
   ·rw[ae,if_pos rfl,<-QE,hn]
   intro q g1 g2 g3 g4;simp[ae,g3,g4]
  simp only[↓aX,mX,seval,hk,h,Int.reduceBEq,ht,h3,dO.s,dO.n,hlen,List.length_mapIdx,Int.natCast_nonneg,Int.toNat_natCast,and_self,true_and,Nat.zero_add,bU];refine⟨rfl,?_⟩;refine vB (l:= .par (4+2*n)) (N:= .gen 74) (hI x.attrs [⟨o.name,o.s⟩] (fJ x.attrs o.name) HD ajY) rfl alP (by rw[an _ _ ajL];exact h74) ak7 ajL ajL ?_ ?_
  ·simp only[↓aX,mX,seval,hk,h,Int.reduceBEq,ht,h3,dO.s,dO.n,hlen,List.length_mapIdx,Int.natCast_nonneg,Int.toNat_natCast,and_self,true_and,Nat.zero_add,bU,aE,h14];rw[fF];refine⟨[],rfl,key (.gen 74) (x.attrs.take (fJ x.attrs o.name)++[⟨o.name,o.s⟩]++x.attrs.drop (fJ x.attrs o.name)) ?_ (.inr (.inr rfl)) _ ?_ ?_ ?_⟩
   ·simp[i_,hk,h]
   ·simp[ae]
   ·simp[ae]
   intro q g1 g2 g3 g4;simp[ae,g1,g2,g3,g4]
  simp only[↓aX,mX,seval,hk,h,Int.reduceBEq,ht,h3,dO.s,dO.n,hlen,List.length_mapIdx,Int.natCast_nonneg,Int.toNat_natCast,and_self,true_and,Nat.zero_add,bU,aE,h14];rw[fF];refine⟨[],rfl,key (.par (4+2*n)) (x.attrs.take (fJ x.attrs o.name)++[⟨o.name,o.s⟩]++x.attrs.drop (fJ x.attrs o.name)) ?_ (.inl rfl) _ ?_ ?_ ?_⟩
  ·simp[i_,hk,h]
  ·simp[ae]
  ·simp[ae];omega
  intro q g1 g2 g3 g4;simp[ae,g1,g3,g4]
 simp only[↓aX,mX,seval,hk,Int.reduceBEq,ht,h3,dO.s,dO.n,hlen,List.length_mapIdx,Int.natCast_nonneg,Int.toNat_natCast,and_self,true_and,Nat.zero_add,bU];refine j7 (λh=> ?_) (λh=> ?_)
 ·obtain⟨a,ha,hn⟩:=AF h;have PJ:fJ x.attrs o.name<x.attrs.length:=(List.getElem?_eq_some_iff.1 ha).1;simp only[↓aX,mX,seval,hw,h,Int.reduceBEq,ht,h3,dO.s,dO.n,hlen,List.length_mapIdx,Int.natCast_nonneg,Int.toNat_natCast,and_self,true_and,Nat.zero_add,bU];refine rZ (l:= .par (4+2*n)) (N:= .gen 39) (hD x.attrs (fJ x.attrs o.name) PJ ajK) rfl alP (by rw[an _ _ ajL];exact h39) ak7 ?_ ?_
  ·simp only[↓aX,mX,seval,hk,h,Int.reduceBEq,ht,h3,dO.s,dO.n,hlen,List.length_mapIdx,Int.natCast_nonneg,Int.toNat_natCast,and_self,true_and,Nat.zero_add,bU,aE,h14];rw[fF];refine⟨[],rfl,key (.gen 39) (x.attrs.take (fJ x.attrs o.name)++x.attrs.drop (fJ x.attrs o.name+1)) ?_ (.inr (.inl rfl)) _ ?_ ?_ ?_⟩
   ·simp[i_,hk,h]
   ·simp[ae]
   ·simp[ae]
   intro q g1 g2 g3 g4;simp[ae,g1,g2,g3,g4]
  simp only[↓aX,mX,seval,hk,h,Int.reduceBEq,ht,h3,dO.s,dO.n,hlen,List.length_mapIdx,Int.natCast_nonneg,Int.toNat_natCast,and_self,true_and,Nat.zero_add,bU,aE,h14];rw[fF];refine⟨[],rfl,key (.par (4+2*n)) (x.attrs.take (fJ x.attrs o.name)++x.attrs.drop (fJ x.attrs o.name+1)) ?_ (.inl rfl) _ ?_ ?_ ?_⟩
  ·simp[i_,hk,h]
  ·simp[ae]
  ·simp[ae];omega
  intro q g1 g2 g3 g4;simp[ae,g1,g3,g4]
 simp only[↓aX,mX,seval,hk,h,Int.reduceBEq,ht,h3,dO.s,dO.n,hlen,List.length_mapIdx,Int.natCast_nonneg,Int.toNat_natCast,and_self,true_and,Nat.zero_add,bU];rw[fF];refine⟨[],rfl,key (.par (4+2*n)) x.attrs ?_ (.inl rfl) _ ?_ ?_ ?_⟩
 ·simp[i_,hk,h]
 ·rw[Gq bU];simp[ae,dO.n,h14]
 ·simp[ae,oE]
 intro q g1 g2 g3 g4;simp[ae,g4]
end

def QF (az:List Attr) (k v:Bs):List Attr:=az.filter (λa=>Op.bytesLess a.name k)++⟨k,v⟩::az.filter (λa=>Op.bytesLess k a.name)
def KT (az:List Attr) (k:Bs):List Attr:=az.filter (λa=>Op.bytesLess a.name k)++az.filter (λa=>Op.bytesLess k a.name)
theorem yY:∀{az:List Attr},gA az=true↔az.Pairwise λa b=>Op.bytesLess a.name b.name=true
 |[]=>by simp[gA]
 |a::r=>by
  rw[aik];constructor
  ·intro h;exact⟨yS h,yY.1 (wK h)⟩
  rintro⟨h1,h2⟩;cases r with
  |nil=>rfl
  |cons b r=>simp_all[gA,agm,yY]
theorem CI {key:Bs}:∀{az:List Attr},gA az=true->az.take (fJ az key)=az.filter (λa=>Op.bytesLess a.name key) /\
  (vF az key=true->az.drop (fJ az key+1)=az.filter (λa=>Op.bytesLess key a.name))/\(vF az key=false->az.drop (fJ az key)=az.filter (λa=>Op.bytesLess key a.name))
 |[],_=>by simp[fJ,vF]
 |a::r,h=>by
  have ht:=wK h;have aF:=yS h;obtain⟨i1,i2,i3⟩:=CI (key:=key) ht;cases h1:Op.bytesLess a.name key with
  |true=>
   have hp:fJ (a::r) key=fJ r key+1:=by simp[fJ,aif,h1]
   grind [vF,vl]
  |false=>
  have hp:fJ (a::r) key=0:=by simp[fJ,h1]
  have EF:∀b∈r,Op.bytesLess b.name key=false:=λb hb=>by
   grind [qa]
  have xw:∀b∈r,Op.bytesLess key b.name=true:=λb hb=>by
   grind [tH,qa]
  have SH:(a::r).filter (λa=>Op.bytesLess a.name key)=[]:=by
   simp_all
  have R8:r.filter (λa=>Op.bytesLess key a.name)=r:=ajz.2 xw
  grind [vF,wJ,tH]
theorem AG {az:List Attr} (h:gA az=true) (o:Op):i_ az o=if o.kind=10 then KT az o.name else QF az o.name o.s:=by
 obtain⟨i1,i2,i3⟩:=CI (key:=o.name) h;unfold i_ KT QF;cases hh:vF az o.name with
 |true=>
  obtain⟨a,ha,hn⟩:=AF hh;have aF:=(afY.1 ha).1;simp_all[fJ,List.set_eq_take_append_cons_drop.trans]
 |false=>
 simp;rw[i1,i3 hh];split
 ·grind [agD]
 simp
theorem QG {az:List Attr} (h:gA az=true) (k v:Bs):gA (QF az k v)=true:=by
 rw[yY] at h ⊢;unfold QF;rw[ahU,aik];refine⟨h.filter _,⟨λb hb=> ?_,h.filter _⟩,λa ha b hb=> ?_⟩
 ·grind
 grind [qa]
theorem MU {az:List Attr} (h:gA az=true) (k:Bs):gA (KT az k)=true:=by
 grind [yY,KT,qa]
theorem MV {az:List Attr} (h:gA az=true) (o:Op):gA (i_ az o)=true:=by
 grind [AG,MU,QG]
theorem MW (az:List Attr) (o:Op):(i_ az o).length<=az.length+1:=by
 grind [KS,i_]

def oa {S:St} {env:Env} {H:Hp} {q N:Lb} {sq i j sz:Nat} {els:List (List AV)} {cs:List AV} (g1:H q= .live ⟨sq,els⟩) (g0:els[i]?=some cs) (g2:cs[j]?=some .nil0) (g3:H N= .unused) (g4:0<sz) :
  eE S env H env (aS (aS H N (.live ⟨sz,[]⟩)) q (.live ⟨sq,els.set i (cs.set j (.sl N sz 0 0))⟩)):=by
 intro K β a w hKS hS hr;have hk:=hr.qx N g3 (r:=⟨sz,[]⟩) (Below.refl _ _) none ajL ajL ⟨g4,ajL,ajL⟩;have Pl:q≠N:=amY
 have hq:aS H N (.live ⟨sz,[]⟩) q= .live ⟨sq,els⟩:=by rw[an _ _ Pl];exact g1
 have hlen:=(hr.rows q _ g1).2.1;have hbq:aS β N none q=β q:=an _ _ Pl;have je:i<els.length:=(afY.1 g0).1;cases hb:β q with
 |none=>
  have:=(hr.rows q _ g1).2.2;simp only[hb] at this;rw[this] at je;simp at je
 |some g=>
 obtain⟨cur,e0,cap,k1,k2,k3,k4,k5⟩:=(hk.rows q _ hq).block (hbq.trans hb);have kE:j<cs.length:=(afY.1 g2).1;have kH:=hk.setRow q (r':=⟨sq,els.set i (cs.set j (.sl N sz 0 0))⟩) (cur':=cur) (cap:=cap) hq (hbq.trans hb) k1 rfl rfl k2 k3 amM (by
   intro ds Bw;rcases ahq Bw with h|rfl
   ·exact hlen ds h
   simpa using hlen cs (af3 g0))
  (by
   intro ds Bw p hp;rcases ahq Bw with h|rfl
   ·exact hk.cB q _ hq ds h p hp
   obtain⟨y,hy,R_⟩:=zG hp;rcases ahq hy with hy|rfl
   ·obtain⟨m,hm⟩:=agE hy;exact hk.cB q _ hq cs (af3 g0) p (dW _ _ _ hm p R_)
   simp only[AV.aq,af'] at R_;subst R_;simp)
  (by
   intro i' j' ds x0 gT nI;by_cases ei:i'=i
   ·subst ei;simp only at gT;rw[ahj je] at gT;cases gT;by_cases e:j'=j
    ·subst e;rw[ahj kE] at nI;cases nI;obtain⟨v,q1,q2⟩:=k5 i' j' cs _ g0 g2;simp only[RV] at q2;obtain⟨ad,rfl⟩:=q2;refine⟨_,q1,?_⟩;simp only[RV];exact⟨ad,0,rfl,af6 _,akZ,ajL,λ_=> .inl rfl⟩
    rw[ahg (agQ e)] at nI;exact k5 i' j' cs x0 g0 nI
   simp only at gT;rw[ahg (agQ ei)] at gT;exact k5 i' j' ds x0 gT nI)
 have et:w.setRow g cur=w:=setRow_self w g cur e0 (0,0) k1;rw[et] at kH;exact⟨_,kH⟩

def Ew (s:Bs):Tree:= .mk true s [] []
theorem IQ (s:Bs):(Ew s).wt=1+s.length:=by simp[Ew,Tree.wt,fm,bH]
def Bn.value (b:Bn) (n:Nat) (s:Bs):Bn:=match b.nodes[n]? with
 |some x=>if x.text then b.set n {x with s:=s} else(b.set n {x with kids:=[]}).ins n 0 [Ew s]
 |none=>b
def BN (P:Program) (G:Nat->Option (List IV)) (f:Nat):Prop:=∀(b:Bn),b.n0<=b.nodes.length->∀(p pl:Nat),p<b.n0->∀(x:Node),b.nodes[p]?=some x->pl<=x.kids.length ->
 ∀(l:List Tree),b.nodes.length+bH l<=B->x.kids.length+l.length<=B ->
 r_ P G f [.ptr (.par 0) 3 0 0,.int .i64 p,.int .i64 pl,.list (aM l)] (dh b) (b.IP 1 (5+2*p)) λX R2=>X=(λ_=> .bq [])/\R2=dh (b.ins p pl l)
section
variable {P:Program} {G:Nat->Option (List IV)} [KN P G]
def YO (b:Bn) (hn:b.n0<=b.nodes.length) (n:Nat) (hp:n<b.n0) (x:Node) (hx:b.nodes[n]?=some x) (s:Bs) (hb:b.nodes.length+1+s.length<=B)
  (hI:BN P G 156) :
  r_ P G 159 [.ptr (.par 0) 3 0 0,.int .i64 n,.str s] (dh b) (b.IP 1 (5+2*n)) λX R2=>X=(λ_=> .bq [])/\R2=dh (b.value n s):=by
 refine ez (cw 159 [.b 29 .jf]) ajL alG ?_;have dO:b8 Lb.par b (n7 (dh b)):=mb _;have hU:∀q:Lb,(∀p,p<4+2*b.n0->q≠ .par p)->n7 (dh b) q= .unused:=λq hq=>gx _ λp hp e=>hq p (aW.1 hp) e.symm;have hg:n7 (dh b) (.gen 77)= .unused:=hU _ ajL;have hgN:∀l,n7 (dh b) (NC 9 l)= .unused:=λl=>hU _ aj5;have hlen:n<b.nodes.length:=ajK
 have gV:B=1073741824:=rfl;have Sj:=cy (n0:=b.n0) (lab:=Lb.par) (x:=x) hp;have bU:=dO.get hx;rw[Sj] at bU;simp only[↓aX,mX,seval,dO.s,dO.n,hlen,agw,af5,af0,agR,agt,agh,bU];refine j7 (λh=> ?_) (λh=> ?_)
 ·simp only[↓aX,mX,seval,dO.s,dO.n,hlen,agw,af5,af0,agR,agt,agh,bU];rw[B7];refine⟨[],rfl,⟨λ_=> .bq [],dh (b.set n {x with s:=s}),Lb.par⟩,⟨rfl,by unfold Bn.value;rw[hx];simp only[h,agn]⟩,λρ=>by simp[aH,aA],akg,rfl,?_,λ_ _=>rfl⟩;refine b8.acb dO hx ?_ (λq hq=>by rw[an _ _ hq]);rw[ae,agc rfl,cy hp]
 simp only[↓aX,mX,seval,dO.s,dO.n,hlen,agw,af5,af0,agR,agt,agh,bU,ec];refine⟨_,_,oa (q:= .par 1) (N:= .gen 77) (i:=n) (j:=4) (sz:=1) (by rw[ae,agc rfl]) (ahj (by rw[agw];exact hlen)) rfl (by rw[an _ _ ajL];exact hg) ajN,?_⟩;simp only[↓aX,mX,seval];have kH:((b.nodes.mapIdx (b5 b.n0 Lb.par)).set n [.bool x.text,.str x.s,.sl (.par (4+2*n)) 2 0 x.attrs.length,.int .i64 x.parent,.nil0]).set n [.bool x.text,.str x.s,.sl (.par (4+2*n)) 2 0 x.attrs.length,.int .i64 x.parent,.sl (.gen 77) 1 0 0] =
   (b.nodes.mapIdx (b5 b.n0 Lb.par)).set n [.bool x.text,.str x.s,.sl (.par (4+2*n)) 2 0 x.attrs.length,.int .i64 x.parent,.sl (.gen 77) 1 0 0]:=List.set_set ..
 have hB:∀H2:Hp,H2 (.par 1)= .live ⟨5,(b.nodes.mapIdx (b5 b.n0 Lb.par)).set n [.bool x.text,.str x.s,.sl (.par (4+2*n)) 2 0 x.attrs.length,.int .i64 x.parent,.sl (.gen 77) 1 0 0]⟩->H2 (.gen 77)= .live ⟨1,[]⟩ ->
   (∀q,q≠ .par 1->q≠ .gen 77->q≠ .par (5+2*n)->H2 q=n7 (dh b) q)->b8 (λp=>if p=5+2*n then .gen 77 else Lb.par p) (b.set n {x with kids:=[]}) H2:=λH2 e1 e2 e3=>
  b8.TM dO hp hx (.inr ajL) e1 (by rw[e2];rfl) e3
 refine gZ (lab:=λp=>if p=5+2*n then .gen 77 else Lb.par p) (N:=NC 9) (hI (b.set n {x with kids:=[]}) (by simp[Bn.set];exact hn) n 0 hp {x with kids:=[]} (by simp[Bn.set,hlen]) ajL [Ew s] (by simp[Bn.set,bH,IQ];omega) ajY) ?_ ?_ ?_ (q5 9) (λl h=> .inl h) (λp' fE=>aW.2 (jC.1 fE).1) ?_
 ·have:¬0=5+2*n:=by omega
  simp[aA,aH,As,Ew,aM,Tree.iv,aQ,this]
 ·refine hB _ ?_ ?_ ?_
  ·simp[ae]
  ·simp[ae]
  intro q g1 g2 g3;simp[ae,g1,g2]
 ·intro l;simp[ae,NC];exact hgN l
 rintro X R2 cm H2 ⟨rfl,rfl⟩ g1 g2 g3 g4 g5 g6;simp only[↓aX,mX,seval];rw[fF];refine⟨[],rfl,⟨λ_=> .bq [],_,cm⟩,⟨rfl,?_⟩,λρ=>by simp[aH,aA],akg,rfl,g1,?_⟩
 ·have cf:¬(x.text=true):=by rw[h];decide
  unfold Bn.value;rw[hx];show _=dh (if x.text=true then _ else _);rw[af8 cf];rfl
 intro p' fE;have h1:=jC.1 fE;exact(g2 p' (jC.2 h1)).trans (af8 h1.2.2)
end
end Go.Am

set_option maxRecDepth 20000
namespace Go.Am
open Go Go.RowKit
def n6.congr (R:n6) {lab DW:Nat->Lb} (h:∀p,R.ok p->lab p=DW p) (p:Nat):R.row lab p=R.row DW p:=by
 have e1:R.row lab p=(R.row Lb.par p).map (aP (As lab)):=R.nat Lb.par (As lab) p;have e2:R.row DW p=(R.row Lb.par p).map (aP (As DW)):=R.nat Lb.par (As DW) p;rw[e1,e2];cases hr:R.row Lb.par p with
 |none=>rfl
 |some r=>
 simp only[af9,aP,afZ,Row.mk.injEq,agt];refine agX λcs aZ=>iD cs λq hq=> ?_;obtain⟨p',fE,rfl⟩:=R.aq Lb.par p r hr cs aZ q hq;exact h p' fE
def ko.congr {R:n6} {lab DW:Nat->Lb} {H:Hp} (hs:ko lab R H) (h:∀p,R.ok p->lab p=DW p):ko DW R H:=by
 refine⟨λp r hr=> ?_,λp q hp hq e=>hs.inj p q hp hq (by rw[h p hp,h q hq,e])⟩;have hp:R.ok p:=(R.jM DW p).1 (by rw[hr];rfl);rw[<-h p hp];exact hs.row p r (by rw[R.congr h];exact hr)
def Bn.del (b:Bn) (p k:Nat):Bn:=match b.nodes[p]? with
 |some x=>b.set p {x with kids:=x.kids.take k++x.kids.drop (k+1)}
 |none=>b
def Bn.name (b:Bn) (n:Nat) (s:Bs):Bn:=match b.nodes[n]? with
 |some x=>b.set n {x with s:=s}
 |none=>b
def pO (P:Program) (G:Nat->Option (List IV)) (f:Nat):Prop:=∀(b:Bn) (n p:Nat) (x y:Node),b.nodes[n]?=some x->x.parent=p->b.nodes[p]?=some y->p<b.n0->y.kids.length<=B ->
 r_ P G f [.ptr (.par 0) 3 0 0,.int .i64 n] (dh b) b.all λX R2=>X=(λ_=> .bq [.int .i64 p,.int .i64 (mc y.kids n)])/\R2=dh b
def DX (P:Program) (G:Nat->Option (List IV)) (f:Nat):Prop:=∀(b:Bn),b.n0<=b.nodes.length->∀(n:Nat),n<b.n0->∀(x:Node),b.nodes[n]?=some x->∀(s:Bs),b.nodes.length+1+s.length<=B ->
 r_ P G f [.ptr (.par 0) 3 0 0,.int .i64 n,.str s] (dh b) (b.IP 1 (5+2*n)) λX R2=>X=(λ_=> .bq [])/\R2=dh (b.value n s)
def Gs (P:Program) (G:Nat->Option (List IV)) (f:Nat):Prop:=∀(b:Bn) (n:Nat),n<b.n0->∀(x:Node),b.nodes[n]?=some x->∀(o:Op),o.target=n->(o.kind=9\/o.kind=10)->x.attrs.length+1<=B->gA x.attrs=true ->
 r_ P G f [.ptr (.par 0) 3 0 0,o.av] (dh b) (b.NY (4+2*n)) λX R2=>X=(λ_=> .bq [])/\R2=dh (b.attr n o)
def yZ (xs:List Int) (i:Nat):(ak (xs.map aC))[i]?=(xs[i]?).map λn=>[.int .i64 n]:=by
 grind [ak,aC,IV.cells,IV.dw]
def Gt (xs:List Int) (i:Nat) (n:Int):(ak (xs.map aC)).set i [.int .i64 n]=ak ((xs.set i n).map aC):=by
 simp[ak,aC,IV.cells,IV.dw]
theorem pP (b:Bn) (p pl:Nat) (l:List Tree):(b.ins p pl l).fs=b.fs:=amg
theorem pQ (b:Bn) (p pl:Nat) (l:List Tree):(b.ins p pl l).az=b.az:=amg
def YP (b:Bn) (p pl:Nat) (l:List Tree):(b.ins p pl l).n0=b.n0:=amg
def nq (b:Bn) (p k:Nat):(b.del p k).n0=b.n0:=by unfold Bn.del;split<;>rfl
section
variable {S:St} {b:Bn} {lab:Nat->Lb} {H:Hp} {k:AV->Hp->Prop} {u:Tw k}
def mR {f:Nat} {L0:Lb} (hI:BN S.P S.G f) (hB:b8 lab b H) (h0:lab 0=L0) (hn:b.n0<=b.nodes.length) {p pl:Nat} (hp:p<b.n0) {x:Node} (hx:b.nodes[p]?=some x) (HD:pl<=x.kids.length)
  {l:List Tree} (hb:b.nodes.length+bH l<=B) (Mc:x.kids.length+l.length<=B) (c:Nat) (hN:∀l,H (NC c l)= .unused)
  (hk:∀cm H2,b8 cm (b.ins p pl l) H2->(∀p',p'<4+2*b.n0->p'≠1->p'≠5+2*p->cm p'=lab p') ->
   (∀q,(∀p',p'<4+2*b.n0->q≠lab p')->(∀l,q≠NC c l)->H2 q=H q)->(∀p',p'<4+2*b.n0->(∃p0,p0<4+2*b.n0/\cm p'=lab p0)\/∃l,cm p'=NC c l)->k (.bq []) H2) :
  Hm S f [.ptr L0 3 0 0,.int .i64 p,.int .i64 pl,.list (aM l)] H k u:=by
 subst h0;refine gZ (lab:=lab) (N:=NC c) (hI b hn p pl hp x hx HD l hb Mc) anW hB hN (q5 c) (λl h=> .inl h) (λp' fE=>aW.2 (jC.1 fE).1) ?_;rintro X R2 cm H2 ⟨rfl,rfl⟩ g1 g2 g3 g4 g5 g6;refine hk cm H2 g1 (λp' h1 h2 h3=>g2 p' (jC.2 ⟨h1,h2,h3⟩)) (λq h1 h2=>g4 q (λp' fE=>h1 p' (aW.1 fE)) h2) λp' fE=> ?_;simp_all[aW,YP]
def lQ {f:Nat} (hI:pO S.P S.G f) (hB:b8 lab b H) {n p:Nat} {x y:Node} (hx:b.nodes[n]?=some x) (QH:x.parent=p) (hy:b.nodes[p]?=some y) (hp:p<b.n0) (Bx:y.kids.length<=B) (c:Nat) (hN:∀l,H (NC c l)= .unused)
  (hk:∀H2,b8 lab b H2->(∀q,(∀p',p'<4+2*b.n0->q≠lab p')->(∀l,q≠NC c l)->H2 q=H q)->k (.bq [.int .i64 p,.int .i64 (mc y.kids n)]) H2) :
  Hm S f [.ptr (lab 0) 3 0 0,.int .i64 n] H k u:=by
 refine gZ (lab:=lab) (N:=NC c) (hI b n p x y hx QH hy hp Bx) anW hB hN (q5 c) (λl h=> .inl h) (λp' fE=>aW.2 (ahZ.1 fE)) ?_;rintro X R2 cm H2 ⟨rfl,rfl⟩ g1 g2 g3 g4 g5 g6;exact hk H2 (g1.congr λp' fE=>g2 p' (ahZ.2 (aW.1 fE))) λq h1 h2=>g4 q (λp' fE=>h1 p' (aW.1 fE)) h2
end
def nr {b:Bn} {n:Nat} {x:Node} (hx:b.nodes[n]?=some x):b8 Lb.par b (n7 (dh b))/\(∀q:Lb,(∀p,p<4+2*b.n0->q≠ .par p)->n7 (dh b) q= .unused)/\n7 (dh b) (.loc 3)= .unused/\(∀c l,n7 (dh b) (NC c l)= .unused)/\n<b.nodes.length /\
  ∀cs,b8 Lb.par b (aS (n7 (dh b)) (.loc 3) cs):=by
 have dO:b8 Lb.par b (n7 (dh b)):=mb _;have hU:∀q:Lb,(∀p,p<4+2*b.n0->q≠ .par p)->n7 (dh b) q= .unused:=λq hq=>gx _ λp hp e=>hq p (aW.1 hp) e.symm;exact⟨dO,hU,hU _ ajL,λc l=>hU _ aj5,(afY.1 hx).1,λcs=>dO.tp ajL⟩
def ra:List Ed:=[.f 19 10 (.rw [.loc 3] []),.f 31 8 (.rw [.loc 3] []),.f 45 12 (.rw [.loc 3] []),.f 81 13 (.rw [.loc 3] []),.f 96 8 (.rw [.loc 3] []),.f 179 6 (.rw [.loc 3] []),.f 30 5 (.rw [(.par 0)] []),.f 30 8 (.rw [(.par 2)] []),.f 30 11 .all,.f 41 3 (.rw [(.par 0)] []),.f 41 6 (.rw [(.par 2)] []),.f 41 12 (.rw [] [(.par 2)]),.f 58 5 (.rw [(.par 0)] []),.f 58 9 (.rw [(.par 1)] []),.f 58 13 .all,.f 95 7 (.rw [(.par 0)] []),.f 95 10 (.rw [(.par 3)] []),.f 95 14 .all,.f 106 3 (.rw [(.par 0)] []),.f 106 6 (.rw [(.par 3)] []),.f 106 12 (.rw [] [(.par 3)]),.f 134 3 (.rw [(.par 0)] []),.f 134 8 (.rw [(.par 0)] []),.f 134 12 (.rw [(.par 1)] []),.f 134 16 (.v7 [(.par 0)]),.f 134 19 (.rw [] [(.par 1)]),.f 161 3 (.rw [(.par 0)] []),.f 161 8 (.rw [(.par 0)] []),.f 161 12 (.rw [(.par 1)] []),.f 161 16 (.v7 [(.par 0)]),.f 161 19 (.rw [] [(.par 1)]),.f 185 3 (.rw [(.par 0)] []),.f 185 9 (.rw [] [(.par 1)])]
section
variable {P:Program} {G:Nat->Option (List IV)} [KN P G]
def aez (b:Bn) (hn:b.n0<=b.nodes.length) (n:Nat) (hp:n<b.n0) (x:Node) (hx:b.nodes[n]?=some x)
  (co:List Tree) (na st:Bs) (f:Nat) (hf:b.fs[n]?=some (f:Int)) (hfk:f<=x.kids.length) (hb:b.nodes.length+bH co<=B) (Mc:x.kids.length+co.length<=B) (hI:BN P G 156) :
  r_ P G 114 [.ptr (.par 0) 3 0 0,(⟨1,n,co,na,st⟩:Op).av] (dh b) [0,2,3] λX R2=>X=(λ_=> .bq [])/\R2=dh ({b.ins n f co with fs:=b.fs.set n ((f+co.length:Nat):Int)}):=by
 refine ez (cw 114 ra) ajL aj_ ?_;obtain⟨dO,hU,h3,hN,hlen,BO⟩:=nr (b:=b) hx;have gV:B=1073741824:=rfl;have bU:=dO.get hx;rw[cy (n0:=b.n0) (lab:=Lb.par) (x:=x) hp] at bU;simp only[↓aX,mX,seval,Op.av,h3,Int.reduceBEq];have ux:n<b.fs.length:=(afY.1 hf).1;simp only[↓aX,mX,seval,Op.av,h3,dO.s,dO.n,dO.f,dO.a,hlen,agw,af5,af0,agR,agt,agh,bU,ar,eD,yZ,hf,ux,af9];refine⟨rfl,?_⟩;refine mR hI (BO _) rfl hn hp hx hfk hb Mc 9 (λl=>by rw[an _ _ aj5];exact hN 9 l) ?_;intro cm H2 g1 g2 g4 g5;have xG:=g4 (.loc 3) ajL aj5;rw[ae,agc rfl] at xG;have e0:cm 0= .par 0:=g2 0 ajK ajK ajK;have e2:cm 2= .par 2:=g2 2 ajK ajK ajK;have e3:cm 3= .par 3:=g2 3 ajK ajK ajK;have pN:=g1.s;have R8:=g1.f;rw[e0,e2,e3] at pN;rw[e2] at R8;rw[pP,pQ] at pN;rw[pP] at R8;have hw:IntKind.i64.wrap ((f:Int)+(co.length:Int))=((f+co.length:Nat):Int):=wrap64 ajK ajK;simp only[↓aX,mX,seval,xG,pN,R8,af5,af0,agR,agt,agh,eD,yZ,hf,ux,af9,ar,hw];refine⟨rfl,?_⟩;rw[fF];refine⟨[],rfl,⟨λ_=> .bq [],_,cm⟩,⟨rfl,rfl⟩,λρ=>by simp[aH,aA],akg,rfl,?_,?_⟩
 ·have:=g1.aem (fs:=b.fs.set n ((f+co.length:Nat):Int)) (H2:=aS H2 (.par 2) (.live ⟨1,(ak (b.fs.map aC)).set n [.int .i64 ((f+co.length:Nat):Int)]⟩)) (by rw[aiU,pP]) (by rw[e2,ae,agc rfl,Gt]) (λq hq=>by rw[e2] at hq;rw[an _ _ hq]);exact this
 rintro p' (rfl|rfl|rfl)
 ·exact e0
 ·exact e2
 exact e3
def aeA (b:Bn) (hn:b.n0<=b.nodes.length) (n:Nat) (hp:n<b.n0) (x:Node) (hx:b.nodes[n]?=some x)
  (co:List Tree) (na st:Bs) (hb:b.nodes.length+bH co<=B) (Mc:x.kids.length+co.length<=B) (hI:BN P G 156) :
  r_ P G 114 [.ptr (.par 0) 3 0 0,(⟨2,n,co,na,st⟩:Op).av] (dh b) [0,2,3] λX R2=>X=(λ_=> .bq [])/\R2=dh (b.ins n x.kids.length co):=by
 refine ez (cw 114 ra) ajL aj_ ?_;obtain⟨dO,hU,h3,hN,hlen,BO⟩:=nr (b:=b) hx;have gV:B=1073741824:=rfl;have bU:=dO.get hx;rw[cy (n0:=b.n0) (lab:=Lb.par) (x:=x) hp] at bU;simp only[↓aX,mX,seval,Op.av,h3,Int.reduceBEq]
 try simp only[↓aX,mX,seval,Op.av,h3,dO.s,dO.n,dO.f,dO.a,hlen,agw,af5,af0,agR,agt,agh,bU,ar]
 refine⟨rfl,?_⟩;refine mR hI (BO _) rfl hn hp hx (af6 _) hb Mc 9 (λl=>by rw[an _ _ aj5];exact hN 9 l) ?_;intro cm H2 g1 g2 g4 g5;simp only[↓aX,mX,seval];rw[fF];refine⟨[],rfl,⟨λ_=> .bq [],_,cm⟩,⟨rfl,rfl⟩,λρ=>by simp[aH,aA],akg,rfl,g1,?_⟩;rintro p' (rfl|rfl|rfl)
 ·exact g2 0 ajK ajK ajK
 ·exact g2 2 ajK ajK ajK
 exact g2 3 ajK ajK ajK
def aeB (b:Bn) (hn:b.n0<=b.nodes.length) (n:Nat) (hp:n<b.n0) (x:Node) (hx:b.nodes[n]?=some x)
  (co:List Tree) (na st:Bs) (p:Nat) (QH:x.parent=p) (qT:p<b.n0) (y:Node) (hy:b.nodes[p]?=some y) (QI:y.kids.length<=B) (Gu:pO P G 157) (k:Nat) (hk:mc y.kids n=(k:Int)) (xx:k<=y.kids.length) (hb:b.nodes.length+bH co<=B) (Bx:y.kids.length+co.length<=B) (hI:BN P G 156) :
  r_ P G 114 [.ptr (.par 0) 3 0 0,(⟨3,n,co,na,st⟩:Op).av] (dh b) [0,2,3] λX R2=>X=(λ_=> .bq [])/\R2=dh (b.ins p k co):=by
 refine ez (cw 114 ra) ajL aj_ ?_;obtain⟨dO,hU,h3,hN,hlen,BO⟩:=nr (b:=b) hx;have gV:B=1073741824:=rfl;have bU:=dO.get hx;rw[cy (n0:=b.n0) (lab:=Lb.par) (x:=x) hp] at bU;simp only[↓aX,mX,seval,Op.av,h3,Int.reduceBEq]
 try simp only[↓aX,mX,seval,Op.av,h3,dO.s,dO.n,dO.f,dO.a,hlen,agw,af5,af0,agR,agt,agh,bU,ar]
 refine lQ (lab:=Lb.par) Gu (BO _) hx QH hy qT QI 9 (λl=>by rw[an _ _ aj5];exact hN 9 l) ?_;intro H2 s4 pN;have xG:=pN (.loc 3) ajL aj5;rw[ae,agc rfl] at xG;have VR:∀c l,c≠9->H2 (NC c l)= .unused:=λc l hc=>by
  rw[pN _ aj5 akz,an _ _ aj5];exact hN c l
 have hg2:∀q,H2 (.gen q)= .unused:=λq=>by
  rw[pN _ ajL aj5,an _ _ ajL];exact hU _ ajL
 rw[hk];simp only[↓aX,mX,seval,xG];refine mR hI s4 rfl hn qT hy xx hb Bx 10 (λl=>VR 10 l ajN) ?_;intro cm H3 g1 g2 g4 g5;simp only[↓aX,mX,seval];rw[fF];refine⟨[],rfl,⟨λ_=> .bq [],_,cm⟩,⟨rfl,rfl⟩,λρ=>by simp[aH,aA],akg,rfl,g1,?_⟩;rintro p' (rfl|rfl|rfl)
 ·exact g2 0 ajK ajK ajK
 ·exact g2 2 ajK ajK ajK
 exact g2 3 ajK ajK ajK
def aeC (b:Bn) (hn:b.n0<=b.nodes.length) (n:Nat) (hp:n<b.n0) (x:Node) (hx:b.nodes[n]?=some x)
  (co:List Tree) (na st:Bs) (p:Nat) (QH:x.parent=p) (qT:p<b.n0) (y:Node) (hy:b.nodes[p]?=some y) (QI:y.kids.length<=B) (Gu:pO P G 157) (k:Nat) (hk:mc y.kids n=(k:Int)) (f:Nat) (hf:b.az[n]?=some (f:Int)) (xx:k+1+f<=y.kids.length) (hb:b.nodes.length+bH co<=B) (Bx:y.kids.length+co.length<=B) (hI:BN P G 156) :
  r_ P G 114 [.ptr (.par 0) 3 0 0,(⟨4,n,co,na,st⟩:Op).av] (dh b) [0,2,3] λX R2=>X=(λ_=> .bq [])/\R2=dh ({b.ins p (k+1+f) co with az:=b.az.set n ((f+co.length:Nat):Int)}):=by
 refine ez (cw 114 ra) ajL aj_ ?_;obtain⟨dO,hU,h3,hN,hlen,BO⟩:=nr (b:=b) hx;have gV:B=1073741824:=rfl;have bU:=dO.get hx;rw[cy (n0:=b.n0) (lab:=Lb.par) (x:=x) hp] at bU;simp only[↓aX,mX,seval,Op.av,h3,Int.reduceBEq]
 try simp only[↓aX,mX,seval,Op.av,h3,dO.s,dO.n,dO.f,dO.a,hlen,agw,af5,af0,agR,agt,agh,bU,ar]
 refine lQ (lab:=Lb.par) Gu (BO _) hx QH hy qT QI 9 (λl=>by rw[an _ _ aj5];exact hN 9 l) ?_;intro H2 s4 pN;have xG:=pN (.loc 3) ajL aj5;rw[ae,agc rfl] at xG;have VR:∀c l,c≠9->H2 (NC c l)= .unused:=λc l hc=>by
  rw[pN _ aj5 akz,an _ _ aj5];exact hN c l
 have hg2:∀q,H2 (.gen q)= .unused:=λq=>by
  rw[pN _ ajL aj5,an _ _ ajL];exact hU _ ajL
 rw[hk];have ux:n<b.az.length:=(afY.1 hf).1;have gz:=w1 k;have ml:IntKind.i64.wrap (((k+1:Nat):Int)+(f:Int))=((k+1+f:Nat):Int):=wrap64 ajK ajK;simp only[↓aX,mX,seval,xG,s4.s,s4.a,af5,af0,agR,agt,agh,eD,yZ,hf,ux,af9,ar,gz,ml];refine⟨rfl,?_⟩;refine mR hI s4 rfl hn qT hy xx hb Bx 10 (λl=>VR 10 l ajN) ?_;intro cm H3 g1 g2 g4 g5;have h33:=g4 (.loc 3) ajL aj5;rw[xG] at h33;have e0:cm 0= .par 0:=g2 0 ajK ajK ajK;have e2:cm 2= .par 2:=g2 2 ajK ajK ajK;have e3:cm 3= .par 3:=g2 3 ajK ajK ajK;have pN:=g1.s;have R8:=g1.a;rw[e0,e2,e3] at pN;rw[e3] at R8;rw[pP,pQ] at pN;rw[pQ] at R8;have hw:IntKind.i64.wrap ((f:Int)+(co.length:Int))=((f+co.length:Nat):Int):=wrap64 ajK ajK;simp only[↓aX,mX,seval,h33,pN,R8,af5,af0,agR,agt,agh,eD,yZ,hf,ux,af9,ar,hw];refine⟨rfl,?_⟩;have:=g1.ace (az:=b.az.set n ((f+co.length:Nat):Int)) (H2:=aS H3 (.par 3) (.live ⟨1,(ak (b.az.map aC)).set n [.int .i64 ((f+co.length:Nat):Int)]⟩)) (by rw[aiU,pQ]) (by rw[e3,ae,agc rfl,Gt]) (λq hq=>by rw[e3] at hq;rw[an _ _ hq]);rw[fF];refine⟨[],rfl,⟨λ_=> .bq [],_,cm⟩,⟨rfl,rfl⟩,λρ=>by simp[aH,aA],akg,rfl,this,?_⟩;rintro p' (rfl|rfl|rfl)
 ·exact e0
 ·exact e2
 exact e3
def aeD (b:Bn) (hn:b.n0<=b.nodes.length) (n:Nat) (hp:n<b.n0) (x:Node) (hx:b.nodes[n]?=some x)
  (co:List Tree) (na st:Bs) (p:Nat) (QH:x.parent=p) (qT:p<b.n0) (y:Node) (hy:b.nodes[p]?=some y) (QI:y.kids.length<=B) (Gu:pO P G 157) (k:Nat) (hk:mc y.kids n=(k:Int)) (xx:k<y.kids.length) (hD:QA P G 158) :
  r_ P G 114 [.ptr (.par 0) 3 0 0,(⟨5,n,co,na,st⟩:Op).av] (dh b) [0,2,3] λX R2=>X=(λ_=> .bq [])/\R2=dh (b.del p k):=by
 refine ez (cw 114 ra) ajL aj_ ?_;obtain⟨dO,hU,h3,hN,hlen,BO⟩:=nr (b:=b) hx;have gV:B=1073741824:=rfl;have bU:=dO.get hx;rw[cy (n0:=b.n0) (lab:=Lb.par) (x:=x) hp] at bU;simp only[↓aX,mX,seval,Op.av,h3,Int.reduceBEq]
 try simp only[↓aX,mX,seval,Op.av,h3,dO.s,dO.n,dO.f,dO.a,hlen,agw,af5,af0,agR,agt,agh,bU,ar]
 refine lQ (lab:=Lb.par) Gu (BO _) hx QH hy qT QI 9 (λl=>by rw[an _ _ aj5];exact hN 9 l) ?_;intro H2 s4 pN;have xG:=pN (.loc 3) ajL aj5;rw[ae,agc rfl] at xG;have VR:∀c l,c≠9->H2 (NC c l)= .unused:=λc l hc=>by
  rw[pN _ aj5 akz,an _ _ aj5];exact hN c l
 have hg2:∀q,H2 (.gen q)= .unused:=λq=>by
  rw[pN _ ajL aj5,an _ _ ajL];exact hU _ ajL
 rw[hk];have sS:p<b.nodes.length:=(afY.1 hy).1;have vG:=s4.get hy;rw[cy qT] at vG;have QJ:=s4.kd qT hy;have gz:=w1 k;have QK:b.del p k=b.set p {y with kids:=y.kids.take k++y.kids.drop (k+1)}:=by unfold Bn.del;rw[hy]
 have YQ:¬(1:Nat)=5+2*p:=ajK
 have key:∀(N:Lb),(N= .par (5+2*p)\/N= .gen 134)->∀H3:Hp,H3 (.par 1)= .live ⟨5,(b.nodes.mapIdx (b5 b.n0 Lb.par)).set p [.bool y.text,.str y.s,.sl (.par (4+2*p)) 2 0 y.attrs.length,.int .i64 y.parent,.sl N 1 0 (y.kids.take k++y.kids.drop (k+1)).length]⟩ ->
   H3 N= .live ⟨1,ak ((y.kids.take k++y.kids.drop (k+1)).map aC)⟩->(∀q,q≠ .par 1->q≠N->q≠ .par (5+2*p)->H3 q=H2 q)->b8 (λp'=>if p'=5+2*p then N else Lb.par p') (b.del p k) H3:=by
  intro N hN H3 e1 e2 e3;rw[QK];refine b8.TM s4 qT hy ?_ e1 e2 e3;rcases hN with rfl|rfl
  ·exact .inl rfl
  exact .inr ajL
 simp only[↓aX,mX,seval,xG,s4.s,s4.n,sS,agw,af5,af0,agR,agt,agh,vG,gz,eD,YQ,ah1,ag3];refine⟨rfl,?_⟩;refine vB (l:= .par (5+2*p)) (N:= .gen 134) (hD y.kids k xx QI) rfl QJ (hg2 _) ak7 alg alg ?_ ?_
 ·simp only[↓aX,mX,seval,xG,s4.s,s4.n,sS,agw,af5,af0,agR,agt,agh,vG,gz,eD,YQ];have YR:=key (.gen 134) (.inr rfl) (aS (aS (aS H2 (.par (5+2*p)) .dead) (.gen 134) (.live ⟨1,ak ((y.kids.take k++y.kids.drop (k+1)).map aC)⟩)) (.par 1) (.live ⟨5,(b.nodes.mapIdx (b5 b.n0 Lb.par)).set p [.bool y.text,.str y.s,.sl (.par (4+2*p)) 2 0 y.attrs.length,.int .i64 y.parent,.sl (.gen 134) 1 0 (y.kids.take k++y.kids.drop (k+1)).length]⟩)) ajR ajR ak3;rw[fF];refine⟨[],rfl,⟨λ_=> .bq [],_,λp'=>if p'=5+2*p then Lb.gen 134 else Lb.par p'⟩,⟨rfl,rfl⟩,λρ=>by simp[aH,aA],akg,rfl,YR,?_⟩;rintro p' (rfl|rfl|rfl)
  ·exact af8 ajK
  ·exact af8 ajK
  exact af8 ajK
 simp only[↓aX,mX,seval,xG,s4.s,s4.n,sS,agw,af5,af0,agR,agt,agh,vG,gz,eD,YQ];have YR:=key (.par (5+2*p)) (.inl rfl) (aS (aS (aS H2 (.par (5+2*p)) .dead) (.par (5+2*p)) (.live ⟨1,ak ((y.kids.take k++y.kids.drop (k+1)).map aC)⟩)) (.par 1) (.live ⟨5,(b.nodes.mapIdx (b5 b.n0 Lb.par)).set p [.bool y.text,.str y.s,.sl (.par (4+2*p)) 2 0 y.attrs.length,.int .i64 y.parent,.sl (.par (5+2*p)) 1 0 (y.kids.take k++y.kids.drop (k+1)).length]⟩)) ajR (by simp[ae];omega) ak3;rw[fF];refine⟨[],rfl,⟨λ_=> .bq [],_,λp'=>if p'=5+2*p then(.par (5+2*p)) else Lb.par p'⟩,⟨rfl,rfl⟩,λρ=>by simp[aH,aA],akg,rfl,YR,?_⟩;rintro p' (rfl|rfl|rfl)
 ·exact af8 ajK
 ·exact af8 ajK
 exact af8 ajK
def acw (b:Bn) (hn:b.n0<=b.nodes.length) (n:Nat) (hp:n<b.n0) (x:Node) (hx:b.nodes[n]?=some x)
  (co:List Tree) (na st:Bs) (p:Nat) (QH:x.parent=p) (qT:p<b.n0) (y:Node) (hy:b.nodes[p]?=some y) (QI:y.kids.length<=B) (Gu:pO P G 157) (hk:mc y.kids n= -1) :
  r_ P G 114 [.ptr (.par 0) 3 0 0,(⟨5,n,co,na,st⟩:Op).av] (dh b) [0,2,3] λX R2=>X=(λ_=> .bq [])/\R2=dh (b):=by
 refine ez (cw 114 ra) ajL aj_ ?_;obtain⟨dO,hU,h3,hN,hlen,BO⟩:=nr (b:=b) hx;have gV:B=1073741824:=rfl;have bU:=dO.get hx;rw[cy (n0:=b.n0) (lab:=Lb.par) (x:=x) hp] at bU;simp only[↓aX,mX,seval,Op.av,h3,Int.reduceBEq]
 try simp only[↓aX,mX,seval,Op.av,h3,dO.s,dO.n,dO.f,dO.a,hlen,agw,af5,af0,agR,agt,agh,bU,ar]
 refine lQ (lab:=Lb.par) Gu (BO _) hx QH hy qT QI 9 (λl=>by rw[an _ _ aj5];exact hN 9 l) ?_;intro H2 s4 pN;have xG:=pN (.loc 3) ajL aj5;rw[ae,agc rfl] at xG;have VR:∀c l,c≠9->H2 (NC c l)= .unused:=λc l hc=>by
  rw[pN _ aj5 akz,an _ _ aj5];exact hN c l
 have hg2:∀q,H2 (.gen q)= .unused:=λq=>by
  rw[pN _ ajL aj5,an _ _ ajL];exact hU _ ajL
 rw[hk];simp only[↓aX,mX,seval,xG,ah1,show decide ((0:Int)<= -1)=false by decide,ag4];rw[fF];refine⟨[],rfl,⟨λ_=> .bq [],_,Lb.par⟩,⟨rfl,rfl⟩,λρ=>by simp[aH,aA],akg,rfl,s4,?_⟩;rintro p' (rfl|rfl|rfl)
 ·exact rfl
 ·exact rfl
 exact rfl
def aeE (b:Bn) (hn:b.n0<=b.nodes.length) (n:Nat) (hp:n<b.n0) (x:Node) (hx:b.nodes[n]?=some x)
  (co:List Tree) (na st:Bs) (p:Nat) (QH:x.parent=p) (qT:p<b.n0) (y:Node) (hy:b.nodes[p]?=some y) (QI:y.kids.length<=B) (Gu:pO P G 157) (k:Nat) (hk:mc y.kids n=(k:Int)) (xx:k<y.kids.length) (hD:QA P G 158) (hb:b.nodes.length+bH co<=B) (Bx:y.kids.length+co.length<=B) (hI:BN P G 156) :
  r_ P G 114 [.ptr (.par 0) 3 0 0,(⟨6,n,co,na,st⟩:Op).av] (dh b) [0,2,3] λX R2=>X=(λ_=> .bq [])/\R2=dh ((b.del p k).ins p k co):=by
 refine ez (cw 114 ra) ajL aj_ ?_;obtain⟨dO,hU,h3,hN,hlen,BO⟩:=nr (b:=b) hx;have gV:B=1073741824:=rfl;have bU:=dO.get hx;rw[cy (n0:=b.n0) (lab:=Lb.par) (x:=x) hp] at bU;simp only[↓aX,mX,seval,Op.av,h3,Int.reduceBEq]
 try simp only[↓aX,mX,seval,Op.av,h3,dO.s,dO.n,dO.f,dO.a,hlen,agw,af5,af0,agR,agt,agh,bU,ar]
 refine lQ (lab:=Lb.par) Gu (BO _) hx QH hy qT QI 9 (λl=>by rw[an _ _ aj5];exact hN 9 l) ?_;intro H2 s4 pN;have xG:=pN (.loc 3) ajL aj5;rw[ae,agc rfl] at xG;have VR:∀c l,c≠9->H2 (NC c l)= .unused:=λc l hc=>by
  rw[pN _ aj5 akz,an _ _ aj5];exact hN c l
 have hg2:∀q,H2 (.gen q)= .unused:=λq=>by
  rw[pN _ ajL aj5,an _ _ ajL];exact hU _ ajL
 rw[hk];have sS:p<b.nodes.length:=(afY.1 hy).1;have vG:=s4.get hy;rw[cy qT] at vG;have QJ:=s4.kd qT hy;have gz:=w1 k;have QK:b.del p k=b.set p {y with kids:=y.kids.take k++y.kids.drop (k+1)}:=by unfold Bn.del;rw[hy]
 have YQ:¬(1:Nat)=5+2*p:=ajK
 have key:∀(N:Lb),(N= .par (5+2*p)\/N= .gen 161)->∀H3:Hp,H3 (.par 1)= .live ⟨5,(b.nodes.mapIdx (b5 b.n0 Lb.par)).set p [.bool y.text,.str y.s,.sl (.par (4+2*p)) 2 0 y.attrs.length,.int .i64 y.parent,.sl N 1 0 (y.kids.take k++y.kids.drop (k+1)).length]⟩ ->
   H3 N= .live ⟨1,ak ((y.kids.take k++y.kids.drop (k+1)).map aC)⟩->(∀q,q≠ .par 1->q≠N->q≠ .par (5+2*p)->H3 q=H2 q)->b8 (λp'=>if p'=5+2*p then N else Lb.par p') (b.del p k) H3:=by
  intro N hN H3 e1 e2 e3;rw[QK];refine b8.TM s4 qT hy ?_ e1 e2 e3;rcases hN with rfl|rfl
  ·exact .inl rfl
  exact .inr ajL
 have Sk:(b.del p k).nodes.length=b.nodes.length:=by rw[QK];simp[Bn.set]
 have hdy:(b.del p k).nodes[p]?=some {y with kids:=y.kids.take k++y.kids.drop (k+1)}:=by rw[QK];simp[Bn.set,sS]
 simp only[↓aX,mX,seval,xG,s4.s,s4.n,sS,agw,af5,af0,agR,agt,agh,vG,gz,eD,YQ,ah1,ag3];refine⟨rfl,?_⟩;refine vB (l:= .par (5+2*p)) (N:= .gen 161) (hD y.kids k xx QI) rfl QJ (hg2 _) ak7 alg alg ?_ ?_
 ·simp only[↓aX,mX,seval,xG,s4.s,s4.n,sS,agw,af5,af0,agR,agt,agh,vG,gz,eD,YQ];have YR:=key (.gen 161) (.inr rfl) (aS (aS (aS H2 (.par (5+2*p)) .dead) (.gen 161) (.live ⟨1,ak ((y.kids.take k++y.kids.drop (k+1)).map aC)⟩)) (.par 1) (.live ⟨5,(b.nodes.mapIdx (b5 b.n0 Lb.par)).set p [.bool y.text,.str y.s,.sl (.par (4+2*p)) 2 0 y.attrs.length,.int .i64 y.parent,.sl (.gen 161) 1 0 (y.kids.take k++y.kids.drop (k+1)).length]⟩)) ajR ajR ak3;refine mR hI YR (af8 ajK) (by rw[Sk,nq];exact hn) (by rw[nq];exact qT) hdy ajY (by rw[Sk];exact hb) ajY 10 (λl=>by simp[ae,NC];exact VR 10 l ajN) ?_;intro cm H3 g1 g2 g4 g5;simp only[↓aX,mX,seval];have e0:cm 0= .par 0:=(g2 0 alQ ajK ajK).trans (af8 ajK);have e2:cm 2= .par 2:=(g2 2 alQ ajK ajK).trans (af8 ajK);have e3:cm 3= .par 3:=(g2 3 alQ ajK ajK).trans (af8 ajK);rw[fF];refine⟨[],rfl,⟨λ_=> .bq [],_,cm⟩,⟨rfl,rfl⟩,λρ=>by simp[aH,aA],akg,rfl,g1,?_⟩;rintro p' (rfl|rfl|rfl)
  ·exact e0
  ·exact e2
  exact e3
 simp only[↓aX,mX,seval,xG,s4.s,s4.n,sS,agw,af5,af0,agR,agt,agh,vG,gz,eD,YQ];have YR:=key (.par (5+2*p)) (.inl rfl) (aS (aS (aS H2 (.par (5+2*p)) .dead) (.par (5+2*p)) (.live ⟨1,ak ((y.kids.take k++y.kids.drop (k+1)).map aC)⟩)) (.par 1) (.live ⟨5,(b.nodes.mapIdx (b5 b.n0 Lb.par)).set p [.bool y.text,.str y.s,.sl (.par (4+2*p)) 2 0 y.attrs.length,.int .i64 y.parent,.sl (.par (5+2*p)) 1 0 (y.kids.take k++y.kids.drop (k+1)).length]⟩)) ajR (by simp[ae];omega) ak3;refine mR hI YR (af8 ajK) (by rw[Sk,nq];exact hn) (by rw[nq];exact qT) hdy ajY (by rw[Sk];exact hb) ajY 10 (λl=>by simp[ae,NC];exact VR 10 l ajN) ?_;intro cm H3 g1 g2 g4 g5;simp only[↓aX,mX,seval];have e0:cm 0= .par 0:=(g2 0 alQ ajK ajK).trans (af8 ajK);have e2:cm 2= .par 2:=(g2 2 alQ ajK ajK).trans (af8 ajK);have e3:cm 3= .par 3:=(g2 3 alQ ajK ajK).trans (af8 ajK);rw[fF];refine⟨[],rfl,⟨λ_=> .bq [],_,cm⟩,⟨rfl,rfl⟩,λρ=>by simp[aH,aA],akg,rfl,g1,?_⟩;rintro p' (rfl|rfl|rfl)
 ·exact e0
 ·exact e2
 exact e3
def aeF (b:Bn) (hn:b.n0<=b.nodes.length) (n:Nat) (hp:n<b.n0) (x:Node) (hx:b.nodes[n]?=some x)
  (co:List Tree) (na st:Bs) (hb:b.nodes.length+1+st.length<=B) (hV:DX P G 159) :
  r_ P G 114 [.ptr (.par 0) 3 0 0,(⟨7,n,co,na,st⟩:Op).av] (dh b) [0,2,3] λX R2=>X=(λ_=> .bq [])/\R2=dh (b.value n st):=by
 refine ez (cw 114 ra) ajL aj_ ?_;obtain⟨dO,hU,h3,hN,hlen,BO⟩:=nr (b:=b) hx;have gV:B=1073741824:=rfl;have bU:=dO.get hx;rw[cy (n0:=b.n0) (lab:=Lb.par) (x:=x) hp] at bU;simp only[↓aX,mX,seval,Op.av,h3,Int.reduceBEq]
 try simp only[↓aX,mX,seval,Op.av,h3,dO.s,dO.n,dO.f,dO.a,hlen,agw,af5,af0,agR,agt,agh,bU,ar]
 refine gZ (lab:=Lb.par) (N:=NC 9) (hV b hn n hp x hx st hb) anW (BO _) (λl=>by rw[an _ _ aj5];exact hN 9 l) (q5 9) (λl h=> .inl h) (λp' fE=>aW.2 (jC.1 fE).1) ?_;rintro X R2 cm H2 ⟨rfl,rfl⟩ g1 g2 g3 g4 g5 g6;simp only[↓aX,mX,seval];rw[fF];refine⟨[],rfl,⟨λ_=> .bq [],_,cm⟩,⟨rfl,rfl⟩,λρ=>by simp[aH,aA],akg,rfl,g1,?_⟩;rintro p' (rfl|rfl|rfl)
 ·exact g2 0 (jC.2 ⟨ajK,ajK,ajK⟩)
 ·exact g2 2 (jC.2 ⟨ajK,ajK,ajK⟩)
 exact g2 3 (jC.2 ⟨ajK,ajK,ajK⟩)
def aeG (b:Bn) (hn:b.n0<=b.nodes.length) (n:Nat) (hp:n<b.n0) (x:Node) (hx:b.nodes[n]?=some x)
  (co:List Tree) (na st:Bs) :
  r_ P G 114 [.ptr (.par 0) 3 0 0,(⟨8,n,co,na,st⟩:Op).av] (dh b) [0,2,3] λX R2=>X=(λ_=> .bq [])/\R2=dh (b.name n na):=by
 refine ez (cw 114 ra) ajL aj_ ?_;obtain⟨dO,hU,h3,hN,hlen,BO⟩:=nr (b:=b) hx;have gV:B=1073741824:=rfl;have bU:=dO.get hx;rw[cy (n0:=b.n0) (lab:=Lb.par) (x:=x) hp] at bU;simp only[↓aX,mX,seval,Op.av,h3,Int.reduceBEq]
 try simp only[↓aX,mX,seval,Op.av,h3,dO.s,dO.n,dO.f,dO.a,hlen,agw,af5,af0,agR,agt,agh,bU,ar]
 refine⟨rfl,?_⟩;have um:b.name n na=b.set n {x with s:=na}:=by unfold Bn.name;rw[hx]
 have:=b8.acb (s:=na) (H2:=aS (aS (n7 (dh b)) (.loc 3) (.live ⟨5,[[.int .i64 8,.int .i64 n,.list (aM co),.str na,.str st]]⟩)) (.par 1) (.live ⟨5,(b.nodes.mapIdx (b5 b.n0 Lb.par)).set n [.bool x.text,.str na,.sl (.par (4+2*n)) 2 0 x.attrs.length,.int .i64 x.parent,.sl (.par (5+2*n)) 1 0 x.kids.length]⟩)) (BO _) hx (by rw[ae,agc rfl,cy hp]) (λq hq=>by rw[an _ _ hq]);rw[<-um] at this;rw[fF];refine⟨[],rfl,⟨λ_=> .bq [],_,Lb.par⟩,⟨rfl,rfl⟩,λρ=>by simp[aH,aA],akg,rfl,this,?_⟩;rintro p' (rfl|rfl|rfl)
 ·exact rfl
 ·exact rfl
 exact rfl
def aeH (b:Bn) (hn:b.n0<=b.nodes.length) (n:Nat) (hp:n<b.n0) (x:Node) (hx:b.nodes[n]?=some x)
  (co:List Tree) (na st:Bs) (hb:x.attrs.length+1<=B) (hr:gA x.attrs=true) (NV:Gs P G 160) :
  r_ P G 114 [.ptr (.par 0) 3 0 0,(⟨9,n,co,na,st⟩:Op).av] (dh b) [0,2,3] λX R2=>X=(λ_=> .bq [])/\R2=dh (b.attr n ⟨9,n,co,na,st⟩):=by
 refine ez (cw 114 ra) ajL aj_ ?_;obtain⟨dO,hU,h3,hN,hlen,BO⟩:=nr (b:=b) hx;have gV:B=1073741824:=rfl;have bU:=dO.get hx;rw[cy (n0:=b.n0) (lab:=Lb.par) (x:=x) hp] at bU;simp only[↓aX,mX,seval,Op.av,h3,Int.reduceBEq]
 try simp only[↓aX,mX,seval,Op.av,h3,dO.s,dO.n,dO.f,dO.a,hlen,agw,af5,af0,agR,agt,agh,bU,ar]
 refine gZ (lab:=Lb.par) (N:=NC 9) (NV b n hp x hx ⟨9,n,co,na,st⟩ rfl ajL hb hr) amW (BO _) (λl=>by rw[an _ _ aj5];exact hN 9 l) (q5 9) (λl h=> .inl h) (λp' fE=>aW.2 (ik.1 fE).1) ?_;rintro X R2 cm H2 ⟨rfl,rfl⟩ g1 g2 g3 g4 g5 g6;simp only[↓aX,mX,seval];rw[fF];refine⟨[],rfl,⟨λ_=> .bq [],_,cm⟩,⟨rfl,rfl⟩,λρ=>by simp[aH,aA],akg,rfl,g1,?_⟩;rintro p' (rfl|rfl|rfl)
 ·exact g2 0 (ik.2 ⟨ajK,ajK⟩)
 ·exact g2 2 (ik.2 ⟨ajK,ajK⟩)
 exact g2 3 (ik.2 ⟨ajK,ajK⟩)
def acx (b:Bn) (hn:b.n0<=b.nodes.length) (n:Nat) (hp:n<b.n0) (x:Node) (hx:b.nodes[n]?=some x)
  (co:List Tree) (na st:Bs) (hb:x.attrs.length+1<=B) (hr:gA x.attrs=true) (NV:Gs P G 160) :
  r_ P G 114 [.ptr (.par 0) 3 0 0,(⟨10,n,co,na,st⟩:Op).av] (dh b) [0,2,3] λX R2=>X=(λ_=> .bq [])/\R2=dh (b.attr n ⟨10,n,co,na,st⟩):=by
 refine ez (cw 114 ra) ajL aj_ ?_;obtain⟨dO,hU,h3,hN,hlen,BO⟩:=nr (b:=b) hx;have gV:B=1073741824:=rfl;have bU:=dO.get hx;rw[cy (n0:=b.n0) (lab:=Lb.par) (x:=x) hp] at bU;simp only[↓aX,mX,seval,Op.av,h3,Int.reduceBEq]
 try simp only[↓aX,mX,seval,Op.av,h3,dO.s,dO.n,dO.f,dO.a,hlen,agw,af5,af0,agR,agt,agh,bU,ar]
 refine gZ (lab:=Lb.par) (N:=NC 9) (NV b n hp x hx ⟨10,n,co,na,st⟩ rfl ajL hb hr) amW (BO _) (λl=>by rw[an _ _ aj5];exact hN 9 l) (q5 9) (λl h=> .inl h) (λp' fE=>aW.2 (ik.1 fE).1) ?_;rintro X R2 cm H2 ⟨rfl,rfl⟩ g1 g2 g3 g4 g5 g6;simp only[↓aX,mX,seval];rw[fF];refine⟨[],rfl,⟨λ_=> .bq [],_,cm⟩,⟨rfl,rfl⟩,λρ=>by simp[aH,aA],akg,rfl,g1,?_⟩;rintro p' (rfl|rfl|rfl)
 ·exact g2 0 (ik.2 ⟨ajK,ajK⟩)
 ·exact g2 2 (ik.2 ⟨ajK,ajK⟩)
 exact g2 3 (ik.2 ⟨ajK,ajK⟩)
end

def pj (l:List Op) (k:Int) (n:Nat):List Op:=l.filter λo=>o.kind==k&&o.target==(n:Int)
def aB (l:List Op) (k:Int) (n:Nat):List Tree:=(pj l k n).flatMap Op.content
def bZ (l:List Op) (k:Int) (n:Nat):Bool:= !(pj l k n).isEmpty
def fX (l:List Op) (n:Nat) (s:Bs):Bs:=match(pj l 7 n).getLast? with|some o=>o.s|none=>s
def fy (l:List Op) (n:Nat) (s:Bs):Bs:=match(pj l 8 n).getLast? with|some o=>o.name|none=>s
def o8 (n:Nat) (az:List Attr) (o:Op):List Attr:=if o.target=(n:Int)/\(o.kind=9\/o.kind=10) then i_ az o else az
def bL (l:List Op) (n:Nat) (az:List Attr):List Attr:=l.foldl (o8 n) az
theorem nu (l:List Op) (o:Op) (k:Int) (n:Nat):pj (l++[o]) k n=pj l k n++(if o.kind=k/\o.target=(n:Int) then [o] else []):=by
 grind [pj]
theorem bp (l:List Op) (o:Op) (k:Int) (n:Nat):aB (l++[o]) k n=aB l k n++(if o.kind=k/\o.target=(n:Int) then o.content else []):=by
 grind [aB,nu]
theorem cG (l:List Op) (o:Op) (k:Int) (n:Nat):bZ (l++[o]) k n=(bZ l k n||decide (o.kind=k/\o.target=(n:Int))):=by
 unfold bZ;rw[nu];by_cases h:o.kind=k/\o.target=(n:Int)
 ·simp[h]
 grind
theorem sj (l:List Op) (o:Op) (n:Nat) (s:Bs):fX (l++[o]) n s=if o.kind=7/\o.target=(n:Int) then o.s else fX l n s:=by
 grind [fX,nu]
theorem CJ (l:List Op) (o:Op) (n:Nat) (s:Bs):fy (l++[o]) n s=if o.kind=8/\o.target=(n:Int) then o.name else fy l n s:=by
 grind [fy,nu]
theorem rb (l:List Op) (o:Op) (n:Nat) (az:List Attr):bL (l++[o]) n az=o8 n (bL l n az) o:=by
 simp[bL,aiI]
def tW {l:List Op} {k:Int} {n:Nat} (h:bZ l k n=false):aB l k n=[]:=by
 grind [bZ,aB,pj]
def AH {l:List Op} {k:Int} {n:Nat}:bZ l k n=true↔∃o∈l,o.kind=k/\o.target=(n:Int):=by
 unfold bZ pj;simp
mutual
def Tree.iH (l:List Op) (off:Nat):Tree->List Tree
 | .mk t s az ks=>aB l 3 off++(if bZ l 6 off then aB l 6 off else if bZ l 5 off then [] else
  [.mk t (if t then fX l off s else fy l off s) (bL l off az) (if t then [] else if bZ l 7 off then [Ew (fX l off [])] else aB l 1 off++turns l (off+1) ks++aB l 2 off)])++aB l 4 off
def turns (l:List Op) (off:Nat):List Tree->List Tree
 |[]=>[]
 |k::r=>k.iH l off++turns l (off+k.cC) r
end
def Tree.bG (l:List Op) (off:Nat) (x:Tree):Tree:=
 .mk x.text (if x.text then fX l off x.s else fy l off x.s) (bL l off x.attrs) (if x.text then [] else if bZ l 7 off then [Ew (fX l off [])] else aB l 1 off++turns l (off+1) x.kids++aB l 2 off)
def Tree.jI (l:List Op) (off:Nat) (x:Tree):x.iH l off=aB l 3 off++(if bZ l 6 off then aB l 6 off else if bZ l 5 off then [] else [x.bG l off])++aB l 4 off:=by
 cases x with|mk t s az ks=>rw[Tree.iH];rfl
def jD (b:Bn) (o:Op):Bn:=match b.nodes[o.target.toNat]? with
 |none=>b
 |some x=>
  let n:=o.target.toNat
  let p:=x.parent.toNat
  let k:=mc (b.kd p) n
  if o.kind=1 then {b.ins n (b.fs.getD n 0).toNat o.content with fs:=b.fs.set n (((b.fs.getD n 0).toNat+o.content.length:Nat):Int)}
  else if o.kind=2 then b.ins n x.kids.length o.content
  else if o.kind=3 then b.ins p k.toNat o.content
  else if o.kind=4 then {b.ins p (k.toNat+1+(b.az.getD n 0).toNat) o.content with az:=b.az.set n (((b.az.getD n 0).toNat+o.content.length:Nat):Int)}
  else if o.kind=5 then(if 0<=k then b.del p k.toNat else b)
  else if o.kind=6 then(b.del p k.toNat).ins p k.toNat o.content
  else if o.kind=7 then b.value n o.s
  else if o.kind=8 then b.name n o.name
  else if o.kind=9\/o.kind=10 then b.attr n o else b
inductive IS where
 |yl (k:Nat)
 |new (t:Tree)
def Rp (b:Bn) (k:Int):IS->Prop
 | .yl j=>k=(j:Int)
 | .new t=>∃m:Nat,k=(m:Int)/\b.n0<=m/\∃q,jh b.nodes m q t
def news (l:List Tree):List IS:=l.map .new
def dC (l:List Op) (k:Nat):List IS:=news (aB l 3 k)++(if bZ l 6 k then news (aB l 6 k) else if bZ l 5 k then [] else [.yl k])++news (aB l 4 k)
def di (l:List Op) (i:Nat) (y:Tree):List IS:=
 if y.text then [] else if bZ l 7 i then [.new (Ew (fX l i []))] else news (aB l 1 i)++(bC (i+1) y.kids).flatMap (dC l)++news (aB l 2 i)
structure v8 (t:Tree) (l:List Op) (b:Bn):Prop where
 n0:b.n0=t.cC
 le:b.n0<=b.nodes.length
 nd:∀i q y,Sub 0 (-1) t i q y->∃ks,b.nodes[i]?=some ⟨y.text,if y.text then fX l i y.s else fy l i y.s,bL l i y.attrs,q,ks⟩/\dN (Rp b) ks (di l i y)
 fs:b.fs.length=t.cC/\∀i,i<t.cC->b.fs[i]?=some ((aB l 1 i).length:Int)
 az:b.az.length=t.cC/\∀i,i<t.cC->b.az[i]?=some ((aB l 4 i).length:Int)
def Ext (b b':Bn):Prop:=b'.n0=b.n0/\b.nodes.length<=b'.nodes.length/\∀m q tr,b.n0<=m->jh b.nodes m q tr->jh b'.nodes m q tr
theorem Rp.ext {b b':Bn} (h:Ext b b') {k:Int}:∀{x:IS},Rp b k x->Rp b' k x
 | .yl j,hx=>hx
 | .new t,⟨m,h1,h2,q,h3⟩=>⟨m,h1,by rw[h.1];exact h2,q,h.2.2 m q t h2 h3⟩
theorem gy {α γ:Type} {R R':α->γ->Prop} (h:∀a b,R a b->R' a b):∀{l:List α} {m:List γ},dN R l m->dN R' l m
 |_,_,.nil=> .nil
 |_,_,.cons h1 h2=> .cons (h _ _ h1) (gy h h2)
theorem nv {α γ:Type} {R:α->γ->Prop}:∀{l:List α} {m:List γ},dN R l m->l.length=m.length
 |_,_,.nil=>rfl
 |_,_,.cons _ h2=>by simp[nv h2]
theorem kh {α γ:Type} {R:α->γ->Prop}:∀{l:List α} {m:List γ} {l':List α} {m':List γ},dN R l m->dN R l' m'->dN R (l++l') (m++m')
 |_,_,_,_,.nil,h=>h
 |_,_,_,_,.cons h1 h2,h=> .cons h1 (kh h2 h)
theorem wX {α γ:Type} {R:α->γ->Prop}:∀(n:Nat) {l:List α} {m:List γ},dN R l m->dN R (l.take n) (m.take n)
 |0,_,_,_=>by simp;exact .nil
 |n+1,_,_,.nil=>by simp;exact .nil
 |n+1,_,_,.cons h1 h2=>by simp only[ahA];exact .cons h1 (wX n h2)
theorem wY {α γ:Type} {R:α->γ->Prop}:∀(n:Nat) {l:List α} {m:List γ},dN R l m->dN R (l.drop n) (m.drop n)
 |0,_,_,h=>by simpa using h
 |n+1,_,_,.nil=>by simp;exact .nil
 |n+1,_,_,.cons h1 h2=>by simp only[ag_];exact wY n h2
theorem KU {α γ:Type} {R:α->γ->Prop}:∀{l:List α} {m:List γ},dN R l m->∀{i:Nat} {a:α} {b:γ},l[i]?=some a->m[i]?=some b->R a b
 |_,_,.nil,i,a,b,h,_=>by simp at h
 |_,_,.cons h1 h2,0,a,b,h,h'=>by simp at h h';subst h;subst h';exact h1
 |_,_,.cons h1 h2,i+1,a,b,h,h'=>KU h2 aj6 (by simpa using h')
theorem Gv {b:Bn} (hn:b.n0<=b.nodes.length) (p:Nat) (L:List Tree):∀(pre:List Node) (off:Nat) (post:List Node) (L:List Tree),b.nodes=pre++ct off p L++post->pre.length=off->b.n0<=off->dN (Rp b) (aG off L) (news L)
 |_,_,_,[],_,_,_=> .nil
 |pre,off,post,x::r,h,hl,ho=>by
  simp only[aG,news];refine .cons ⟨off,rfl,ho,p,ct (off+x.cC) p r++post,?_⟩ ?_
  ·grind [ct]
  refine Gv hn p L (pre++x.flat off p) (off+x.cC) post r ?_ ?_ ajK
  ·grind [ct]
  rw[age,hl,x.dY]

def Ext.refl (b:Bn):Ext b b:=⟨rfl,af6 _,λ_ _ _ _ h=>h⟩
def Ext.trans {a b c:Bn} (h1:Ext a b) (h2:Ext b c):Ext a c:=
 ⟨h2.1.trans h1.1,ag' h1.2.1 h2.2.1,λm q tr hm h=>h2.2.2 m q tr (by rw[h1.1];exact hm) (h1.2.2 m q tr hm h)⟩
theorem ly (b:Bn) {i:Nat} (hi:i<b.n0) (y:Node):Ext b (b.set i y):=
 ⟨rfl,anj,λm q tr hm h=>by
  obtain⟨post,h⟩:=h;refine⟨post,?_⟩;show(b.nodes.set i y).drop m=_;rw[List.drop_set_of_lt ajK];exact h⟩
def QL (b:Bn) (p:Nat) (L:List Tree):Ext b (b.eH p L):=
 ⟨rfl,by simp[Bn.eH],λm q tr hm h=>by
  have hl:=h.len;obtain⟨post,h⟩:=h;refine⟨post++ct b.nodes.length p L,?_⟩;show(b.nodes++ct b.nodes.length p L).drop m=_;rw[ahF ajK,h,agM]⟩
def DY (b:Bn) (fs az:List Int):Ext b {b with fs:=fs,az:=az}:=⟨rfl,af6 _,λ_ _ _ _ h=>h⟩
section
variable {b:Bn} {p:Nat} {x:Node}
def AI (hx:b.nodes[p]?=some x) (pl:Nat) (L:List Tree):b.ins p pl L=(b.eH p L).set p {x with kids:=x.kids.take pl++aG b.nodes.length L++x.kids.drop pl}:=by unfold Bn.ins;rw[hx]
def pR (hx:b.nodes[p]?=some x) (hp:p<b.n0) (pl:Nat) (L:List Tree):Ext b (b.ins p pl L):=by
 rw[AI hx];exact(QL b p L).trans (ly (b.eH p L) (show p<(b.eH p L).n0 from hp) _)
def wZ (hx:b.nodes[p]?=some x) (pl:Nat) (L:List Tree) {i:Nat} (hi:i<b.nodes.length) (cf:i≠p):(b.ins p pl L).nodes[i]?=b.nodes[i]?:=by
 rw[AI hx];show((b.nodes++ct b.nodes.length p L).set p _)[i]?=_
 grind
def w7 (hx:b.nodes[p]?=some x) (pl:Nat) (L:List Tree):(b.ins p pl L).nodes[p]?=some {x with kids:=x.kids.take pl++aG b.nodes.length L++x.kids.drop pl}:=by
 rw[AI hx];have:=(afY.1 hx).1;show((b.nodes++ct b.nodes.length p L).set p _)[p]?=_
 grind
theorem sk (hx:b.nodes[p]?=some x) (pl:Nat) (L:List Tree):(b.ins p pl L).nodes.length=b.nodes.length+aJ L:=by
 simp_all[AI,Bn.set,Bn.eH,jV]
def sn (hx:b.nodes[p]?=some x) (hp:p<b.n0) (hn:b.n0<=b.nodes.length) (pl:Nat) (L:List Tree) {its:List IS} (h:dN (Rp b) x.kids its) :
  dN (Rp (b.ins p pl L)) (x.kids.take pl++aG b.nodes.length L++x.kids.drop pl) (its.take pl++news L++its.drop pl):=by
 have he:=pR hx hp pl L;refine kh (kh (wX pl (gy (λ_ _=>Rp.ext he) h)) ?_) (wY pl (gy (λ_ _=>Rp.ext he) h));have h1:Ext (b.eH p L) (b.ins p pl L):=by rw[AI hx];exact ly (b.eH p L) (show p<(b.eH p L).n0 from hp) _
 exact gy (λ_ _=>Rp.ext h1) (Gv (b:=b.eH p L) (by simp[Bn.eH];omega) p L b.nodes b.nodes.length [] L (by simp[Bn.eH]) rfl hn)
def del_eq (hx:b.nodes[p]?=some x) (k:Nat):b.del p k=b.set p {x with kids:=x.kids.take k++x.kids.drop (k+1)}:=by unfold Bn.del;rw[hx]
theorem DZ (hx:b.nodes[p]?=some x) (hp:p<b.n0) (k:Nat):Ext b (b.del p k):=by rw[del_eq hx];exact ly _ hp _
def QM (hx:b.nodes[p]?=some x) (k:Nat) {i:Nat} (cf:i≠p):(b.del p k).nodes[i]?=b.nodes[i]?:=by
 rw[del_eq hx];exact ahg (agQ cf)
def QN (hx:b.nodes[p]?=some x) (k:Nat):(b.del p k).nodes[p]?=some {x with kids:=x.kids.take k++x.kids.drop (k+1)}:=by
 rw[del_eq hx];exact ahj (afY.1 hx).1
def KV (hx:b.nodes[p]?=some x) (k:Nat):(b.del p k).nodes.length=b.nodes.length:=by rw[del_eq hx];simp[Bn.set]
def KW (hx:b.nodes[p]?=some x) (hp:p<b.n0) (k:Nat) {its:List IS} (h:dN (Rp b) x.kids its) :
  dN (Rp (b.del p k)) (x.kids.take k++x.kids.drop (k+1)) (its.take k++its.drop (k+1)):=by
 grind [DZ,kh,wX,gy,Rp.ext,wY]
theorem pI (hx:b.nodes[p]?=some x) (y:Node):(b.set p y).nodes[p]?=some y:=ahj (afY.1 hx).1
def D0 (y:Node) {i:Nat} (cf:i≠p):(b.set p y).nodes[i]?=b.nodes[i]?:=ahg (agQ cf)
end
def nw (n:Nat):IS->Bool
 | .yl j=>j==n
 | .new _=>false
theorem VS {b:Bn} {n:Nat} (hn:n<b.n0) {k:Int}:∀{x:IS},Rp b k x->nw n x=false->k≠(n:Int)
 | .yl j,h,h2=>by simp only[Rp] at h;simp only[nw,agZ] at h2;omega
 | .new t,⟨m,h1,h2,_⟩,_=>by omega
def D1 {b:Bn} {n:Nat} (hn:n<b.n0) {ks:List Int} {A C:List IS} (h:dN (Rp b) ks (A++ .yl n::C)) (hA:∀x∈A,nw n x=false):mc ks n=A.length/\A.length<ks.length:=by
 have hl:=nv h;have aF:A.length<ks.length:=ajV
 obtain⟨k,hk⟩:∃k,ks[A.length]?=some k:=⟨_,af7 aF⟩;have h1:Rp b k (.yl n):=KU h hk ajL;have uE:ks[A.length]?=some (n:Int):=by rw[hk];exact ahp some h1
 refine⟨KI uE λj hj e=> ?_,aF⟩;obtain⟨x,hx⟩:∃x,A[j]?=some x:=⟨_,af7 hj⟩
 grind [Rp,KU,VS]
def YS {b:Bn} {n:Nat} (hn:n<b.n0) {ks:List Int} {its:List IS} (h:dN (Rp b) ks its) (hA:∀x∈its,nw n x=false):mc ks n= -1:=by
 have hl:=nv h;refine CC λj hj e=> ?_;obtain⟨x,hx⟩:∃x,its[j]?=some x:=⟨_,af7 ajK⟩
 grind [VS,KU]
theorem ny (n:Nat) (L:List Tree):∀x∈news L,nw n x=false:=by
 intro x hx;obtain⟨t,_,rfl⟩:=agp.1 hx;rfl
theorem vH {l:List Op} {o:Op} {k:Nat} (h:o.target≠(k:Int)\/(o.kind≠3/\o.kind≠4/\o.kind≠5/\o.kind≠6)):dC (l++[o]) k=dC l k:=by
 grind [dC,bp,cG]
theorem sr {l:List Op} {o:Op} {i:Nat} {y:Tree} (h1:o.target≠(i:Int)\/(o.kind≠1/\o.kind≠2/\o.kind≠7)) (h2:∀k∈bC (i+1) y.kids,o.target≠(k:Int)\/(o.kind≠3/\o.kind≠4/\o.kind≠5/\o.kind≠6)) :
  di (l++[o]) i y=di l i y:=by
 have hk:(bC (i+1) y.kids).flatMap (dC (l++[o]))=(bC (i+1) y.kids).flatMap (dC l):=by
  grind [agX,vH]
 grind [di,bp,cG,sj]
theorem CK:∀(off:Nat) (xs:List Tree) (k:Nat),k∈bC off xs->∃a c x,xs=a++x::c/\k=off+aJ a
 |off,[],k,h=>by simp[bC] at h
 |off,x::r,k,h=>by
  simp[bC,aga] at h;rcases h with rfl|h
  ·exact⟨[],r,x,rfl,by simp[aJ]⟩
  obtain⟨a,c,z,h1,h2⟩:=CK (off+x.cC) r k h
  grind [aJ]
theorem CL:∀(off:Nat) (a b:List Tree),bC off (a++b)=bC off a++bC (off+aJ a) b
 |off,[],b=>by simp[bC,aJ]
 |off,x::r,b=>by simp[bC,aJ,CL (off+x.cC) r b,agT]
theorem x4:∀(off:Nat) (xs:List Tree) (k:Nat),k∈bC off xs->k<off+aJ xs
 |off,[],k,h=>by simp[bC] at h
 |off,x::r,k,h=>by
  have:=x.ca;simp[bC,aga] at h;rcases h with rfl|h
  ·grind [aJ]
  have:=x4 (off+x.cC) r k h;simp only[aJ];omega
theorem g_ {t:Tree} {n:Nat} {q q':Int} {y y':Tree} (h:Sub 0 (-1) t n q y) (h':Sub 0 (-1) t n q' y'):y=y'/\q=q':=
 (h.vc (ay t) ⟨[],akJ⟩).uniq (h'.vc (ay t) ⟨[],akJ⟩)
def T3 {t:Tree} {i:Nat} {q:Int} {y:Tree} (h:Sub 0 (-1) t i q y) {k:Nat} (hk:k∈bC (i+1) y.kids):∃z,Sub 0 (-1) t k i z/\z∈y.kids:=by
 obtain⟨a,c,x,h1,h2⟩:=CK _ _ _ hk;refine⟨x,h.trans (.Bm a c x h1 ?_),by rw[h1];simp⟩;rw[h2];exact .self _ _ _
def Sub.KX {off:Nat} {p:Int} {t:Tree} {n:Nat} {q:Int} {y:Tree} (h:Sub off p t n q y) :
  (n=off/\q=p/\y=t)\/∃(m:Nat) (z:Tree) (r:Int) (a c:List Tree),q=(m:Int)/\Sub off p t m r z/\z.kids=a++y::c/\n=m+1+aJ a/\m<n:=by
 induction h with
 |self=>simp
 |@Bm off p t n q y a b k hk hs ih=>
 right;rcases ih with⟨rfl,rfl,rfl⟩|⟨m,z,r,a',c',e1,e2,e3,e4,e5⟩
 ·exact⟨off,t,p,a,b,rfl,.self _ _ _,hk,ajK,ajK⟩
 exact⟨m,z,r,a',c',e1,.Bm a b k hk e2,e3,e4,e5⟩
def Gw {t:Tree} {m n:Nat} {r:Int} {z y:Tree} {a c:List Tree} (h1:z.kids=a++y::c) (h2:n=m+1+aJ a):bC (m+1) z.kids=bC (m+1) a++n::bC (n+y.cC) c/\(∀k∈bC (m+1) a,k<n)/\∀k∈bC (n+y.cC) c,n<k:=by
 have:=y.ca;refine⟨by rw[h1,CL,h2];simp[bC],λk hk=>by have:=x4 _ _ _ hk;omega,λk hk=>by have:=qO _ _ k hk;omega⟩
def iI {t:Tree} {l:List Op} {o:Op} {b b':Bn} (h:v8 t l b) (he:Ext b b') (c:Nat) (hc:∀i,i<t.cC->i≠c->b'.nodes[i]?=b.nodes[i]?)
  (hs:∀i q y,Sub 0 (-1) t i q y->i≠c->(y.text=true->fX (l++[o]) i y.s=fX l i y.s)/\(y.text=false->fy (l++[o]) i y.s=fy l i y.s)/\bL (l++[o]) i y.attrs=bL l i y.attrs/\di (l++[o]) i y=di l i y)
  (hn:∀q y ks,Sub 0 (-1) t c q y->b.nodes[c]?=some ⟨y.text,if y.text then fX l c y.s else fy l c y.s,bL l c y.attrs,q,ks⟩->dN (Rp b) ks (di l c y) ->
   ∃ui,b'.nodes[c]?=some ⟨y.text,if y.text then fX (l++[o]) c y.s else fy (l++[o]) c y.s,bL (l++[o]) c y.attrs,q,ui⟩/\dN (Rp b') ui (di (l++[o]) c y))
  (hf:b'.fs.length=t.cC/\∀i,i<t.cC->b'.fs[i]?=some ((aB (l++[o]) 1 i).length:Int)) (ha:b'.az.length=t.cC/\∀i,i<t.cC->b'.az[i]?=some ((aB (l++[o]) 4 i).length:Int)):v8 t (l++[o]) b' where
 n0:=he.1.trans h.n0
 le:=by rw[he.1];exact ag' h.le he.2.1
 nd i q y hy:=by
  obtain⟨ks,h1,h2⟩:=h.nd i q y hy;by_cases e:i=c
  ·grind
  have hr:=hy.Ig;have Sl:=y.ca
  grind [gy,Rp.ext]
 fs:=hf
 az:=ha
theorem lz {t:Tree} {l:List Op} {o:Op} {b:Bn} (h:v8 t l b) (hk:o.kind≠1):b.fs.length=t.cC/\∀i,i<t.cC->b.fs[i]?=some ((aB (l++[o]) 1 i).length:Int):=
 ⟨h.fs.1,λi hi=>by rw[bp,af8 (λe=>hk e.1),agb];exact h.fs.2 i hi⟩
theorem lA {t:Tree} {l:List Op} {o:Op} {b:Bn} (h:v8 t l b) (hk:o.kind≠4):b.az.length=t.cC/\∀i,i<t.cC->b.az[i]?=some ((aB (l++[o]) 4 i).length:Int):=
 ⟨h.az.1,λi hi=>by rw[bp,af8 (λe=>hk e.1),agb];exact h.az.2 i hi⟩
theorem gH {l:List Op} {o:Op} {i:Nat} (h:o.target≠(i:Int)\/(o.kind≠9/\o.kind≠10)) (az:List Attr):bL (l++[o]) i az=bL l i az:=by
 grind [rb,o8]
theorem kL {l:List Op} {o:Op} {i:Nat} (h:o.target≠(i:Int)\/o.kind≠7) (s:Bs):fX (l++[o]) i s=fX l i s:=by
 grind [sj]
theorem kM {l:List Op} {o:Op} {i:Nat} (h:o.target≠(i:Int)\/o.kind≠8) (s:Bs):fy (l++[o]) i s=fy l i s:=by
 grind [CJ]
section
variable {t:Tree} {l:List Op} {b:Bn} {o:Op} {n:Nat} {q:Int} {y:Tree}
def mS (ht:o.target=(n:Int)) (hk:o.kind≠3/\o.kind≠4/\o.kind≠5/\o.kind≠6):∀i q y,Sub 0 (-1) t i q y->i≠n ->
  (y.text=true->fX (l++[o]) i y.s=fX l i y.s)/\(y.text=false->fy (l++[o]) i y.s=fy l i y.s)/\bL (l++[o]) i y.attrs=bL l i y.attrs/\di (l++[o]) i y=di l i y:=by
 grind [kL,kM,gH,sr]
theorem step1 (h:v8 t l b) (hy:Sub 0 (-1) t n q y) (ht:o.target=(n:Int)) (hk:o.kind=1) (hT:y.text=false) (hv:bZ l 7 n=false):v8 t (l++[o]) (jD b o)/\(jD b o).nodes.length=b.nodes.length+aJ o.content:=by
 obtain⟨ks,h1,h2⟩:=h.nd n q y hy;have hr:=hy.Ig;have Sl:=y.ca;have hn:n<b.n0:=akB
 have hle:=h.le;have ov:=h.n0;have L2:=h.fs.2 n ajK;have Sa:(b.fs.getD n 0).toNat=(aB l 1 n).length:=ajV
 have hd:jD b o={b.ins n (aB l 1 n).length o.content with fs:=b.fs.set n (((aB l 1 n).length+o.content.length:Nat):Int)}:=by
  grind [jD,af0]
 rw[hd];refine⟨iI h (o:=o) ((pR h1 hn _ _).trans (DY _ _ _)) n (λi hi cf=>wZ h1 _ _ ajK cf) (mS ht ajK) ?_ ?_ ?_,?_⟩
 ·intro q' y' ui td e1 e2;obtain⟨rfl,rfl⟩:=g_ hy td;rw[h1] at e1;have e1:ks=ui:=by grind
  refine⟨ks.take (aB l 1 n).length++aG b.nodes.length o.content++ks.drop (aB l 1 n).length,(w7 h1 _ _).trans ?_,?_⟩
  ·grind [gH,kL,kM]
  have:=sn h1 hn hle (aB l 1 n).length o.content h2;refine gy (λ_ _=>Rp.ext (DY _ _ _)) ?_;refine cast ?_ this;congr 1;unfold di
  grind [cG,bp,bC,dC,agX,vH,news]
 ·refine⟨by simp[h.fs.1],λi hi=> ?_⟩;rw[bp];by_cases e:i=n
  ·grind
  rw[ahg (agQ e),af8 ajK,agb];exact h.fs.2 i hi
 ·grind [lA,pQ]
 grind [sk]
theorem step2 (h:v8 t l b) (hy:Sub 0 (-1) t n q y) (ht:o.target=(n:Int)) (hk:o.kind=2) (hT:y.text=false) (hv:bZ l 7 n=false):v8 t (l++[o]) (jD b o)/\(jD b o).nodes.length=b.nodes.length+aJ o.content:=by
 obtain⟨ks,h1,h2⟩:=h.nd n q y hy;have hr:=hy.Ig;have Sl:=y.ca;have hn:n<b.n0:=akB
 have hle:=h.le;have ov:=h.n0;have hd:jD b o=b.ins n ks.length o.content:=by
  grind [jD,af0]
 rw[hd];refine⟨iI h (o:=o) (pR h1 hn _ _) n (λi hi cf=>wZ h1 _ _ ajK cf) (mS ht ajK) ?_ ?_ ?_,sk h1 _ _⟩
 ·intro q' y' ui td e1 e2;obtain⟨rfl,rfl⟩:=g_ hy td;rw[h1] at e1;have e1:ks=ui:=by grind
  refine⟨ks.take ks.length++aG b.nodes.length o.content++ks.drop ks.length,(w7 h1 _ _).trans ?_,?_⟩
  ·grind [gH,kL,kM]
  have:=sn h1 hn hle ks.length o.content h2;have hl:=nv h2;refine cast ?_ this;congr 1;rw[hl,agu,aic];unfold di
  grind [cG,bp,bC,dC,agX,vH,news]
 ·grind [lz,pP]
 grind [lA,pQ]
def MX {off k:Nat} {m:Int} {y:Tree} (h:k=off):Sub off m y k m y:=by subst h;exact .self _ _ _
theorem MY {l:List Op} {k n:Nat} (h:k≠n):∀x∈dC l k,nw n x=false:=by
 grind [dC,ny,nw]
def Gx {l:List Op} {n:Nat} {ks:List Nat} (h:∀k∈ks,k≠n):∀x∈ks.flatMap (dC l),nw n x=false:=by
 grind [MY]
structure fL (t:Tree) (l:List Op) (b:Bn) (n:Nat) (y:Tree) where
 m:Nat
 z:Tree
 r:Int
 a:List Tree
 c:List Tree
 ks:List Int
 hz:Sub 0 (-1) t m r z
 hk:z.kids=a++y::c
 hn:n=m+1+aJ a
 nd:b.nodes[m]?=some ⟨z.text,if z.text then fX l m z.s else fy l m z.s,bL l m z.attrs,r,ks⟩
 rp:dN (Rp b) ks (di l m z)
 zt:z.text=false
def beside (h:v8 t l b) (h0:∀i q y,Sub 0 (-1) t i q y->y.text=true->y.kids=[]) (hy:Sub 0 (-1) t n q y) (hq:0<=q):∃B:fL t l b n y,q=(B.m:Int):=by
 rcases hy.KX with⟨_,rfl,_⟩|⟨m,z,r,a,c,e1,e2,e3,e4,e5⟩
 ·omega
 obtain⟨ks,h1,h2⟩:=h.nd m r z e2;refine⟨⟨m,z,r,a,c,ks,e2,e3,e4,h1,h2,?_⟩,e1⟩;cases hT:z.text with
 |false=>rfl
 |true=>have:=h0 m r z e2 hT;rw[e3] at this;simp at this
variable {n:Nat}
def fL.A (B:fL t l b n y):List IS:=news (aB l 1 B.m)++(bC (B.m+1) B.a).flatMap (dC l)
def fL.C (B:fL t l b n y):List IS:=(bC (n+y.cC) B.c).flatMap (dC l)++news (aB l 2 B.m)
def fL.split (B:fL t l b n y):bC (B.m+1) B.z.kids=bC (B.m+1) B.a++n::bC (n+y.cC) B.c/\(∀k∈bC (B.m+1) B.a,k<n)/\∀k∈bC (n+y.cC) B.c,n<k:=
 Gw (t:=t) (r:=B.r) B.hk B.hn
def fL.items (B:fL t l b n y) (hv:bZ l 7 B.m=false):di l B.m B.z=B.A++dC l n++B.C:=by
 unfold di;rw[B.zt,hv,B.split.1];simp[fL.A,fL.C]
def fL.IT (B:fL t l b n y) (hv:bZ l 7 B.m=false) (h1:o.kind≠1) (h2:o.kind≠2) (h7:o.kind≠7) (ht:o.target=(n:Int)):di (l++[o]) B.m B.z=B.A++dC (l++[o]) n++B.C:=by
 unfold di;rw[B.zt,cG,hv,B.split.1,bp,bp];have e1:∀ks:List Nat,(∀k∈ks,k≠n)->ks.flatMap (dC (l++[o]))=ks.flatMap (dC l):=λks JN=>by
  grind [agX,vH]
 simp;rw[e1 _ (λk hk=>by have:=B.split.2.1 k hk;omega),e1 _ (λk hk=>by have:=B.split.2.2 k hk;omega)]
 grind [fL.A,fL.C]
def fL.KY (B:fL t l b n y):∀x∈B.A,nw n x=false:=by
 intro x hx;simp only[fL.A,agi] at hx;rcases hx with hx|hx
 ·grind [ny]
 exact Gx (λk hk=>by have:=B.split.2.1 k hk;omega) x hx
def fL.acy (B:fL t l b n y):∀x∈B.C,nw n x=false:=by
 intro x hx;simp only[fL.C,agi] at hx;rcases hx with hx|hx
 ·exact Gx (λk hk=>by have:=B.split.2.2 k hk;omega) x hx
 grind [ny]
def nz (B:fL t l b n y) (hy:Sub 0 (-1) t n q y) (ht:o.target=(n:Int)) (hk:o.kind=3\/o.kind=4\/o.kind=5\/o.kind=6):∀i q y,Sub 0 (-1) t i q y->i≠B.m ->
  (y.text=true->fX (l++[o]) i y.s=fX l i y.s)/\(y.text=false->fy (l++[o]) i y.s=fy l i y.s)/\bL (l++[o]) i y.attrs=bL l i y.attrs/\di (l++[o]) i y=di l i y:=by
 intro i q' y' td hi;refine⟨λ_=>kL (.inr ajK) _,λ_=>kM (.inr ajK) _,gH (.inr ajK) _,sr (.inr ajK) λk uE=> .inl λe=> ?_⟩;have e:k=n:=ajK
 subst e;obtain⟨w,hw,_⟩:=T3 td uE;have h1:Sub 0 (-1) t k B.m y:=B.hz.trans (.Bm B.a B.c y B.hk (MX B.hn))
 grind [g_]
theorem YT (h:v8 t l b) (h0:∀i q y,Sub 0 (-1) t i q y->y.text=true->y.kids=[]) (hy:Sub 0 (-1) t n q y) (hq:0<=q) (ht:o.target=(n:Int)) (hk:o.kind=3\/o.kind=4\/o.kind=6) (hv:bZ l 7 q.toNat=false) (h6:bZ l 6 n=false) (h5:bZ l 5 n=false) :
   v8 t (l++[o]) (jD b o)/\(jD b o).nodes.length=b.nodes.length+aJ o.content:=by
 obtain⟨B,IU⟩:=beside h h0 hy hq
 rw[IU,af0] at hv
 obtain⟨ks,h1,-⟩:=h.nd n q y hy
 have hr:=hy.Ig
 have Sl:=y.ca
 have YA:=B.hz.Ig
 have acz:=B.z.ca
 have hn:n<b.n0:=akB
 have hm:B.m<b.n0:=akB
 have hle:=h.le
 have ov:=h.n0
 have YU:=B.items hv
 have QO:dC l n=news (aB l 3 n)++ .yl n::news (aB l 4 n):=aml
 have Sm:dN (Rp b) B.ks ((B.A++news (aB l 3 n))++ .yl n::(news (aB l 4 n)++B.C)):=by
   have:=B.rp;rw[YU,QO] at this
   simpa using this
 have hA:∀x∈B.A++news (aB l 3 n),nw n x=false:=by
   intro x hx
   rcases agi.1 hx with hx|hx
   · exact B.KY x hx
   exact ny n _ x hx
 obtain⟨o9,aF⟩:=D1 hn Sm hA
 have qB:b.kd B.m=B.ks:=by rw[Bn.lu B.nd]
 have han:=h.az.2 n ajK
 have ha0:(b.az.getD n 0).toNat=(aB l 4 n).length:=by rw[agW,han];simp
 obtain⟨L,hL⟩:∃L,L=(B.A++news (aB l 3 n)).length:=⟨_,rfl⟩
 rw[<-hL] at o9 aF
 have QP:=B.IT (o:=o) hv ajK ajK ajK ht
 rcases hk with hk|hk|hk
 · have hd:jD b o=b.ins B.m L o.content:=by
     unfold jD;rw[ht,af0,h1];simp only[IU,af0,qB,o9];simp[hk]
   rw[hd]
   refine⟨iI h (o:=o) (pR B.nd hm _ _) B.m (λi hi cf=>wZ B.nd _ _ ajK cf) (nz B hy ht ajK) ?_ ?_ ?_,sk B.nd _ _⟩
   · intro q' y' ui td e1 e2
     obtain⟨rfl,rfl⟩:=g_ B.hz td
     rw[B.nd] at e1
     have e1:B.ks=ui:=akv
     subst e1
     refine⟨B.ks.take L++aG b.nodes.length o.content++B.ks.drop L,(w7 B.nd _ _).trans ?_,?_⟩
     · exact O8
     have:=sn B.nd hm hle L o.content Sm
     refine cast ?_ this
     congr 1
     rw[QP,hL,ah5 rfl,ain rfl]
     unfold dC
     rw[bp,bp,bp,cG,cG,h6,h5]
     simp[hk,ht,news]
   · have:=lz (o:=o) h ajK
     rw[pP];exact this
   have:=lA (o:=o) h ajK
   rw[pQ];exact this
 · have hd:jD b o={b.ins B.m (L+1+(aB l 4 n).length) o.content with az:=b.az.set n (((aB l 4 n).length+o.content.length:Nat):Int)}:=by
     unfold jD;rw[ht,af0,h1];simp only[IU,af0,qB,o9,ha0];simp[hk]
   rw[hd]
   refine⟨iI h (o:=o) ((pR B.nd hm _ _).trans (DY _ _ _)) B.m (λi hi cf=>wZ B.nd _ _ ajK cf) (nz B hy ht ajK) ?_ ?_ ?_,sk B.nd _ _⟩
   · intro q' y' ui td e1 e2
     obtain⟨rfl,rfl⟩:=g_ B.hz td
     rw[B.nd] at e1
     have e1:B.ks=ui:=akv
     subst e1
     refine⟨B.ks.take (L+1+(aB l 4 n).length)++aG b.nodes.length o.content++B.ks.drop (L+1+(aB l 4 n).length),(w7 B.nd _ _).trans ?_,?_⟩
     · exact O8
     have aeI:dN (Rp b) B.ks ((B.A++news (aB l 3 n)++ .yl n::news (aB l 4 n))++B.C):=by simpa using Sm
     have hL2:L+1+(aB l 4 n).length=(B.A++news (aB l 3 n)++ .yl n::news (aB l 4 n)).length:=by rw[hL];simp[news];omega
     have:=sn B.nd hm hle (L+1+(aB l 4 n).length) o.content aeI
     refine gy (λ_ _=>Rp.ext (DY _ _ _)) ?_
     refine cast ?_ this
     congr 1
     rw[QP,hL2,ah5 rfl,ain rfl]
     unfold dC
     rw[bp,bp,bp,cG,cG,h6,h5]
     simp[hk,ht,news]
   · have:=lz (o:=o) h ajK
     show(b.ins B.m (L+1+(aB l 4 n).length) o.content).fs.length=_/\_
     rw[pP];exact this
   refine⟨by simp[h.az.1],λi hi=> ?_⟩
   rw[bp]
   by_cases e:i=n
   · subst e
     rw[ahj (by rw[h.az.1];omega),agc ⟨hk,ht⟩,age]
   rw[ahg (agQ e),af8 ajK,agb];exact h.az.2 i hi
 have hd:jD b o=(b.del B.m L).ins B.m L o.content:=by
   unfold jD;rw[ht,af0,h1];simp only[IU,af0,qB,o9];simp[hk]
 rw[hd]
 have Sk:=QN B.nd L
 have xD:=KV B.nd L
 have Tn:(b.del B.m L).n0=b.n0:=nq _ _ _
 refine⟨iI h (o:=o) ((DZ B.nd hm _).trans (pR Sk (by rw[Tn];exact hm) _ _)) B.m (λi hi cf=>(wZ Sk _ _ ajK cf).trans (QM B.nd _ cf)) (nz B hy ht ajK) ?_ ?_ ?_,by rw[sk Sk,xD]⟩
 · intro q' y' ui td e1 e2
   obtain⟨rfl,rfl⟩:=g_ B.hz td
   rw[B.nd] at e1
   have e1:B.ks=ui:=akv
   subst e1
   refine⟨(B.ks.take L++B.ks.drop (L+1)).take L++aG (b.del B.m L).nodes.length o.content++(B.ks.take L++B.ks.drop (L+1)).drop L,(w7 Sk _ _).trans ?_,?_⟩
   · exact O8
   have pt:=KW B.nd hm L Sm
   have C5:((B.A++news (aB l 3 n))++ .yl n::(news (aB l 4 n)++B.C)).take L=B.A++news (aB l 3 n):=by rw[hL];exact ah5 rfl
   have TT:((B.A++news (aB l 3 n))++ .yl n::(news (aB l 4 n)++B.C)).drop (L+1)=news (aB l 4 n)++B.C:=by
     rw[<-ahJ,hL,ain rfl];rfl
   rw[C5,TT] at pt
   have:=sn Sk (by rw[Tn];exact hm) (by rw[Tn,xD];exact hle) L o.content (its:=(B.A++news (aB l 3 n))++(news (aB l 4 n)++B.C)) pt
   refine cast ?_ this
   congr 1
   rw[QP,hL,ah5 rfl,ain rfl]
   unfold dC
   rw[bp,bp,bp,cG,cG,h6,h5,tW h6]
   simp[hk,ht,news]
 · have:=lz (o:=o) h ajK
   rw[pP,show(b.del B.m L).fs=b.fs by rw[del_eq B.nd];rfl];exact this
 have:=lA (o:=o) h ajK
 rw[pQ,show(b.del B.m L).az=b.az by rw[del_eq B.nd];rfl];exact this
end

section
variable {t:Tree} {l:List Op} {b:Bn} {o:Op} {n:Nat} {q:Int} {y:Tree}
def QQ {l:List Op} {n:Nat} (h:bZ l 6 n=true\/bZ l 5 n=true):∀x∈dC l n,nw n x=false:=by
 grind [dC,ny]
theorem acA (h:v8 t l b) (h0:∀i q y,Sub 0 (-1) t i q y->y.text=true->y.kids=[]) (hy:Sub 0 (-1) t n q y) (hq:0<=q) (ht:o.target=(n:Int)) (hk:o.kind=5) :
   v8 t (l++[o]) (jD b o)/\(jD b o).nodes.length=b.nodes.length:=by
 obtain⟨B,IU⟩:=beside h h0 hy hq
 obtain⟨ks,h1,-⟩:=h.nd n q y hy
 have hr:=hy.Ig
 have Sl:=y.ca
 have YA:=B.hz.Ig
 have acz:=B.z.ca
 have hn:n<b.n0:=akB
 have hm:B.m<b.n0:=akB
 have hle:=h.le
 have ov:=h.n0
 have qB:b.kd B.m=B.ks:=by rw[Bn.lu B.nd]
 by_cases oe:bZ l 7 B.m=true\/bZ l 6 n=true\/bZ l 5 n=true
 · have hold:∀x∈di l B.m B.z,nw n x=false:=by
     intro x hx
     by_cases h7:bZ l 7 B.m=true
     · unfold di at hx
       rw[B.zt,h7] at hx
       simp only[agl,agk,agn,af'] at hx
       subst hx;rfl
     rw[B.items anX] at hx
     simp only[agi] at hx
     rcases hx with(hx|hx)|hx
     · exact B.KY x hx
     · exact QQ (oe.resolve_left h7) x hx
     exact B.acy x hx
   have o9:=YS hn B.rp hold
   have hd:jD b o=b:=by
     unfold jD;rw[ht,af0,h1];simp only[IU,af0,qB,o9];simp[hk]
   rw[hd]
   refine⟨iI h (o:=o) (Ext.refl _) B.m (λ_ _ _=>rfl) (nz B hy ht ajK) ?_ (lz h ajK) (lA h ajK),rfl⟩
   intro q' y' ui td e1 e2
   obtain⟨rfl,rfl⟩:=g_ B.hz td
   refine⟨ui,e1.trans ?_,?_⟩
   · exact O8
   have:di (l++[o]) B.m B.z=di l B.m B.z:=by
     by_cases h7:bZ l 7 B.m=true
     · unfold di
       rw[B.zt,cG,h7,kL (.inr ajK)]
       rfl
     rw[B.items anX,B.IT anX ajK ajK ajK ht]
     have oe:=oe.resolve_left h7
     congr 2
     unfold dC
     rw[bp,bp,bp,cG,cG]
     rcases oe with h6|h5
     · simp[hk,h6]
     simp[hk,h5]
   rw[this];exact e2
 have hv:bZ l 7 B.m=false:=by simp at oe;exact oe.1
 have h6:bZ l 6 n=false:=by simp at oe;exact oe.2.1
 have h5:bZ l 5 n=false:=by simp at oe;exact oe.2.2
 have QO:dC l n=news (aB l 3 n)++ .yl n::news (aB l 4 n):=aml
 have Sm:dN (Rp b) B.ks ((B.A++news (aB l 3 n))++ .yl n::(news (aB l 4 n)++B.C)):=by
   have:=B.rp;rw[B.items hv,QO] at this
   simpa using this
 have hA:∀x∈B.A++news (aB l 3 n),nw n x=false:=by
   intro x hx
   rcases agi.1 hx with hx|hx
   · exact B.KY x hx
   exact ny n _ x hx
 obtain⟨o9,aF⟩:=D1 hn Sm hA
 obtain⟨L,hL⟩:∃L,L=(B.A++news (aB l 3 n)).length:=⟨_,rfl⟩
 rw[<-hL] at o9 aF
 have QP:=B.IT (o:=o) hv ajK ajK ajK ht
 have hd:jD b o=b.del B.m L:=by
   unfold jD;rw[ht,af0,h1];simp only[IU,af0,qB,o9];simp[hk]
 rw[hd]
 refine⟨iI h (o:=o) (DZ B.nd hm _) B.m (λi hi cf=>QM B.nd _ cf) (nz B hy ht ajK) ?_ ?_ ?_,KV B.nd _⟩
 · intro q' y' ui td e1 e2
   obtain⟨rfl,rfl⟩:=g_ B.hz td
   rw[B.nd] at e1
   have e1:B.ks=ui:=akv
   subst e1
   refine⟨B.ks.take L++B.ks.drop (L+1),(QN B.nd _).trans ?_,?_⟩
   · exact O8
   have pt:=KW B.nd hm L Sm
   have C5:((B.A++news (aB l 3 n))++ .yl n::(news (aB l 4 n)++B.C)).take L=B.A++news (aB l 3 n):=by rw[hL];exact ah5 rfl
   have TT:((B.A++news (aB l 3 n))++ .yl n::(news (aB l 4 n)++B.C)).drop (L+1)=news (aB l 4 n)++B.C:=by
     rw[<-ahJ,hL,ain rfl];rfl
   rw[C5,TT] at pt
   refine cast ?_ pt
   congr 1
   rw[QP]
   unfold dC
   rw[bp,bp,bp,cG,cG,h6,h5]
   simp[hk,ht]
 · have:=lz (o:=o) h ajK
   rw[show(b.del B.m L).fs=b.fs by rw[del_eq B.nd];rfl];exact this
 have:=lA (o:=o) h ajK
 rw[show(b.del B.m L).az=b.az by rw[del_eq B.nd];rfl];exact this
theorem acB (h:v8 t l b) (hy:Sub 0 (-1) t n q y) (ht:o.target=(n:Int)) (hk:o.kind=7):v8 t (l++[o]) (jD b o)/\(jD b o).nodes.length<=b.nodes.length+1:=by
 obtain⟨ks,h1,h2⟩:=h.nd n q y hy;have hr:=hy.Ig;have Sl:=y.ca;have hn:n<b.n0:=akB
 have hle:=h.le;have ov:=h.n0;have hd:jD b o=b.value n o.s:=by
  grind [jD,af0]
 rw[hd];unfold Bn.value;rw[h1];cases hT:y.text with
 |true=>
  simp;refine⟨iI h (o:=o) (ly _ hn _) n (λi hi cf=>D0 _ cf) (mS ht ajK) ?_ alr als,anj⟩;intro q' y' ui td e1 e2;obtain⟨rfl,rfl⟩:=g_ hy td
  grind [pI,gH,sj,gy,Rp.ext,ly,di]
 |false=>
 simp;have hs:=pI h1 (y:=({text:=false,s:=fy l n y.s,attrs:=bL l n y.attrs,parent:=q,kids:=[]}:Node));refine⟨iI h (o:=o) ((ly _ hn _).trans (pR hs hn _ _)) n (λi hi cf=>(wZ hs _ _ (by simp[Bn.set];omega) cf).trans (D0 _ cf)) (mS ht ajK) ?_ ?_ ?_,?_⟩
 ·intro q' y' ui td e1 e2;obtain⟨rfl,rfl⟩:=g_ hy td;refine⟨([]:List Int).take 0++aG (b.set n ({text:=false,s:=fy l n y.s,attrs:=bL l n y.attrs,parent:=q,kids:=[]}:Node)).nodes.length [Ew o.s]++([]:List Int).drop 0,(w7 hs _ _).trans ?_,?_⟩
  ·grind [gH,kM]
  have:=sn hs hn (by simp[Bn.set];exact hle) 0 [Ew o.s] (its:=[]) .nil
  grind [di,cG,sj,news]
 ·have:=lz (o:=o) h ajK;rw[pP];exact this
 ·have:=lA (o:=o) h ajK;rw[pQ];exact this
 grind [sk,Bn.set,aJ,Ew,Tree.cC]
theorem acC (h:v8 t l b) (hy:Sub 0 (-1) t n q y) (ht:o.target=(n:Int)) (hk:o.kind=8) (hT:y.text=false):v8 t (l++[o]) (jD b o)/\(jD b o).nodes.length=b.nodes.length:=by
 obtain⟨ks,h1,h2⟩:=h.nd n q y hy;have hr:=hy.Ig;have Sl:=y.ca;have hn:n<b.n0:=akB
 have hd:jD b o=b.name n o.name:=by
  simp_all[jD,af0]
 rw[hd];unfold Bn.name;rw[h1];refine⟨iI h (o:=o) (ly _ hn _) n (λi hi cf=>D0 _ cf) (mS ht ajK) ?_ alr als,anj⟩;intro q' y' ui td e1 e2;obtain⟨rfl,rfl⟩:=g_ hy td;rw[h1] at e1;have e1:ks=ui:=ajV
 subst e1;refine⟨ks,(pI h1 _).trans ?_,?_⟩
 ·grind [gH,CJ]
 rw[sr (.inr ajK) λk _=> .inr ajK]
 grind [gy,Rp.ext,ly]
theorem acD (h:v8 t l b) (hy:Sub 0 (-1) t n q y) (ht:o.target=(n:Int)) (hk:o.kind=9\/o.kind=10):v8 t (l++[o]) (jD b o)/\(jD b o).nodes.length=b.nodes.length:=by
 obtain⟨ks,h1,h2⟩:=h.nd n q y hy;have hr:=hy.Ig;have Sl:=y.ca;have hn:n<b.n0:=akB
 have hd:jD b o=b.attr n o:=by
  unfold jD;rw[ht,af0,h1]
  grind
 rw[hd];unfold Bn.attr;rw[h1];refine⟨iI h (o:=o) (ly _ hn _) n (λi hi cf=>D0 _ cf) (mS ht ajK) ?_ alr als,anj⟩;intro q' y' ui td e1 e2;obtain⟨rfl,rfl⟩:=g_ hy td;rw[h1] at e1;have e1:ks=ui:=ajV
 subst e1;refine⟨ks,(pI h1 _).trans ?_,?_⟩
 ·grind [kL,kM,rb,o8]
 rw[sr (.inr ajK) λk _=> .inr ajK]
 grind [gy,Rp.ext,ly]
theorem MZ (t:Tree) (h0:∀i q y,Sub 0 (-1) t i q y->y.text=true->y.kids=[]):v8 t [] ⟨t.cC,ay t,List.replicate t.cC 0,List.replicate t.cC 0⟩ where
 n0:=rfl
 le:=by rw[eR];exact af6 _
 nd i q y hy:=by
  refine⟨aG (i+1) y.kids,?_,?_⟩
  ·have:=(hy.vc (ay t) ⟨[],akJ⟩).node
   grind [Tree.node,fX,fy,pj,bL]
  have hK:∀k,dC [] k=[.yl k]:=λk=>by simp[dC,aB,bZ,pj,news]
  unfold di;cases hT:y.text with
  |true=>rw[h0 i q y hy hT];exact .nil
  |false=>
  simp only[agk,bZ,pj,ail,List.isEmpty_nil,af4,aB,aji,news,ag6,List.nil_append,agb];have:∀(off:Nat) (xs:List Tree) (b:Bn),dN (Rp b) (aG off xs) ((bC off xs).flatMap (dC [])):=by
   intro off xs b;induction xs generalizing off with
   |nil=>exact .nil
   |cons x r ih=>simp only[aG,bC,ah7,hK];exact .cons rfl (ih _)
  grind
 fs:=by
  refine⟨ajL,λi hi=> ?_⟩;simp[hi,aB,pj]
 az:=by
  refine⟨ajL,λi hi=> ?_⟩;simp[hi,aB,pj]
end

mutual
def Tree.rep (d:Doc) (n:Nat):Tree->Prop
 | .mk t s az ks=>∃p kd,d[n]?=some ⟨t,s,az,p,kd⟩/\re d kd ks
def re (d:Doc):List Int->List Tree->Prop
 |[],[]=>True
 |k::r,x::xs=>(∃m:Nat,k=m/\x.rep d m)/\re d r xs
 |[],_::_=>False
 |_::_,[]=>False
end
theorem Gy {d:Doc}:∀{ks:List Int} {xs:List Tree},re d ks xs->ks.length=xs.length
 |[],[],_=>rfl
 |k::r,x::xs,h=>by simp only[re] at h;simp[Gy h.2]
 |[],_::_,h=>by simp[re] at h
 |_::_,[],h=>by simp[re] at h
theorem Gz {d:Doc}:∀{ks:List Int} {xs:List Tree},re d ks xs->∀{i:Nat} {x:Tree},xs[i]?=some x->∃m:Nat,ks[i]?=some (m:Int)/\x.rep d m
 |[],[],_,i,x,hx=>by simp at hx
 |k::r,y::xs,h,0,x,hx=>by
  simp only[re] at h;obtain⟨⟨m,rfl,hm⟩,_⟩:=h;simp at hx;subst hx;exact⟨m,rfl,hm⟩
 |k::r,y::xs,h,i+1,x,hx=>by
  simp only[re] at h;obtain⟨m,h1,h2⟩:=Gz h.2 (i:=i) (x:=x) ak5;exact⟨m,aj8,h2⟩
 |[],_::_,h,i,x,hx=>by simp[re] at h
 |_::_,[],h,i,x,hx=>by simp[re] at h
def nB (d:Doc) (fs az:List Int):AV:= .lptr [.list (d.map Node.iv),.list (fs.map aC),.list (az.map aC)]
section
variable {P:Program} {G:Nat->Option (List IV)} [KN P G]
def T4 (d:Doc) (fs az:List Int) (hd:d.length<=B) (n:Nat) (x:Tree) (hL:x.rep d n) (hx:x.wt<=B)
  (hK:∀k∈x.kids,∀(m:Nat),k.rep d m->aj P G 115 [nB d fs az,.int .i64 m] k.av):aj P G 115 [nB d fs az,.int .i64 n] x.av:=by
 refine cO (cw 115 [.f 30 1 (.rw [.loc 6] []),.f 30 8 (.rw [] [.loc 6]),.b 26 .jf,.b 39 (.uJ (.loc 50) (.loc 6) 3),.f 36 6 (.rw [] [(.loc 50),(.loc 36)])]) ajL (by simp[ai,AV.aq,nB]) (by simp[AV.aq,Tree.av,ai]) ?_;obtain⟨tt,ss,aa,kk⟩:=x;simp only[Tree.rep] at hL;obtain⟨p,kd,p9,VT⟩:=hL;have aF:=(afY.1 p9).1;have hwx:=(Tree.mk tt ss aa kk).dL;simp only[Tree.kids,Tree.s,Tree.attrs] at hwx;have xx:=bO kk;have zd:=Gy VT;have QR:(d.map Node.iv)[n]?=some (⟨tt,ss,aa,p,kd⟩:Node).iv:=by rw[ago,p9];rfl
 simp only[↓aX,mX,seval,nB,eD,QR,iY,Node.ax,Node.cs];rw[ec];refine⟨_,_,jW (q:= .loc 6) (cs:=[.bool tt,.str ss,.list (aQ aa),.nil0]) (j:=3) (d:=50) (sz:=4) rfl rfl ajX ajN,?_⟩;simp only[↓aX,mX,seval];refine br (σ:={i:Nat // i<=kk.length}) (λ_=>[.loc 4,.loc 6,.loc 50]) (λ_ _=>false)
  (λq=>[(0,nB d fs az),(4,.ptr (.loc 4) 4 0 0),(6,.ptr (.loc 6) 4 0 0),(24,.list (kd.map aC)),(25,.int .i64 kk.length),(26,.int .i64 q.1)])
  (λq=>[(.loc 4,⟨4,[[.bool false,.str [],.nil0,.nil0]]⟩),(.loc 6,⟨4,[[.bool tt,.str ss,.list (aQ aa),.sl (.loc 50) 4 0 q.1]]⟩),(.loc 50,⟨4,ak (aM (kk.take q.1))⟩)])
  (λq=>kk.length - q.1) ⟨0,agO _⟩ (λ_=>rfl) (λq=>by simp[ai,AV.aq,nB]) ?_ ⟨[],?_⟩ ?_
 ·exact aa6
 ·refine⟨?_,?_,?_,ajS,λl _=>⟨id,λ_=>rfl⟩⟩
  ·exact ow
  ·simp[dp,aD,aH,put,zd,nB,fH]
  simp[eL,aD,ae,aP,aA,aH,ak,aM]
 rintro⟨i,hi⟩;rw[dq];simp only[↓aX,mX,seval,aR,aI];by_cases aF:i<kk.length
 ·rw[dT aF];obtain⟨k,wE⟩:=gE aF;have hw:=w1 i ajZ;obtain⟨m,hg,hm⟩:=Gz VT wE;simp only[↓aX,mX,seval,pz,hg,mi,eD,af9,aC,IV.cells];have hkm:=af3 wE;have hl4:(aM (kk.take i)).length=i:=by rw[ar,agA];omega
  have za:aM (kk.take (i+1))=aM (kk.take i)++[.agg [.bool k.text,.str k.s,.list (aQ k.attrs),.list (aM k.kids)]]:=amo
  refine⟨rfl,dG (hK k hkm m hm) ?_⟩;simp only[↓aX,mX,seval,Tree.av];rw[bX 4 72 36 50 (aM (kk.take i)) (.agg [.bool k.text,.str k.s,.list (aQ k.attrs),.list (aM k.kids)]) ajR hl4 rfl aj0 ajZ ajN ajN ajX];simp only[↓aX,mX,seval,hw];refine⟨akc,?_⟩;refine⟨⟨i+1,aF⟩,ajM,[(.loc 50,.loc 36)],?_⟩;refine⟨?_,?_,?_,ajS,?_⟩
  ·exact ow
  ·simp[dp,aD,aH,put,nB,iX]
  ·have hr:∀xs:List IV,aP (aD [(.loc 50,.loc 36)]) ⟨4,ak xs⟩=⟨4,ak xs⟩:=λxs=>aK _ _ _;simp[eL,aD,ae,aP,aA,aH,za];simp[ak,lG]
  exact dq5
 have je:i=kk.length:=ajK
 subst je;rw[show decide ((kk.length:Int)<(kk.length:Int))=false by simp];simp only[↓aX,mX,seval,agu];refine⟨4,aM kk,0,kk.length,[.bool tt,.str ss,.list (aQ aa),.sl (.loc 50) 4 0 kk.length],rfl,rfl,rfl,ajL,akD,gd _,?_⟩;simp only[↓aX,mX,seval,agj,af2 (show(aM kk).length<=kk.length by rw[ar];exact af6 _)];rfl
theorem QS (d:Doc) (fs az:List Int) (hd:d.length<=B):∀(m:Nat) (x:Tree),x.cC<=m->∀(n:Nat),x.rep d n->x.wt<=B->aj P G 115 [nB d fs az,.int .i64 n] x.av
 |0,x,h,_,_,_=>by have:=x.ca;omega
 |m+1,x,h,n,hL,hx=>by
  have hw:=x.dL;refine T4 d fs az hd n x hL hx λk hk n' hr=> ?_;have h1:=AE hk;obtain⟨i,hi⟩:=agE hk;have h2:=iS _ _ _ hi;exact QS d fs az hd m k (by rw[x.ff] at h;omega) n' hr ajK
end

mutual
theorem jh.rep {d:Doc}:∀(x:Tree) (n:Nat) (q:Int),jh d n q x->x.rep d n
 | .mk t s az ks,n,q,h=>by
  simp only[Tree.rep];exact⟨q,aG (n+1) ks,h.node,CM n q (.mk t s az ks) h ks [] (by rfl)⟩
theorem CM {d:Doc} (n:Nat) (q:Int) (x:Tree) (h:jh d n q x):∀(ks pre:List Tree),x.kids=pre++ks->re d (aG (n+1+aJ pre) ks) ks
 |[],_,_=>by simp[aG,re]
 |k::r,pre,e=>by
  simp only[aG,re];refine⟨⟨_,rfl,jh.rep k _ _ (h.Bm pre r k e)⟩,?_⟩;have:=CM n q x h r (pre++[k]) (by rw[e];simp);rw[dM] at this;simpa[aJ,agT] using this
end
def Rt (d:Doc):IS->Tree->Prop
 | .yl k,x=>x.rep d k
 | .new t,x=>x=t
theorem KZ {b:Bn}:∀{ks:List Int} {its:List IS} {xs:List Tree},dN (Rp b) ks its->dN (Rt b.nodes) its xs->re b.nodes ks xs
 |_,_,_,.nil,.nil=>by simp[re]
 |_,_,_,.cons (b:=i) h1 h2,.cons (b:=x) g1 g2=>by
  simp only[re];refine⟨?_,KZ h2 g2⟩;cases i with
  |yl j=>exact⟨j,h1,g1⟩
  |new t=>
  obtain⟨m,e,_,q,hl⟩:=h1;have g1:x=t:=g1
  grind [jh.rep]
theorem su (d:Doc):∀L:List Tree,dN (Rt d) (news L) L
 |[]=> .nil
 |x::r=>by simp only[news,agC];exact .cons rfl (su d r)
def YV {d:Doc} {l:List Op} {k:Nat} {x:Tree} (h:(x.bG l k).rep d k):dN (Rt d) (dC l k) (x.iH l k):=by
 rw[Tree.jI];refine kh (kh (su d _) ?_) (su d _);split
 ·exact su d _
 split
 ·exact .nil
 exact .cons h .nil
theorem K0 {d:Doc} {l:List Op}:∀(off:Nat) (ks:List Tree),(∀a x c,ks=a++x::c->(x.bG l (off+aJ a)).rep d (off+aJ a))->dN (Rt d) ((bC off ks).flatMap (dC l)) (turns l off ks)
 |_,[],_=>by simp[bC,turns];exact .nil
 |off,x::r,h=>by
  simp only[bC,turns];refine kh (YV (by simpa[aJ] using h [] x r rfl)) (K0 _ r λa z c e=> ?_)
  grind [aJ,agT]
theorem v8.rep {t:Tree} {l:List Op} {b:Bn} (h:v8 t l b):∀(m i:Nat) (q:Int) (y:Tree),y.cC<=m->Sub 0 (-1) t i q y->(y.bG l i).rep b.nodes i
 |0,_,_,y,hm,_=>by have:=y.ca;omega
 |m+1,i,q,y,hm,hy=>by
  obtain⟨ks,h1,h2⟩:=h.nd i q y hy;unfold Tree.bG;simp only[Tree.rep];refine⟨q,ks,h1,KZ h2 ?_⟩;unfold di;split
  ·exact .nil
  split
  ·exact .cons rfl .nil
  refine kh (kh (su _ _) (K0 _ _ λa x c e=> ?_)) (su _ _);have hc:=y.ff;rw[e,dM] at hc;simp only[aJ] at hc;exact v8.rep h m _ i x ajK (hy.trans (.Bm a c x e (.self _ _ _)))
def QT (n:Nat) (o:Op):Bool:=decide (o.target=(n:Int)/\(o.kind=9\/o.kind=10))
def CN (l:List Op) (n:Nat) (az:List Attr):bL l n az=(l.filter (QT n)).foldl i_ az:=by
 unfold bL;induction l generalizing az with
 |nil=>rfl
 |cons o r ih=>
 grind [QT,o8]
structure Alike (l l':List Op):Prop where
 k:∀k n,pj l' k n=pj l k n
 a:∀n,l'.filter (QT n)=l.filter (QT n)
section
variable {l l':List Op} (h:Alike l l')
include h
def Alike.aB (k:Int) (n:Nat):aB l' k n=Am.aB l k n:=by unfold Am.aB;rw[h.k]
def Alike.bZ (k:Int) (n:Nat):bZ l' k n=Am.bZ l k n:=by unfold Am.bZ;rw[h.k]
def Alike.fX (n:Nat) (s:Bs):fX l' n s=Am.fX l n s:=by unfold Am.fX;rw[h.k]
def Alike.fy (n:Nat) (s:Bs):fy l' n s=Am.fy l n s:=by unfold Am.fy;rw[h.k]
def Alike.bL (n:Nat) (az:List Attr):bL l' n az=Am.bL l n az:=by rw[CN,CN,h.a]
end
mutual
theorem Alike.iH {l l':List Op} (h:Alike l l'):∀(x:Tree) (off:Nat),x.iH l' off=x.iH l off
 | .mk t s az ks,off=>by simp only[Tree.iH,h.aB,h.bZ,h.fX,h.fy,h.bL,Alike.turns h ks (off+1)]
theorem Alike.turns {l l':List Op} (h:Alike l l'):∀(xs:List Tree) (off:Nat),turns l' off xs=turns l off xs
 |[],_=>by simp[Am.turns]
 |x::r,off=>by simp only[Am.turns,Alike.iH h x off,Alike.turns h r (off+x.cC)]
end
def Alike.bG {l l':List Op} (h:Alike l l') (x:Tree) (off:Nat):x.bG l' off=x.bG l off:=by
 unfold Tree.bG;simp only[h.aB,h.bZ,h.fX,h.fy,h.bL,h.turns]
def o_ (ph:Op->Int) (l:List Op):Nat->List Op
 |0=>[]
 |p+1=>o_ ph l p++l.filter λo=>ph o==(p:Int)
def dP (ph:Op->Int) (l:List Op) (p i:Nat):List Op:=o_ ph l p++(l.take i).filter λo=>ph o==(p:Int)
def GA (ph:Op->Int) (l:List Op) (p:Nat):dP ph l (p+1) 0=dP ph l p l.length:=by simp[dP,o_]
def GB {ph:Op->Int} {l:List Op} {p i:Nat} {o:Op} (ho:l[i]?=some o) (h:ph o≠(p:Int)):dP ph l p (i+1)=dP ph l p i:=by
 simp_all[dP,cn,ahd,List.filter_cons_of_neg]
def w8 {ph:Op->Int} {l:List Op} {p i:Nat} {o:Op} (ho:l[i]?=some o) (h:ph o=(p:Int)):dP ph l p (i+1)=dP ph l p i++[o]:=by
 grind [dP,cn]
def AJ (ph:Op->Int) (l:List Op) (p i:Nat):∃r,o_ ph l (p+1)=dP ph l p i++r:=by
 refine⟨(l.drop i).filter λo=>ph o==(p:Int),?_⟩
 grind [dP,o_,agM,ahd,agD]
theorem vI {ph:Op->Int} {l:List Op}:∀{p:Nat} {o:Op},o∈o_ ph l p->o∈l/\ph o<(p:Int)
 |0,o,h=>by simp[o_] at h
 |p+1,o,h=>by
  simp[o_,agi,ahB,ag9] at h;rcases h with h|⟨h,e⟩
  ·obtain⟨h1,h2⟩:=vI h;exact⟨h1,ajK⟩
  grind
theorem x5 (ph:Op->Int) (l:List Op):∀p:Nat,(o_ ph l p).Pairwise λa b=>ph a<=ph b
 |0=>by simp[o_]
 |p+1=>by
  rw[o_,ahU];refine⟨x5 ph l p,?_,λa ha b hb=> ?_⟩
  ·grind [List.pairwise_of_forall,ahB]
  have:=(vI ha).2
  grind
theorem w9 (ph:Op->Int) (l:List Op) (h0:∀o∈l,0<=ph o):∀p:Nat,(o_ ph l p).Perm (l.filter λo=>decide (ph o<(p:Int)))
 |0=>by
  rw[show(l.filter λo=>decide (ph o<((0:Nat):Int)))=[] from ahz.2 λo ho=>by have:=h0 o ho;simp;omega];rfl
 |p+1=>by
  rw[o_];have h1:=List.filter_append_perm (λo=>decide (ph o<(p:Int))) (l.filter λo=>decide (ph o<((p+1:Nat):Int)));rw[ai5,ai5] at h1;refine((w9 ph l h0 p).append_right _).trans (.trans (.of_eq ?_) h1);congr 1
  ·refine aja λo _=> ?_;by_cases h:ph o<(p:Int)
   ·simp;omega
   simp[h]
  refine aja λo _=> ?_;rw[agP];simp;omega
theorem rf {ph:Op->Int} {l:List Op} (c:Op->Bool) (P:Int) (hc:∀o∈l,c o=true->ph o=P):∀p:Nat,(o_ ph l p).filter c=if 0<=P/\P<(p:Int) then l.filter c else []
 |0=>by simp[o_];omega
 |p+1=>by
  rw[o_,ahd,rf c P hc p,ai5];by_cases h1:P=(p:Int)
  ·rw[af8 ajK,agc ajK];refine aja λo ho=> ?_;simp_all
  have:(l.filter λo=>c o&&(ph o==(p:Int)))=[]:=by
   simp_all
  grind

def kC (k:Int):Bool:=decide (k<=4)||k==6
def kN (k:Int):Bool:=decide (8<=k)
def kT (k:Int):Bool:=k==7||k==9
def kB (k:Int):Bool:=decide (3<=k)&&decide (k<=6)
def om (x:Node) (o:Op):Int:=
 if(if kC o.kind then !content o.content else decide ((o.content.length:Int)>0)) then 1
 else if(if kN o.kind then !named o.name else o.name !=[]) then 1
 else if(if kT o.kind then !plain o.s else o.s !=[]) then 1
 else if kB o.kind&&decide (x.parent<0) then 6
 else if x.text&&(!kB o.kind&&o.kind !=7) then 4 else 0
def tQ:=And.intro @ge_iff_le.{0} (And.intro @gt_iff_lt.{0} (And.intro ag3 (And.intro ag4 (And.intro @ar (And.intro Op.av.eq_1 (And.intro Node.av.eq_1 (And.intro @List.length_cons.{0} (And.intro @List.length_nil.{0} (And.intro af4 af1)))))))))
set_option maxHeartbeats 4000000 in
def T5 {P:Program} {G:Nat->Option (List IV)} [KN P G] (x:Node) (k ta:Int) (co:List Tree) (na st:Bs)
  (hC:aj P G 57 [.list (aM co)] (.bool (content co))) (hN:aj P G 88 [.str na] (.bool (named na))) (hP:aj P G 55 [.str st] (.bool (plain st)))
  (hk:k=1\/k=2\/k=3\/k=4\/k=5\/k=6\/k=7\/k=8\/k=9\/k=10) :
  aj P G 183 [x.av,(⟨k,ta,co,na,st⟩:Op).av] (.int .i64 (om x ⟨k,ta,co,na,st⟩)):=by
 refine au (cw 183 []) ajL (by simp[ai,AV.aq,Op.av,Node.av]) ajP ?_;rcases hk with rfl|rfl|rfl|rfl|rfl|rfl|rfl|rfl|rfl|rfl
 all_goals
  simp only[↓aX,mX,seval,Int.reduceBEq,Int.reduceBNe,tQ]
  repeat' (first
   |(refine ah hC ?_;simp only[↓aX,mX,seval,Int.reduceBEq,Int.reduceBNe,tQ])
   |(refine ah hN ?_;simp only[↓aX,mX,seval,Int.reduceBEq,Int.reduceBNe,tQ])
   |(refine ah hP ?_;simp only[↓aX,mX,seval,Int.reduceBEq,Int.reduceBNe,tQ])
   |(refine j7 (λh=> ?_) (λh=> ?_)<;>try simp only[h,↓aX,mX,seval,Int.reduceBEq,Int.reduceBNe,tQ])
   |(refine Xg (λh=> ?_) (λh=> ?_)<;>try simp only[h,↓aX,mX,seval,Int.reduceBEq,Int.reduceBNe,tQ]))
  all_goals simp_all[om,kC,kN,kT,kB]
def YW {P:Program} {G:Nat->Option (List IV)} [KN P G] (x:Node) (o:Op) (h1:1<=o.kind) (h2:o.kind<=10)
  (hC:aj P G 57 [.list (aM o.content)] (.bool (content o.content))) (hN:aj P G 88 [.str o.name] (.bool (named o.name))) (hP:aj P G 55 [.str o.s] (.bool (plain o.s))) :
  aj P G 183 [x.av,o.av] (.int .i64 (om x o)):=by
 obtain⟨k,ta,co,na,st⟩:=o;simp only at h1 h2 hC hN hP;have h:k=1\/k=2\/k=3\/k=4\/k=5\/k=6\/k=7\/k=8\/k=9\/k=10:=ajK
 exact T5 x k ta co na st hC hN hP h

section
variable {K:Kx} {β:Lb->Option Nat} {env:Env} {H:Hp} {a:Act} {w:World}
def T6 (hr:aO K β env H a w) {l:Lb} {sz:Nat} {y:IV} {v:Value} (hl:H l= .live ⟨sz,ak [y]⟩) (hf:l.fresh=true) (ux:Flat [y])
  (hv:RV w β H (Im K β H) (.ptr l sz 0 0) v):RV w β (aS H l .dead) (Im K β (aS H l .dead)) (.lptr y.cells) v:=by
 have aT:∀q,live (aS H l .dead) q->live H q/\q≠l:=by
  rintro q ⟨r,h⟩;by_cases e:q=l
  ·subst e;simp at h
  rw[an _ _ e] at h;exact⟨⟨r,h⟩,e⟩
 have hk:jt w w (Im K β H) (Im K β (aS H l .dead)):=⟨λk hk hs=>⟨⟨hk.1,λq hq=>hk.2 q (aT q hq).1⟩,hs,rfl⟩⟩;simp only[RV] at hv;obtain⟨ad,rfl,h5⟩:=hv;obtain⟨g,e1,e2⟩:=h5 ⟨_,hl⟩;simp only[ahM,ahs] at e2;obtain⟨cur,e0,cap,k1,k2,k3,k4,k5⟩:=(hr.rows l _ hl).block e1;have Od:Im K β (aS H l .dead) g:=⟨.inr (hr.fr l g ⟨_,hl⟩ hf e1),λq hq hb=>(aT q hq).2 (hr.inj q l g (aT q hq).1 ⟨_,hl⟩ hb e1)⟩;simp only[RV];refine⟨g,0,by rw[e2],Od,(agS.1 k1).1,kI _ _ _ (λj z hz=> ?_)⟩;obtain⟨u,q1,q2⟩:=k5 0 j (y.cells.map IV.dw) z.dw alL akI;refine⟨u,?_,zg hk (ux y ajL z (af3 hz)) q2⟩;rw[cell_of_row w g _ cur e0 (0,0) k1,<-q1];congr 1;omega
end
def rh {S:St} {env:Env} {H:Hp} {l:Lb} {sz d:Nat} {y:IV} (hd:env d= .ptr l sz 0 0) (hl:H l= .live ⟨sz,ak [y]⟩) (hf:l.fresh=true) (ux:Flat [y]) :
  eE S env H (put env d (.lptr y.cells)) (aS H l .dead):=by
 intro K β a w _ _ hr;have hv:=hr.jc d;rw[hd] at hv;exact⟨β,yG (hr.kill l (by rw[hl];simp)) d (T6 hr hl hf ux hv) ajP⟩
end Go.Am

set_option maxRecDepth 20000
namespace Go.Am
open Go Go.RowKit
noncomputable def db (d:Doc) (o:Op):Int:=
 if bQ d=true then(if o.kind<1\/10<o.kind then 4 else if o.target<0\/(d.length:Int)<=o.target then 3 else match d[o.target.toNat]? with|some x=>om x o|none=>3) else 1
section
variable {P:Program} {G:Nat->Option (List IV)} [KN P G]
def GC (d:Doc) (o:Op) (hG:aj P G 72 [Doc.av d] (.bool (bQ d)))
  (hW:∀x:Node,1<=o.kind->o.kind<=10->aj P G 183 [x.av,o.av] (.int .i64 (om x o))) :
  aj P G 152 [Doc.av d,o.av] (.int .i64 (db d o)):=by
 refine au (cw 152 [.f 34 1 (.rw [(.loc 2)] []),.f 34 3 (.rw [(.loc 3)] []),.f 34 6 (.rw [(.loc 3)] [])]) ajL alh ajP ?_;simp only[↓aX,mX,seval,Op.av,Doc.av];refine ah hG ?_;unfold db;cases hd:bQ d with
 |false=>simp only[↓aX,mX,seval,af1];try rfl
 |true=>
 simp only[↓aX,mX,seval,af4,Op.av,Doc.av];cases h1:decide (o.kind<1) with
 |true=>
  simp only[↓aX,mX,seval,h1,Op.av,Doc.av];have:o.kind<1:=aj8
  simp[this]
 |false=>
 simp only[↓aX,mX,seval,h1,Op.av,Doc.av,aiF];cases h2:decide (10<o.kind) with
 |true=>
  simp only[↓aX,mX,seval,h1,h2,Op.av,Doc.av];have:10<o.kind:=akN
  simp[this]
 |false=>
 simp only[↓aX,mX,seval,h1,h2,Op.av,Doc.av];have k1:¬o.kind<1:=aj8
 have k2:¬10<o.kind:=akN
 cases h3:decide (o.target<0) with
 |true=>
  simp only[↓aX,mX,seval,h1,h2,h3,Op.av,Doc.av];have:o.target<0:=ak6
  simp[k1,k2,this]
 |false=>
 simp only[↓aX,mX,seval,h1,h2,h3,Op.av,Doc.av,ah1,eD];have k3:¬o.target<0:=ak6
 cases h4:decide ((d.length:Int)<=o.target) with
 |true=>
  simp only[↓aX,mX,seval,h1,h2,h3,h4,Op.av,Doc.av];have:(d.length:Int)<=o.target:=amR
  simp[k1,k2,k3,this]
 |false=>
 have k4:¬(d.length:Int)<=o.target:=amR
 obtain⟨x,hx⟩:∃x,d[o.target.toNat]?=some x:=⟨_,af7 ajK⟩;have QR:(d.map Node.iv)[o.target.toNat]?=some x.iv:=anY
 have k5:0<=o.target:=ajK
 simp only[↓aX,mX,seval,h1,h2,h3,h4,Op.av,Doc.av,k5,QR,iY,Node.ax,Node.cs];refine⟨rfl,dG (hW x ajK ajK) ?_⟩;simp only[↓aX,mX,seval];simp[k1,k2,k3,k4,hx]
def T7 (a b:Op) (hA:aj P G 155 [a.av,b.av] (.bool (bK a b))) :
  aj P G 154 [b.av,.lptr a.cs] (.bool (bK a b)):=by
 refine au (cw 154 []) ajL amV ajP ?_;simp only[↓aX,mX,seval,Op.av,Op.cs];refine ah hA ?_;simp only[↓aX,mX,seval]
def GD {α:Type} (p:α->Bool) (l:List α):Int:=match l.findIdx? p with|some k=>(k:Int)|none=> -1
def T8 {α:Type} {p:α->Bool} {xs:List α} {k:Nat} {x:α} (h:xs[k]?=some x) (hx:p x=true) (hb:∀j y,j<k->xs[j]?=some y->p y=false):GD p xs=k:=by
 have:xs.findIdx? p=some k:=by
  rw[ah_];obtain⟨hk,e⟩:=afY.1 h;refine⟨hk,by rw[e];exact hx,λj hj=> ?_⟩;have h2:=hb j xs[j] hj (af7 ajK);simp[h2]
 rw[GD,this]
def M0 {α:Type} {p:α->Bool} {xs:List α} (h:∀x∈xs,p x=false):GD p xs= -1:=by
 have:xs.findIdx? p=none:=aiC.2 λx hx=>by rw[h x hx]
 rw[GD,this]
def QU {α:Type} {p:α->Bool} {xs:List α}:decide (GD p xs>=0)=xs.any p:=by
 unfold GD;cases h:xs.findIdx? p with
 |none=>
  rw[aiC] at h;have:xs.any p=false:=by rw[List.any_eq_false];intro x hx;rw[h x hx];simp
  rw[this];decide
 |some k=>
 rw[ah_] at h;obtain⟨hk,e,_⟩:=h;have:xs.any p=true:=List.any_eq_true.2 ⟨_,ahY hk,e⟩;rw[this];simp
def GF {fc:Nat} {cs:List IV} (l:List Op) (hx:l.length<=B) (p:Op->Bool) (hb:dE P fc=true) (hC:∀b∈l,aj P G fc [b.av,.lptr cs] (.bool (p b))) :
  aj P G 184 [.list (l.map Op.iv),.fn fc [] [.lptr cs]] (.int .i64 (GD p l)):=by
 refine au (cw 184 []) ajL ajO ajP ?_;have gV:B=1073741824:=rfl;simp only[↓aX,mX,seval,eD];refine dj (σ:={i:Nat // i<=l.length/\∀j y,j<i->l[j]?=some y->p y=false}) (λq=>[(0,.list (l.map Op.iv)),(1,.fn fc [] [.lptr cs]),(7,.int .i64 l.length),(8,.int .i64 q.1)]) (λq=>l.length - q.1) ⟨0,ajL⟩ (λ_=>rfl) ?_ ?_
 ·exact qi
 rintro⟨i,hi,hs⟩;simp only[↓aX,mX,seval,eD];by_cases aF:i<l.length
 ·rw[dT aF];obtain⟨x,nE⟩:=gE aF;have hw:=w1 i;simp only[↓aX,mX,seval,zo,nE,af9,xH,Op.ax,Op.cs,aU,bD,hb];refine ah (hC x (af3 nE)) ?_
  try simp only[↓aX,mX,seval]
  refine j7 (λh=> ?_) (λh=> ?_)
  ·try simp only[↓aX,mX,seval]
   rw[T8 nE h hs]
  simp only[↓aX,mX,seval,hw];refine⟨⟨i+1,aF,λj y hj hy=> ?_⟩,ajM,rfl⟩;by_cases e:j=i
  ·rw[e,nE] at hy;cases hy;exact h
  exact hs j y ajK hy
 rw[dF aF];simp only[↓aX,mX,seval];rw[M0 λx hx=>by
  obtain⟨j,hj⟩:=agE hx;exact hs j x (by have:=(afY.1 hj).1;omega) hj]
def IW {fc:Nat} {cs:List IV} (l:List Op) (p:Op->Bool)
  (hI:aj P G 184 [.list (l.map Op.iv),.fn fc [] [.lptr cs]] (.int .i64 (GD p l))) :
  aj P G 153 [.list (l.map Op.iv),.fn fc [] [.lptr cs]] (.bool (l.any p)):=by
 refine au (cw 153 []) ajL ajO ajP ?_;simp only[↓aX,mX,seval];refine ah hI ?_;simp only[↓aX,mX,seval,QU]
def jq:List Op->List Op->Bool
 |_,[]=>false
 |pre,a::r=>pre.any (bK a)||jq (pre++[a]) r
noncomputable def dn (d:Doc) (l:List Op):Int:=
 if bQ d=true then(if 20<l.length then 2 else match l.find? (λo=>db d o !=0) with|some o=>db d o|none=>if jq [] l then 5 else 0) else 1
def YX (d:Doc) (l:List Op) (hl:l.length<=B) (hG:aj P G 72 [Doc.av d] (.bool (bQ d)))
  (hO:∀o∈l,aj P G 152 [Doc.av d,o.av] (.int .i64 (db d o)))
  (hC:∀a i,l[i]?=some a->aj P G 153 [.list ((l.take i).map Op.iv),.fn 154 [] [.lptr a.cs]] (.bool ((l.take i).any (bK a)))) :
  aj P G 112 [Doc.av d,.list (l.map Op.iv)] (.int .i64 (dn d l)):=by
 refine au (cw 112 [.b 36 .jf]) ajL alh ajP ?_;have gV:B=1073741824:=rfl;simp only[↓aX,mX,seval,Op.av,Doc.av];refine ah hG ?_;unfold dn;cases hd:bQ d with
 |false=>simp only[↓aX,mX,seval,af1];try rfl
 |true=>
 simp only[↓aX,mX,seval,af4,Op.av,Doc.av,eD,aiF];cases h1:decide ((20:Int)<(l.length:Int)) with
 |true=>
  simp only[↓aX,mX,seval];have:20<l.length:=alj
  simp[this]
 |false=>
 simp only[↓aX,mX,seval,eD];have k1:¬20<l.length:=alj
 rw[af8 k1];refine br (σ:={i:Nat // i<=l.length/\∀o∈l.take i,db d o=0}) (λ_=>[.loc 2]) (λ_ _=>false)
  (λq=>[(1,.list (l.map Op.iv)),(2,.ptr (.loc 2) 1 0 0),(16,.list (l.map Op.iv)),(17,.int .i64 l.length),(18,.int .i64 q.1)])
  (λq=>[(.loc 2,⟨1,[[.list (d.map Node.iv)]]⟩)]) (λq=>l.length - q.1) ⟨0,ajL⟩ (λ_=>rfl) (λq=>by simp[ai,AV.aq]) ?_ ⟨[],?_⟩ ?_
 ·exact abq
 ·exact abg
 rintro⟨i,hi,hs⟩;rw[dq];simp only[↓aX,mX,seval,aR,aI,eD];by_cases aF:i<l.length
 ·exact dq7
 have je:i=l.length:=ajK
 rw[dF aF];have hf:l.find? (λo=>db d o !=0)=none:=by
  rw[ajF];intro a ha;rw[je,agu] at hs;simp[hs a ha]
 rw[hf];simp only[↓aX,mX,seval,eD];refine dj (σ:={j:Nat // j<=l.length/\jq [] l=jq (l.take j) (l.drop j)}) (λq=>[(1,.list (l.map Op.iv)),(29,.list (l.map Op.iv)),(30,.int .i64 l.length),(31,.int .i64 q.1)]) (λq=>l.length - q.1) ⟨0,ajL⟩ (λ_=>by simp[ai,AV.aq]) ?_ ?_
 ·exact XP
 rintro⟨j,hj,pN⟩;simp only[↓aX,mX,seval,eD];by_cases iw:j<l.length
 ·rw[dT iw];obtain⟨o,ho⟩:=gE iw;have hw:=w1 j;simp only[↓aX,mX,seval,zo,ho,af9,xH,Op.ax,Op.cs,ec];refine⟨_,_,rh (d:=9) (l:= .loc 9) (sz:=5) (y:=o.iv) ak0 (by simp[ae];rfl) rfl (QB [o]),?_⟩;have Mv:((l.map Op.iv).take j).drop 0=(l.take j).map Op.iv:=by rw[agj,ahH]
  have ig:l.take (j+1)=l.take j++[o]:=cn ho;simp only[↓aX,mX,seval,Op.ax,nH,nG,iz,xH,eD,hj,af5,af0,agR,agO,Mv,ahG];have hc:=hC o j ho;refine ah hc ?_;have Ml:jq (l.take j) (l.drop j)=((l.take j).any (bK o)||jq (l.take (j+1)) (l.drop (j+1))):=by
   rw[drop_eq ho,ig];rfl
  cases h0:(l.take j).any (bK o) with
  |true=>
   simp only[↓aX,mX,seval];rw[pN,Ml,h0];simp
  |false=>
  simp only[↓aX,mX,seval,hw];refine⟨⟨j+1,iw,by rw[pN,Ml,h0];simp⟩,ajM,rfl⟩
 rw[dF iw];have kE:j=l.length:=ajK
 simp only[↓aX,mX,seval];rw[pN,kE];simp[jq]
end

section
variable {S:St} {f:Nat} {args:List AV} {sz:Nat} {xs:List IV} {H:Hp} {k:AV->Hp->Prop} {u:Tw k}
def M1 (c:Nat) (h:DI S.P S.G f args sz xs) (ha:ai args=[]) (hN:∀l,H (NW c l)= .unused)
  (hk:∀l,k (.sl (NW c l) sz 0 xs.length) (aS H (NW c l) (.live ⟨sz,ak xs⟩))):Hm S f args H k u:=by
 refine gZ (lab:=Lb.par) (N:=NW c) h (h_ _ _ ha).symm ⟨λp r hr=>by simp[BL] at hr,λp q hp=>absurd hp j_⟩ hN (DH c) (λl _=> .inr λp hp=>absurd hp j_) ajL ?_;rintro X R2 cm H2 ⟨rfl,rfl⟩ g1 g2 g3 g4 g5 g6;obtain⟨l,hl⟩:∃l,cm 0=NW c l:=by
  rcases g3 0 (iN.2 rfl) with⟨p,hp,_⟩|h
  ·exact absurd hp j_
  exact h
 have e:H2=aS H (NW c l) (.live ⟨sz,ak xs⟩):=by
  funext q;by_cases hq:q=NW c l
  ·subst hq;rw[ae,agc rfl,<-hl];exact g1.row 0 _ (by simp[wa])
  exact Wb
 rw[e];have:=hk l;simpa only[hl] using this
def K1 {F:List Lb} (c:Nat) (h:DI S.P S.G f args sz xs) (ha:ai args=[]) (hN:∀l,H (NW c l)= .unused) (hF:Lb.nest (.loc c) 0 1∉F)
  (hk:∀l,k (.sl (NW c l) sz 0 xs.length) (aS H (NW c l) (.live ⟨sz,ak xs⟩))):OX S F f args H k u:=by
 refine⟨λx H'=>∃l,x= .sl (NW c l) sz 0 xs.length/\H'=aS H (NW c l) (.live ⟨sz,ak xs⟩),?_,⟨_,_,.loc 0,rfl,rfl⟩,?_⟩
 ·exact M1 (k:=λx H'=>∃l,x= .sl (NW c l) sz 0 xs.length/\H'=aS H (NW c l) (.live ⟨sz,ak xs⟩)) (u:= .mk) c h ha hN λl=>⟨l,rfl,rfl⟩
 rintro x H' ⟨l,rfl,rfl⟩;refine⟨λq hq=> ?_,hk l⟩;rw[an];rintro rfl;exact hF hq
def IX {env:Env} (R W:List Lb) (q:Nat) (n c:O) (sz b:Nat) (z:List AV) (k:AV->Hp->Prop):bR S (.rw R W) (some q) (.RZ n c sz b z) env H k =
  pK (zf sz b q z (ev env n) (ev env c) H) (λy H'=>Lb.loc q∈W/\k y H') .mk:=by
 simp[bR,jx,cZ,bj,pK,Lb.ix]
def K2 {sz b d m:Nat} {z:List AV} (hb:m*b<=140737488355328) (hu:H (.loc d)= .unused) :
  zf sz b d z (.int .i64 (m:Int)) (.int .i64 (m:Int)) H=some (.sl (.loc d) sz 0 m,aS H (.loc d) (.live ⟨sz,List.replicate m z⟩)):=by
 simp[zf,hu,hb]
end
end Go.Am
