import Derived.Test.YtfeijflhfhkbnaaGreatDoorKAm1S
import Derived.Laws.AppendOwn
import Derived.Laws.IdiomStrings
import Derived.Laws.BytesString
set_option linter.all false
/- THE ABSTRACT MACHINE, part 7: structs made, boxed, loaded from memory that nobody writes. -/
namespace Go.Am
open Go Go.RowKit
theorem uu (off:Nat):∀(l:List Value) (k:Nat) (arr:Array Value),off+k+l.length<=arr.size ->
  ((l.zipIdx k).foldl (λcs (p:Value×Nat)=>cs.setIfInBounds (off+p.2) p.1) arr).toList=arr.toList.take (off+k)++l++arr.toList.drop (off+k+l.length)
 |[],k,arr,h=>by simp
 |v::r,k,arr,h=>by
  simp at h;simp;rw[uu off r (k+1) (arr.setIfInBounds (off+k) v) ajV];simp;rw[show off+(k+1)+r.length=off+k+(r.length+1) by omega,show off+(k+1)=off+k+1 by omega];have aF:off+k<arr.toList.length:=ajV
  have h1:(arr.toList.set (off+k) v).take (off+k+1)=arr.toList.take (off+k)++[v]:=by
   have hl:(arr.toList.take (off+k)).length=off+k:=ajV;rw[List.take_set,List.take_succ_eq_append_getElem aF,ahr _ _ ajK,hl,ahc];rfl
  grind [List.drop_set_of_lt]
section
variable {w:World} {β:Lb->Option Nat} {H:Hp} {I:Nat->Prop}
def bA.wb {x:AV} {v:Value} (h:RV w β H I x v) (hx:(∃cs,x= .agg cs)\/x.one=true):v.cells.size=x.cells.length/\bA w β H I x.cells v.cells.toList:=by
 have h2:bA w β H I x.cells v.cells.toList:=RV.cells h (λ_ _=>trivial) (by
  rcases hx with hx|hx
  ·grind
  exact .inr (RV.ur h hx))
 exact⟨by rw[<-bA.len _ _ h2];simp,h2⟩
def AV.HB {x:AV} (h:x.Bq=true):(∃cs,x= .agg cs)\/x.one=true:=by
 cases x<;>first|exact .inl ⟨_,rfl⟩|exact .inr (by simpa[AV.Bq] using h)
inductive dN {α γ:Type} (R:α->γ->Prop):List α->List γ->Prop
 |nil:dN R [] []
 |cons {a:α} {b:γ} {l:List α} {m:List γ}:R a b->dN R l m->dN R (a::l) (b::m)
theorem uv (place:Nat->Option (Nat×Nat)):∀(ps:List (Nat×Value)) (qs:List (Nat×Nat×AV)) (cs fB:List AV) (cur:Array Value),
  bA w β H I cs cur.toList->gF cs qs=some fB ->
  dN (λ(p:Nat×Value) (q:Nat×Nat×AV)=>place p.1=some (q.1,q.2.1)/\RV w β H I q.2.2 p.2) ps qs ->
  ∃cur',Instr.fill place cur ps=some cur'/\bA w β H I fB cur'.toList
 |[],qs,cs,fB,cur,h,hf,ha=>by
  cases ha;simp[gF,afZ] at hf;subst hf;exact⟨cur,rfl,h⟩
 |p::ps,qs,cs,fB,cur,h,hf,ha=>by
  cases ha with
  |@cons _ q _ qs hq hqs=>
  obtain⟨off,sz,x⟩:=q;obtain⟨i,v⟩:=p;obtain⟨h1,h2⟩:=hq;simp only at h1 h2;simp only[gF] at hf;split at hf
  ·rename_i j9;obtain⟨h3,j9⟩:=j9;obtain⟨k1,k2⟩:=bA.wb h2 (AV.HB h3);have hlen:cur.size=cs.length:=(by rw[<-bA.len _ _ h];simp);have Lv:¬(v.cells.size≠sz||decide (off+v.cells.size>cur.size))=true:=by
    simp;omega
   have vZ:=uu off v.cells.toList 0 cur ajV;simp only[ahs] at vZ;obtain⟨cur',e1,e2⟩:=uv place ps qs _ fB (v.cells.zipIdx.foldl (λcs (p:Value×Nat)=>cs.setIfInBounds (off+p.2) p.1) cur) (by
    rw[<-Array.foldl_toList,Array.toList_zipIdx,vZ];have:v.cells.toList.length=sz:=ajV;rw[this];exact bA.append _ _ _ _ (bA.append _ _ _ _ (bA.take _ _ _ h) k2) (bA.drop _ _ _ h)) hf hqs
   refine⟨cur',?_,e2⟩;simp only[Instr.fill,h1];rw[af8 Lv];exact e1
  simp at hf
end
section
variable {K:Kx} {β:Lb->Option Nat} {env:Env} {H:Hp} {a:Act} {w:World}
def pV {P:Program} {t:TypeId} {m:Nat} (hm:Sr P t=some (some m)) (ad:Addr) (cs:List Value) (hl:cs.length=m)
  (h:∀j v,cs[j]?=some v->w.cell? (ad.add j)=some v):(loadVar t ad).run P w= .ok (.agg cs.toArray) w:=by
 have hu:(isAgg t).run P w= .ok true w/\Be P t=some m:=by
  unfold Sr at hm;split at hm
  ·rename_i fs hfs;obtain⟨s,h1,h2⟩:=acF.1 hm;cases h2;exact⟨am_,h1⟩
  ·rename_i n e hfs;obtain⟨s,h1,h2⟩:=acF.1 hm;cases h2;exact⟨am_,h1⟩
  ·grind
  grind
 subst hl;simp[loadVar,hu.1,dy hu.2,run_loadCells_list (P:=P) w ad cs h]
def pX {P:Program} {t:TypeId} (hm:Sr P t=some none) (ad:Addr) (v:Value) (h:w.cell? ad=some v):(loadVar t ad).run P w= .ok v w:=by
 have hu:(isAgg t).run P w= .ok false w:=by
  unfold Sr at hm;split at hm
  ·simp at hm
  ·simp at hm
  ·rename_i d h1 h2 hd;have Ep:∀f,d≠ .struct f:=λf e=>h1 f e;have h2':∀n e,d≠ .array n e:=λn e q=>h2 n e q;cases d<;>simp[isAgg,run_underlying hd]
   ·grind
   grind
  grind
 simp[loadVar,hu,h]
theorem pn:∀(cs:List IV),ai (cs.map IV.dw)=[]
 |[]=>by simp[ai]
 |x::r=>by
  simp only[agC,ai,pn r];cases x<;>simp[IV.dw,AV.aq]
theorem xq {w:World} {I:Nat->Prop}:∀(n:Nat) (cs:List IV) (b o:Nat),b7 w I cs b o->b7 w I (cs.take n) b o
 |0,_,_,_,_=>by simp[b7]
 |n+1,[],_,_,_=>by simp[b7]
 |n+1,x::r,b,o,h=>by
  simp_all[b7,ahA,xq]
def Sv (hr:aO K β env H a w) {o:Oper} {t:TypeId} {x:Operand} {x':O} {m:Option Nat} (ho:o.op= .load t x) (hm:Sr K.P t=some m) (hx:co K.G x=some x') {y:AV}
  (hy:aw (.load m x') env=some y):a7 K β H a w o y:=by
 have h:=hr.ev hx;simp only[aw] at hy;split at hy
 ·rename_i cs e;rw[e] at h;obtain⟨b,of,h1,h2,h3,h4⟩:=h;obtain⟨vs,k1,k2,k3⟩:=bA.C6 (β:=β) (H:=H) cs b of h4;have run:∀v,(loadVar t ⟨b,of,none⟩).run K.P w= .ok v w->(execOp a.eval o).run K.P w= .ok (.value v) w:=by
   intro v hv;simp[execOp,ho,h1,Instr.loadAt,Instr.sureAddr,hv]
  cases m with
  |none=>
   simp at hy;obtain⟨z,hz,rfl⟩:=hy;obtain⟨v,e1,e2⟩:=bA.get _ _ 0 (z.dw) k1 ajV;refine a7.same (run v (pX hm _ _ ajV)) e2 ?_;cases z<;>simp[IV.dw,AV.aq]
  |some k=>
  simp only at hy;split at hy
  ·rename_i hk;simp only[afZ] at hy;subst hy;refine a7.same (run (.agg (vs.take k).toArray) (pV hm _ _ ajV (λj v hj=> ?_))) ?_ ?_
   ·grind [agG,addr_add]
   ·grind [RV,ahH,bA.take]
   grind [AV.aq,pn]
  grind
 grind
def aO.fresh (hr:aO K β env H a w):Im K β H w.heap.size:=by
 refine⟨.inr hr.frame.size,λl hl hb=> ?_⟩;obtain⟨r,qf⟩:=hl;obtain⟨_,_,h3⟩:=hr.rows l r qf
 grind
def iA (w:World) (o:Obj):oB w (w.alloc o):=(Below.refl _ _).alloc (af6 _) o
def wc (w:World):oB w w.drew:=(Below.refl _ _).drew
def HC (w:World) (c:Array Value) (e:TypeId) (j:Nat):(w.alloc (.cells c e)).cell? ⟨w.heap.size,j,none⟩=c[j]?:=by
 simp
theorem mU:∀(l:List Value) (xs:List AV),y7 l=some xs->∀(w:World) (β:Lb->Option Nat) (H:Hp) (I:Nat->Prop),bA w β H I xs l
 |[],xs,h,w,β,H,I=>by simp[y7] at h;subst h;simp[bA]
 |v::r,xs,h,w,β,H,I=>by
  simp[y7,afX,acF] at h;obtain⟨x,h1,s,h2,rfl⟩:=h;exact⟨v,r,rfl,Vc h1 _ _ _ _,mU r s h2 w β H I⟩
theorem y9 (z:Array Value) (zs:List AV) (w:World) (β:Lb->Option Nat) (H:Hp) (I:Nat->Prop) (h:bA w β H I zs z.toList) (hz:0<z.size):∀n:Nat,
  bA w β H I ((List.replicate n zs).flatten) ((Array.range (n*z.size)).map (λi=>z[i%z.size]!)).toList
 |0=>by simp[bA]
 |n+1=>by
  have ih:=y9 z zs w β H I h hz n;have e1:(List.replicate (n+1) zs).flatten=(List.replicate n zs).flatten++zs:=by
   simp[List.replicate_succ']
  have e2:((Array.range ((n+1)*z.size)).map (λi=>z[i%z.size]!)).toList=((Array.range (n*z.size)).map (λi=>z[i%z.size]!)).toList++z.toList:=by
   simp;rw[ag0,List.range_add,ag2];congr 1;apply List.ext_getElem
   ·simp
   simp_all[Nat.mod_eq_of_lt]
  grind [bA.append]
theorem s8 (hr:aO K β env H a w) (place:Nat->Option (Nat×Nat)):∀(ps:List (Nat×Operand)) (xs:List O) (qs:List (Nat×Nat×O)),cos K.G (ps.map (·.2))=some xs ->
  qs.length=ps.length->(∀(i:Nat) (p:Nat×Operand) (x:O) (q:Nat×Nat×O),ps[i]?=some p->xs[i]?=some x->qs[i]?=some q->q.2.2=x/\place p.1=some (q.1,q.2.1)) ->
  dN (λ(p:Nat×Value) (q:Nat×Nat×AV)=>place p.1=some (q.1,q.2.1)/\RV w β H (Im K β H) q.2.2 p.2)
   (ps.map λp=>(p.1,a.eval p.2)) (qs.map λq=>(q.1,q.2.1,ev env q.2.2))
 |[],xs,qs,h,hl,hp=>by
  have:qs=[]:=agU ajV;subst this;exact .nil
 |p::ps,xs,qs,h,hl,hp=>by
  cases qs with
  |nil=>simp at hl
  |cons q qs=>
  simp[agC,cos,afX,acF] at h;obtain⟨y,h1,s,h2,rfl⟩:=h;obtain⟨k1,k2⟩:=hp 0 p y q ajL ajL ajL;simp;refine .cons ⟨k2,?_⟩ (s8 hr place ps s qs h2 ajV
   (λi p' x' q' g1 g2 g3=>hp (i+1) p' x' q' ajV (by simpa using g2) anP))
  simp only;rw[k1];exact hr.ev h1
def Lw (ys:List IV) (h:∀y∈ys,y.cells=[y]) (hn:ys≠[]):(Vd ys).cells=ys:=by
 cases ys with
 |nil=>rfl
 |cons y r=>
 cases r with
 |nil=>simpa[Vd] using h y ajL
 |cons z r=>rfl
theorem BY:∀(cs:List AV) (ys:List IV),Hw cs=some ys->∀y∈ys,y.cells=[y]
 |[],ys,h=>by simp[Hw] at h;subst h;simp
 |x::r,ys,h=>by
  simp[Hw,afX,acF] at h;obtain⟨y,h1,s,h2,rfl⟩:=h;intro z hz;simp at hz;rcases hz with rfl|hz
  ·exact N_ h1
  exact BY r s h2 z hz
theorem po {w:World} {I:Nat->Prop} {sz:Nat} (j9:0<sz):∀(n:Nat) (ys:List IV) (b o:Nat),ys.length=n*sz->(∀y∈ys,y.cells=[y])->b7 w I ys b o ->
  cd w I (chunks sz n ys) b o sz/\(chunks sz n ys).length=n
 |0,ys,b,o,_,_,_=>by simp[chunks,cd]
 |n+1,ys,b,o,hl,hc,h=>by
  have gR:ys.length=n*sz+sz:=ajV
  have ih:=po j9 n (ys.drop sz) b (o+sz) ajV (λy hy=>hc y (ahf hy)) (nO _ _ _ _ h);have aF:(ys.take sz).length=sz:=ajV
  have Z1:(Vd (ys.take sz)).cells=ys.take sz:=Lw _ (λy hy=>hc y (agH hy)) ajV
  grind [chunks,cd,hQ,xq]
def Wq (hr:aO K β env H a w) {o:Oper} {t e:TypeId} {n:Nat} {ps:Array (Nat×Operand)} {i:TypeInfo} {z:Value} {zs:List AV} {xs:List O} (ho:o.op= .buildSlice t n ps)
   (ht:K.P.underlying t=some (.slice e)) (hi:K.P.info? e=some i) (hz:i.zero=some z) (Er:z.cells.size=i.size) (h0:0<i.size) (hn:n*i.size<=2^24)
   (Bu:y7 z.cells.toList=some zs) (JL:cos K.G (ps.toList.map (·.2))=some xs) {y:AV}
   (hy:aw (.lits n i.size zs ((ps.toList.map (·.1)).zip xs)) env=some y):a7 K β H a w o y:=by
 simp only[aw] at hy
 split at hy
 · split at hy
   · rename_i ov
     obtain⟨rfl,afE⟩:=ov
     simp at hy
     subst hy
     have hlx:xs.length=ps.toList.length:=by
       have:=bA.len _ _ (oc hr _ _ JL)
       grind
     have R3:ps.toList=[]:=by
       grind [List.length_zip,eD,Nat.min_self,agL]
     have adB:ps=#[]:=ajV
     subst adB
     refine⟨.slice (some ⟨w.heap.size,0,none⟩) 0 0,w.alloc (.cells #[] e),?_,iA w _,ake,ajP⟩
     have hso:=dy (P:=K.P) (t:=e) (s:=i.size) (by simp[Be,hi]) w
     simp[execOp,ho,Instr.buildSlice,run_underlying ht,hso,Instr.fill,newRow,show Array.range 0=#[] from rfl]
   grind
 rename_i cf
 simp[afX,acF] at hy
 obtain⟨cs,h1,ys,h2,rfl⟩:=hy
 have HA:=mU _ _ Bu w β H (Im K β H)
 have hzero:=y9 z.cells zs w β H (Im K β H) HA ajK n
 have hlx:xs.length=ps.toList.length:=by
   have:=bA.len _ _ (oc hr _ _ JL)
   grind
 have bV:=s8 hr (λj=>some (j*i.size,i.size)) ps.toList xs (((ps.toList.map (·.1)).zip xs).map λp=>(p.1*i.size,i.size,p.2)) JL
   ajV
   (by
     intro j p x q g1 g2 g3
     simp only[ago,ajb,acF] at g3
     obtain⟨⟨u,v⟩,⟨⟨p',e1,e2⟩,e3⟩,rfl⟩:=g3
     rw[g1] at e1;cases e1
     rw[g2] at e3;cases e3
     exact⟨rfl,by simp[e2]⟩)
 obtain⟨cur',f1,f2⟩:=uv (λj=>some (j*i.size,i.size)) _ _ _ cs _ hzero amK bV
 have hlen:cs.length=n*i.size:=by
   have e1:=bA.len _ _ hzero
   have e2:∀(qs:List (Nat×Nat×AV)) (c c':List AV),gF c qs=some c'->c'.length=c.length:=by
     intro qs
     induction qs with
     |nil=>simp[gF]
     |cons q qs ih=>
     grind [gF]
   grind
 have hg:=iA w (.cells cur' e)
 have hyl:ys.length=n*i.size:=by grind [JK]
 have s9:b7 (w.alloc (.cells cur' e)) (Im K β H) ys w.heap.size 0:=
   sL _ _ _ _ _ h2 (bA.mono _ _ (hg.BV β H _ _) f2) (λj v hj=>by rw[HC];simpa using hj)
 have qg:=po h0 n ys w.heap.size 0 hyl (BY _ _ h2) s9
 refine⟨.slice (some ⟨w.heap.size,0,none⟩) n n,w.alloc (.cells cur' e),?_,hg,?_,ajP⟩
 · have Oa:Instr.fill (λj=>some (j*i.size,i.size)) ((Array.range (n*i.size)).map (z.cells[·%z.cells.size]!)) (ps.toList.map λp=>(p.1,a.eval p.2))=some cur':=by
     grind
   have Wr:¬n*i.size=0:=ajV
   have hso:=dy (P:=K.P) (t:=e) (s:=i.size) (by simp[Be,hi]) w
   simp only[execOp,ho,Instr.buildSlice,Sem.run_bind,run_underlying ht,Result.andThen_ok,hso,Sem.run_ite,Wr,agk,zeroValue,typeInfo,run_program,hi,hz,
     aje,show ¬n*i.size>2^24 by omega,Sem.run_pure,Result.andThen,Oa]
   rfl
 simp[RV,iM]
 refine⟨_,n,by rw[qg.2],by rw[qg.2];exact af6 _,?_,.inr ⟨w.heap.size,0,i.size,rfl,hr.fresh,ajL,h0,qg.1⟩⟩
 have:n<=n*i.size:=ahw n h0
 grind [maxLen]
theorem y_ (hr:aO K β env H a w) (pl:List (Nat×Nat)):∀(ps:List (Nat×Operand)) (xs:List O) (qs:List (Nat×Nat×O)),cos K.G (ps.map (·.2))=some xs ->
  sK pl (ps.map (·.1)) xs=some qs ->
  dN (λ(p:Nat×Value) (q:Nat×Nat×AV)=>pl.toArray[p.1]?=some (q.1,q.2.1)/\RV w β H (Im K β H) q.2.2 p.2)
   (ps.map λp=>(p.1,a.eval p.2)) (qs.map λq=>(q.1,q.2.1,ev env q.2.2))
 |[],xs,qs,h,hb=>by
  simp[cos] at h;subst h;simp[sK] at hb;subst hb;exact .nil
 |p::ps,xs,qs,h,hb=>by
  simp[agC,cos,afX,acF] at h;obtain⟨y,h1,s,h2,rfl⟩:=h;simp only[agC,sK,afX,acF] at hb;obtain⟨q,e1,r,e2,rfl⟩:=hb;simp only[agC];exact .cons ⟨amL,hr.ev h1⟩ (y_ hr pl ps s r h2 e2)
def aaz (hr:aO K β env H a w) {o:Oper} {t:TypeId} {fs:Array Field} {ps:Array (Nat×Operand)} {i:TypeInfo} {z:Value} {zs:List AV} {xs:List O} {pl:List (Nat×Nat)}
   {qs:List (Nat×Nat×O)} (ho:o.op= .build t ps)
   (ht:K.P.underlying t=some (.struct fs)) (hi:K.P.info? t=some i) (hz:i.zero=some z) (HD:fs.toList.mapM (λf=>(K.P.info? f.type).map λi=>(f.offset,i.size))=some pl)
   (Bu:y7 z.cells.toList=some zs) (JL:cos K.G (ps.toList.map (·.2))=some xs) (hqs:sK pl (ps.toList.map (·.1)) xs=some qs) {y:AV}
   (hy:aw (.ZW zs qs) env=some y):a7 K β H a w o y:=by
 simp[aw,acF] at hy
 obtain⟨cs,h1,rfl⟩:=hy
 obtain⟨cur',f1,f2⟩:=uv (β:=β) (H:=H) (I:=Im K β H) (w:=w) (λj=>pl.toArray[j]?) _ _ _ cs z.cells (mU _ _ Bu w β H _) h1 (y_ hr pl _ _ _ JL hqs)
 refine a7.same (v:= .agg cur') ?_ ⟨cur'.toList,ajL,f2⟩ ?_
 · have hb:K.P.built t (ps.map λ(i,x)=>(i,a.eval x)).toList=some cur':=by
     simp[Program.built,hi,ht,hz,HD]
     simp_all
   simp[execOp,ho,Sem.run_bind,run_build w t _ cur' hb,Result.andThen_ok,Sem.run_pure]
 have ED:∀(l:List Value) (xs:List AV),y7 l=some xs->ai xs=[]:=by
   intro l
   induction l with
   |nil=>intro xs h;simp[y7] at h;subst h;rfl
   |cons v r ih=>
   grind [y7,afX,acF,ai,Hv]
 have hmq:∀(ids:List Nat) (xs:List O) (qs:List (Nat×Nat×O)),sK pl ids xs=some qs->∀q∈qs,q.2.2∈xs:=by
   intro ids
   induction ids with
   |nil=>grind [sK]
   |cons j js ih=>
   intro xs qs h
   cases xs with
   |nil=>grind [sK]
   |cons x xs=>
   simp only[sK,afX,acF] at h
   grind
 have NK:∀x∈xs,∀l∈(ev env x).aq,H l≠ .unused:=by
   intro x hx l hl
   refine oC hr _ _ JL l ?_
   obtain⟨k,hk⟩:=agE hx
   exact dW _ k _ ajV l hl
 have Bv:∀(l m:List AV),ai (l++m)=ai l++ai m:=by
   intro l m
   induction l with
   |nil=>rfl
   |cons x r ih=>grind [ai]
 have Lx:∀(l:List AV) (n:Nat),(∀q∈ai (l.take n),q∈ai l)/\(∀q∈ai (l.drop n),q∈ai l):=by
   intro l n
   have:=Bv (l.take n) (l.drop n)
   simp_all
 have hf:∀(qs:List (Nat×Nat×AV)) (c c':List AV),gF c qs=some c'->(∀l∈ai c,H l≠ .unused)->(∀q∈qs,∀l∈q.2.2.aq,H l≠ .unused)->∀l∈ai c',H l≠ .unused:=by
   intro qs
   induction qs with
   |nil=>simp[gF]
   |cons q qs ih=>
   intro c c' h h1 h2
   obtain⟨off,sz,x⟩:=q
   simp only[gF] at h
   split at h
   · refine ih _ _ h ?_ (λq hq=>h2 q ajV)
     intro l hl
     rw[Bv,Bv,agi,agi] at hl
     rcases hl with(hl|hl)|hl
     · grind
     · have:=h2 (off,sz,x) ajL l
       refine this ?_
       cases x<;>simp[AV.cells,ai] at hl<;>simp at hl ⊢<;>exact hl
     grind
   grind
 simp only[AV.aq]
 grind
theorem JM {P:Program}:∀(fs:List Field) (ks:List Kd) (n d:Nat) (xs ys:List AV) (vs us:List Value) (b:Bool),iy P n fs=some ks->eqs ks xs ys=some b ->
  bA w β H (Im K β H) xs (vs.drop n)->bA w β H (Im K β H) ys (us.drop n) ->
  (Op.eqFields (d+1) vs.toArray us.toArray fs).run P w= .ok b w
 |[],ks,n,d,xs,ys,vs,us,b,hp,he,hx,hy=>by
  simp[iy] at hp;subst hp;cases xs<;>cases ys<;>simp[eqs] at he;subst he;rfl
 |f::fs,ks,n,d,xs,ys,vs,us,b,hp,he,hx,hy=>by
  simp only[iy] at hp;split at hp
  ·rename_i hh;simp at hh;obtain⟨h1,h2⟩:=hh;obtain⟨k,ui,rfl,fE,hk⟩:∃k ui,ks=k::ui/\iy P (n+1) fs=some ui/\((k= .s/\P.underlying f.type=some .string)\/(k= .b/\P.underlying f.type=some .bool)\/(k= .i/\∃j,P.underlying f.type=some (.int j))):=by
    split at hp
    ·obtain⟨s,q1,q2⟩:=acF.1 hp;exact⟨_,s,q2.symm,q1,.inl ⟨rfl,amT⟩⟩
    ·obtain⟨s,q1,q2⟩:=acF.1 hp;exact⟨_,s,q2.symm,q1,.inr (.inl ⟨rfl,amT⟩)⟩
    ·obtain⟨s,q1,q2⟩:=acF.1 hp;exact⟨_,s,q2.symm,q1,.inr (.inr ⟨rfl,_,amT⟩)⟩
    simp at hp
   cases xs with
   |nil=>simp[eqs] at he
   |cons x xs=>
   cases ys with
   |nil=>simp[eqs] at he
   |cons y ys=>
   simp only[eqs,afX,acF] at he;obtain⟨b1,e1,b2,e2,rfl⟩:=he;simp only[bA] at hx hy;obtain⟨v,Su,hv,rx,JL⟩:=hx;obtain⟨u,us',hu,ry,sM⟩:=hy;have gv:vs[n]?=some v:=(by rw[<-aii,hv];rfl);have gu:us[n]?=some u:=(by rw[<-aii,hu];rfl);have dv:vs.drop (n+1)=Su:=(by rw[<-List.tail_drop,hv];rfl);have du:us.drop (n+1)=us':=(by rw[<-List.tail_drop,hu];rfl);have ih:=JM (P:=P) fs ui (n+1) d xs ys vs us b2 fE e2 ajV (by rw[du];exact sM);have Ws:(isAgg f.type).run P w= .ok false w:=by
    rcases hk with⟨_,hk⟩|⟨_,hk⟩|⟨_,j,hk⟩<;>simp[isAgg,run_underlying hk]
   have pv:(part f.type vs.toArray f.offset).run P w= .ok v w:=(by simp[part,Ws,h2,gv]);have pu:(part f.type us.toArray f.offset).run P w= .ok u w:=(by simp[part,Ws,h2,gu]);have heq:(Op.equalIn (d+1) f.type v u).run P w= .ok b1 w:=by
    rcases hk with⟨rfl,hk⟩|⟨rfl,hk⟩|⟨rfl,j,hk⟩<;>cases x<;>cases y<;>simp[eq1] at e1<;>simp only[RV] at rx ry<;>subst rx<;>subst ry
    ·rw[run_equalIn_string w d f.type _ _ hk];simp[<-e1]
    ·rw[run_equalIn_bool' w d f.type _ _ hk];simp[<-e1]
    obtain⟨rfl,e1⟩:=e1;rw[run_equalIn_int w d f.type _ _ _ _ hk];simp[<-e1]
   simp only[Op.eqFields,ne_eq,h1,agn,Sem.run_bind,pv,pu,heq,Result.andThen_ok,Sem.run_ite,ih];cases b1<;>simp
  simp at hp
def oD {op:BinOp} {n:Bool} (h:pU op=some n):(op= .eql/\n=false)\/(op= .neq/\n=true):=by
 grind [pU]
def Wt (hr:aO K β env H a w) {o:Oper} {op:BinOp} {t t2:TypeId} {x y:Operand} {x' y':O} {ks:List Kd} {n:Bool} (ho:o.op= .binOp op t x y t2) (hn:pU op=some n)
  (JN:qt K.P t=some ks) (hx:co K.G x=some x') (hy:co K.G y=some y') {z:AV} (hz:aw (.N1 n ks x' y') env=some z):a7 K β H a w o z:=by
 have h:=hr.ev hx;have h2:=hr.ev hy;unfold qt at JN;split at JN
 ·rename_i fs hfs;split at JN
  ·rename_i hc;simp at hc;simp only[aw] at hz;split at hz
   ·rename_i xs ys e1 e2;rw[e1] at h;rw[e2] at h2;obtain⟨vs,h3,h4⟩:=h;obtain⟨us,h5,h6⟩:=h2;obtain⟨b,hb,rfl⟩:=acF.1 hz;have Z2:K.P.underlying t=some (.struct (K.P.fieldsOf t)):=(by simp[Program.fieldsOf,hfs]);have hfe:(K.P.fieldsOf t).toList=fs.toList:=ajV;have hq:(Op.equalIn 10000 t (.agg vs.toArray) (.agg us.toArray)).run K.P w= .ok b w:=by
     rw[run_equalIn_struct w _ t _ _ Z2 hc.1,hfe]
     grind [JM]
    refine a7.same (v:= .bool (n ^^ b)) ?_ ake ajP;rcases oD hn with⟨rfl,rfl⟩|⟨rfl,rfl⟩
    ·simp only[execOp,ho,h3,h5,Sem.run_bind,run_eqGuard_agg w _ t x y _ _ hc.2,Result.andThen_ok,run_eql_struct,hq];simp
    simp only[execOp,ho,h3,h5,Sem.run_bind,run_eqGuard_agg w _ t x y _ _ hc.2,Result.andThen_ok,run_neq_struct,hq];simp
   grind
  grind
 grind
def aaA (hr:aO K β env H a w) {o:Oper} {op:BinOp} {t t2:TypeId} {x y:Operand} {x' y':O} {n:Bool} (ho:o.op= .binOp op t x y t2) (hn:pU op=some n)
  (ht:K.P.underlying t=some .bool) (hx:co K.G x=some x') (hy:co K.G y=some y') {z:AV} (hz:aw (.eqb n x' y') env=some z):a7 K β H a w o z:=by
 have h:=hr.ev hx;have h2:=hr.ev hy;simp only[aw] at hz;split at hz
 ·rename_i p q e1 e2;rw[e1] at h;rw[e2] at h2;simp[RV,afZ] at h h2 hz;subst hz;refine a7.same (v:= .bool (n ^^ (p==q))) ?_ ake ajP;have hq:(Op.equal t (.bool p) (.bool q)).run K.P w= .ok (p==q) w:=run_equalIn_bool' w 9999 t p q ht;rcases oD hn with⟨rfl,rfl⟩|⟨rfl,rfl⟩
  ·simp[execOp,ho,h,h2,eqGuard,binOp,hq]
  simp[execOp,ho,h,h2,eqGuard,binOp,hq]
 grind
def HE (d:Nat) {P:Program} {t e:TypeId} (ht:P.underlying t=some (.pointer e)) (q:Option Addr):(Op.equalIn (d+1) t (.pointer none) (.pointer q)).run P w= .ok q.isNone w:=by
 simp[Op.equalIn,run_underlying ht]
def HF (d:Nat) {P:Program} {t e:TypeId} (ht:P.underlying t=some (.pointer e)) (q:Addr):(Op.equalIn (d+1) t (.pointer (some q)) (.pointer none)).run P w= .ok false w:=by
 simp[Op.equalIn,run_underlying ht]
def HG (d:Nat) {P:Program} {t:TypeId} {ms:Array (String×TypeId)} (ht:P.underlying t=some (.interface ms)):(Op.equalIn (d+1) t .nilIface .nilIface).run P w= .ok true w:=by
 simp[Op.equalIn,run_underlying ht]
def HI (d:Nat) {P:Program} {t u:TypeId} {v:Value} {ms:Array (String×TypeId)} (ht:P.underlying t=some (.interface ms)):(Op.equalIn (d+1) t (.iface u v) .nilIface).run P w= .ok false w:=by
 simp[Op.equalIn,run_underlying ht]
def aaB (hr:aO K β env H a w) {o:Oper} {op:BinOp} {t t2 e:TypeId} {x y:Operand} {x' y':O} {n:Bool} (ho:o.op= .binOp op t x y t2) (hn:pU op=some n)
  (ht:K.P.underlying t=some (.pointer e)) (hx:co K.G x=some x') (hy:co K.G y=some y') {z:AV} (hz:aw (.eqp n x' y') env=some z):a7 K β H a w o z:=by
 have h:=hr.ev hx;have h2:=hr.ev hy;simp only[aw,acF] at hz;obtain⟨b,hb,rfl⟩:=hz;have key:∀p q,a.eval x= .pointer p->a.eval y= .pointer q->(Op.equal t (.pointer p) (.pointer q)).run K.P w= .ok b w->a7 K β H a w o (.bool (n ^^ b)):=by
  intro p q h3 h4 h5;refine a7.same (v:= .bool (n ^^ b)) ?_ ake ajP;rcases oD hn with⟨rfl,rfl⟩|⟨rfl,rfl⟩
  ·simp[execOp,ho,h3,h4,eqGuard,binOp,h5]
  simp[execOp,ho,h3,h4,eqGuard,binOp,h5]
 have Ob:∀q,(Op.equal t (.pointer none) (.pointer q)).run K.P w= .ok q.isNone w:=by
  intro q;exact HE 9999 ht q
 have za:∀q,(Op.equal t (.pointer (some q)) (.pointer none)).run K.P w= .ok false w:=by
  intro q;exact HF 9999 ht q
 cases e1:ev env x'<;>cases e2:ev env y'<;>rw[e1] at h<;>rw[e2] at h2<;>rw[e1,e2] at hb<;>simp[JH] at hb<;>simp only[RV] at h h2<;>subst hb
 ·exact key _ _ h h2 (Ob _)
 ·obtain⟨q,h2,_⟩:=h2;exact key _ _ h h2 (Ob _)
 ·obtain⟨q,q2,h2,_⟩:=h2;exact key _ _ h h2 (Ob _)
 ·obtain⟨q,h,_⟩:=h;exact key _ _ h h2 (za _)
 obtain⟨q,q2,h,_⟩:=h;exact key _ _ h h2 (za _)
def aaC (hr:aO K β env H a w) {o:Oper} {op:BinOp} {t t2:TypeId} {ms:Array (String×TypeId)} {x y:Operand} {x' y':O} {n:Bool} (ho:o.op= .binOp op t x y t2) (hn:pU op=some n)
  (ht:K.P.underlying t=some (.interface ms)) (hc:Hx y=true) (hx:co K.G x=some x') {z:AV} (hz:aw (.eqi n x' y') env=some z):a7 K β H a w o z:=by
 have h:=hr.ev hx;have hy:y= .const .nilIface:=by
  cases y<;>simp[Hx] at hc;rename_i v;cases v<;>simp at hc;rfl
 subst hy;simp only[aw] at hz;split at hz
 ·rename_i e1;rw[e1] at h;simp only[RV,afZ] at h hz;subst hz;refine a7.same (v:= .bool (n ^^ true)) ?_ ake ajP;have hq:(Op.equal t .nilIface .nilIface).run K.P w= .ok true w:=HG 9999 ht;rcases oD hn with⟨rfl,rfl⟩|⟨rfl,rfl⟩
  ·exact Sp
  exact Sp
 ·rename_i t' x0 e1;rw[e1] at h;simp only[RV,afZ] at h hz;subst hz;obtain⟨u,h,_⟩:=h;refine a7.same (v:= .bool (n ^^ false)) ?_ ake ajP;have hq:(Op.equal t (.iface t' u) .nilIface).run K.P w= .ok false w:=HI 9999 ht;rcases oD hn with⟨rfl,rfl⟩|⟨rfl,rfl⟩
  ·exact Sp
  exact Sp
 simp at hz
end

def u8s (s:List UInt8):List IV:=s.map λc=> .int .u8 (c.toNat:Int)
theorem EE {w:World} {I:Nat->Prop} (b:Nat):∀(s:List UInt8) (o:Nat),(∀j c,s[j]?=some c->w.cell? ⟨b,o+j,none⟩=some (.int .u8 (c.toNat:Int)))->cd w I (u8s s) b o 1
 |[],o,_=>by simp[u8s,cd]
 |c::r,o,h=>by
  simp only[u8s,agC,cd,kt];refine⟨⟨trivial,_,by simpa using h 0 c rfl,rfl⟩,EE b r (o+1) λj d hj=> ?_⟩;have:=h (j+1) d amJ;rw[<-this];congr 2;omega
section
variable {K:Kx} {β:Lb->Option Nat} {env:Env} {H:Hp} {a:Act} {w:World}
def aaD (hr:aO K β env H a w) {o:Oper} {s d e:TypeId} {x:Operand} {x':O} (ho:o.op= .convert s d x) (hs:K.P.underlying s=some .string) (hd:K.P.underlying d=some (.slice e)) (he:K.P.underlying e=some (.int .u8))
  (hx:co K.G x=some x') {y:AV} (hy:aw (.cvb x') env=some y):a7 K β H a w o y:=by
 have h:=hr.ev hx;simp only[aw] at hy;split at hy
 ·rename_i t e1;split at hy
  ·rename_i hlen;rw[e1] at h;simp only[RV,iM,afZ] at h hy;subst hy;have mm:=run_bytes_of_string (P:=K.P) w s d e ⟨t.toArray⟩ hs hd he;have EF:=grownCap_ge w t.length 0 e;have R4:=grownCap_le_maxLen w t.length 0 e amn;have j9:(⟨t.toArray⟩:ByteArray).size=t.length:=(by simp[ByteArray.size]);rw[j9] at mm;have qw:∀j c,t[j]?=some c->(w.drew.alloc (.cells (bytesRow ⟨t.toArray⟩ (grownCap w t.length 0 e)) e ((bytesRow ⟨t.toArray⟩ (grownCap w t.length 0 e)).size,(bytesRow ⟨t.toArray⟩ (grownCap w t.length 0 e)).size+1))).cell? ⟨w.heap.size,0+j,none⟩=some (.int .u8 (c.toNat:Int)):=by
    intro j c hj;have h1:=World.cell?_alloc_mark w.drew (bytesRow ⟨t.toArray⟩ (grownCap w t.length 0 e)) e ((bytesRow ⟨t.toArray⟩ (grownCap w t.length 0 e)).size,(bytesRow ⟨t.toArray⟩ (grownCap w t.length 0 e)).size+1) j;have h2:w.drew.heap.size=w.heap.size:=rfl;rw[h2] at h1;rw[agh,h1];have kE:=(afY.1 hj).1;unfold bytesRow;rw[ai6 (by simpa using kE)];simp[hj]
   refine⟨.slice (some ⟨w.heap.size,0,none⟩) t.length (grownCap w t.length 0 e),_,?_,(wc w).trans (iA w.drew (.cells (bytesRow ⟨t.toArray⟩ (grownCap w t.length 0 e)) e ((bytesRow ⟨t.toArray⟩ (grownCap w t.length 0 e)).size,(bytesRow ⟨t.toArray⟩ (grownCap w t.length 0 e)).size+1))),?_,ajP⟩
   ·simp only[execOp,ho,h,Sem.run_bind,mm,Result.andThen,Sem.run_pure]
   simp only[RV,iM];exact⟨_,_,by rw[eD],by rw[eD];exact EF,R4,.inr ⟨w.heap.size,0,1,rfl,hr.fresh,ajL,ajN,EE _ t 0 qw⟩⟩
  simp at hy
 simp at hy
theorem xr {w:World} {I:Nat->Prop} {b sz:Nat}:∀(xs:List IV) (s:List UInt8) (o:Nat),qu xs=some s->cd w I xs b o sz->xs=[]\/sz=1 ->
  ∃ns:List Int,ns.length=xs.length/\ns.map (λn=>UInt8.ofNat n.toNat)=s/\∀j n,ns[j]?=some n->w.cell? ⟨b,o+j,none⟩=some (.int .u8 n)
 |[],s,o,h,_,_=>by simp[qu] at h;subst h;exact⟨[],rfl,rfl,ajL⟩
 |x::r,s,o,h,he,hz=>by
  have qo:sz=1:=anQ
  subst qo;cases x with
  |int k n=>
   cases k<;>simp only[qu,reduceCtorEq,acF] at h;obtain⟨s',h1,rfl⟩:=h;simp only[cd,kt] at he;obtain⟨⟨_,v,hv,rfl⟩,Wu⟩:=he;obtain⟨ns,e1,e2,e3⟩:=xr r s' (o+1) h1 Wu (.inr rfl);refine⟨n::ns,an3,by simp[e2],λj m hj=> ?_⟩;cases j with
   |zero=>simp at hj;subst hj;exact hv
   |succ j=>
   have:=e3 j m amJ;rw[<-this];congr 2;omega
  |_=>simp[qu] at h
theorem fold_push:∀(ns:List Int) (r:ByteArray),ns.foldl (λr n=>r.push (UInt8.ofNat n.toNat)) r=⟨r.data++(ns.map λn=>UInt8.ofNat n.toNat).toArray⟩
 |[],r=>by simp
 |n::ns,r=>by
  simp only[ah2];rw[fold_push ns];simp[ByteArray.push]
def aaE (hr:aO K β env H a w) {o:Oper} {s d e:TypeId} {x:Operand} {x':O} (ho:o.op= .convert s d x) (hs:K.P.underlying s=some (.slice e)) (he:K.P.underlying e=some (.int .u8)) (hd:K.P.underlying d=some .string)
  (hx:co K.G x=some x') {y:AV} (hy:aw (.cvt x') env=some y):a7 K β H a w o y:=by
 simp only[aw] at hy;have h:=hr.ev hx;have key:∀(ad:Option Addr) (n c:Nat) (t:List UInt8),a.eval x= .slice ad n c->(convert s d (.slice ad n c)).run K.P w= .ok (.string ⟨t.toArray⟩) w->a7 K β H a w o (.str t):=by
  intro ad n c t h1 h2;exact a7.same (v:= .string ⟨t.toArray⟩) (by simp only[execOp,ho,h1,Sem.run_bind,h2,Result.andThen,Sem.run_pure]) (by simp[RV,iM]) ajP
 unfold Hz at hy;split at hy
 ·rename_i xs e1;rw[e1] at h;simp only[RV,iM] at h;obtain⟨t,ht,rfl⟩:=acF.1 hy;obtain⟨ad,c,h1,hn,hc,JO⟩:=h;refine key ad xs.length c t h1 ?_;cases ad with
  |none=>
   rw[run_convert_bytes_string w s d e none _ c hs he hd];rcases JO with h0|⟨b,o,sz,h2,_⟩
   ·have:xs=[]:=agL.1 h0;subst this;simp[qu] at ht;subst ht;simp[Conv.bytesToString];rfl
   cases h2
  |some ad=>
  rw[run_convert_bytes_string w s d e (some ad) _ c hs he hd];have Bc:∃ns:List Int,ns.length=xs.length/\ns.map (λn=>UInt8.ofNat n.toNat)=t/\∀j n,ns[j]?=some n->w.cell? (ad.add j)=some (.int .u8 n):=by
   rcases JO with h0|⟨b,o,sz,h2,_,_,j9,j5⟩
   ·have:xs=[]:=agL.1 h0;subst this;simp[qu] at ht;subst ht;exact⟨[],rfl,rfl,ajL⟩
   cases h2;have hz:xs=[]\/sz=1:=by
    cases xs with
    |nil=>exact .inl rfl
    |cons x r=>
    right;cases x with
    |int k n=>simp only[cd,kt] at j5;exact j5.1.1
    |_=>simp[qu] at ht
   obtain⟨ns,e1,e2,e3⟩:=xr xs t o ht j5 hz;refine⟨ns,e1,e2,λj n hj=> ?_⟩;have:=e3 j n hj;have Wv:(⟨b,o,none⟩:Addr).add j=⟨b,o+j,none⟩:=(by unfold Addr.add;split<;>simp_all);rw[<-this,Wv]
  obtain⟨ns,e1,e2,e3⟩:=Bc;have hl:=run_loadCells_list (P:=K.P) w ad (ns.map (Value.int .u8)) (λj v hj=>by
   rw[ago] at hj;obtain⟨n,hn,rfl⟩:=acF.1 hj;exact e3 j n hn)
  rw[eD,e1] at hl;rw[run_bytesToString w ad xs.length c ns hl,fold_push,e2];simp[show ByteArray.empty.data=#[] from rfl]
 ·rename_i e1;rw[e1] at h;simp only[RV] at h;obtain⟨ad,h1⟩:=h;simp only[afZ] at hy;subst hy;refine key ad 0 0 [] h1 ?_;rw[run_convert_bytes_string w s d e ad 0 0 hs he hd];cases ad with
  |none=>simp[Conv.bytesToString];rfl
  |some ad=>
  have hl:=run_loadCells_list (P:=K.P) w ad ([].map (Value.int .u8)) (λj v hj=>by simp at hj);rw[run_bytesToString w ad 0 0 [] hl];rfl
 simp at hy
end

def aS {γ:Type} (f:Lb->γ) (l:Lb) (x:γ):Lb->γ:=λl'=>if l'=l then x else f l'
@[simp] theorem lD {γ:Type} (f:Lb->γ) (l:Lb) (x:γ):aS f l x l=x:=by simp[aS]
theorem an {γ:Type} (f:Lb->γ) {l l':Lb} (x:γ) (h:l'≠l):aS f l x l'=f l':=by simp[aS,h]
section
variable {K:Kx} {β:Lb->Option Nat} {env:Env} {H:Hp} {a:Act} {w:World}
def aO.s_ (hr:aO K β env H a w) {l:Lb} {g:Nat} (hl:live H l) (hb:β l=some g):g<w.heap.size:=by
 obtain⟨r,qf⟩:=hl;obtain⟨_,_,h3⟩:=hr.rows l r qf
 grind
def HJ {w:World} {g S:Nat} (h:oy w g=some S):g<w.heap.size:=by
 grind [oy]
def aO.kill (hr:aO K β env H a w) (l:Lb) (hu:H l≠ .unused):aO K β env (aS H l .dead) a w:=by
 have aT:∀l',live (aS H l .dead) l'->live H l'/\l'≠l:=by
   intro l' ⟨r,h⟩
   by_cases e:l'=l
   · subst e;simp at h
   rw[an _ _ e] at h;exact⟨⟨r,h⟩,e⟩
 have d_:∀ls,ic w w β β H (aS H l .dead) (Im K β H) (Im K β (aS H l .dead)) ls:=λls=>
   { im := fun k hk hs => ⟨⟨hk.1,fun l' gR => hk.2 l' (aT l' gR).1⟩,hs,rfl⟩
     lb:=λl' _ gR=>⟨(aT l' gR).1,rfl,λ_ _ _ h=>h⟩}
 refine⟨hr.defers,hr.size,λn=>RV.mono _ _ (d_ _) (hr.jc n),?_,λl' g h=>hr.own l' g (aT l' h).1,λl1 l2 g h1 h2=>hr.inj l1 l2 g (aT l1 h1).1 (aT l2 h2).1,?_,?_,hr.frame,?_,?_,λl' g h=>hr.fr l' g (aT l' h).1⟩
 · intro l' r h
   have cf:=(aT l' ⟨r,h⟩).2
   rw[an _ _ cf] at h
   obtain⟨h1,h2,h3⟩:=hr.rows l' r h
   refine⟨h1,h2,?_⟩
   cases hb:β l' with
   |none=>simpa[hb] using h3
   |some g=>
   simp only[hb] at h3 ⊢
   obtain⟨cur,e,cap,e1,e2,e3,e4,e5⟩:=h3
   exact⟨cur,e,cap,e1,e2,e3,e4,λi j cs x hi hj=>let⟨v,k1,k2⟩:=e5 i j cs x hi hj;⟨v,k1,RV.mono _ _ (d_ _) k2⟩⟩
 · intro n l' gR
   by_cases e:l'=l
   · subst e;simp
   rw[an _ _ e];exact hr.iq n l' gR
 · intro l1 r h cs aZ l' gR
   have cf:=(aT l1 ⟨r,h⟩).2
   rw[an _ _ cf] at h
   by_cases e:l'=l
   · subst e;simp
   rw[an _ _ e];exact hr.cB l1 r h cs aZ l' gR
 · exact aai
 intro l' gR
 obtain⟨h1,h2⟩:=hr.jv l' gR
 refine⟨?_,λh=>h2 (aT l' h).1⟩
 by_cases e:l'=l
 · subst e;simp
 grind [an]
def aO.qx (hr:aO K β env H a w) (l:Lb) (hu:H l= .unused) {r:Row} {w':World} (gw:oB w w') (b:Option Nat)
   (hb:∀g,b=some g->w.heap.size<=g) (hm:∀cs∈r.els,∀l'∈ai cs,H l'≠ .unused)
   (oE:yg w' (aS β l b) (aS H l (.live r)) (Im K (aS β l b) (aS H l (.live r))) l r):aO K (aS β l b) env (aS H l (.live r)) a w':=by
 have aT:∀l',live (aS H l (.live r)) l'->l'≠l->live H l':=by
   intro l' ⟨r',h⟩ e
   rw[an _ _ e] at h;exact⟨r',h⟩
 have d_:∀ls,(∀l'∈ls,H l'≠ .unused)->ic w w' β (aS β l b) H (aS H l (.live r)) (Im K β H) (Im K (aS β l b) (aS H l (.live r))) ls:=λls pf=>
   { im := fun k hk hs => ⟨⟨hk.1,fun l' gR => by
       by_cases e:l'=l
       · grind [lD]
       rw[an _ _ e];exact hk.2 l' (aT l' gR e)⟩,ahi hs gw.size,gw.block k hs⟩
     lb:=λl' Ww gR=>by
       have e:l'≠l:=λe=>pf l' Ww (e▸hu)
       refine⟨aT l' gR e,an _ _ e,λg S _ hS=> ?_⟩
       unfold oy at *
       rwa[gw.block g (HJ hS)]}
 have hold:∀l' r',l'≠l->H l'= .live r'->yg w' (aS β l b) (aS H l (.live r)) (Im K (aS β l b) (aS H l (.live r))) l' r':=by
   intro l' r' e h
   obtain⟨h1,h2,h3⟩:=hr.rows l' r' h
   refine⟨h1,h2,?_⟩
   rw[an _ _ e]
   cases Oc:β l' with
   |none=>simpa[Oc] using h3
   |some g=>
   simp only[Oc] at h3 ⊢
   obtain⟨cur,e0,cap,e1,e2,e3,e4,e5⟩:=h3
   refine⟨cur,e0,cap,(gw.block g (agS.1 e1).1).trans e1,e2,e3,e4,λi j cs x hi hj=> ?_⟩
   obtain⟨v,k1,k2⟩:=e5 i j cs x hi hj
   exact⟨v,k1,RV.mono _ _ (d_ _ (λq hq=>hr.cB l' r' h cs (af3 hi) q (dW _ _ _ hj q hq))) k2⟩
 refine⟨hr.defers,hr.size,λn=>RV.mono _ _ (d_ _ (hr.iq n)) (hr.jc n),?_,?_,?_,?_,?_,hr.frame.N6 gw,?_,?_,?_⟩
 · intro l' r' h
   by_cases e:l'=l
   · subst e
     simp at h;subst h
     grind
   grind [an]
 · intro l' g h hg
   by_cases e:l'=l
   · subst e
     simp at hg
     exact .inr (ag' hr.frame.size (hb g hg))
   rw[an _ _ e] at hg
   exact hr.own l' g (aT l' h e) hg
 · intro l1 l2 g h1 h2 g1 g2
   by_cases e1:l1=l
   · by_cases e2:l2=l
     · grind
     subst e1
     simp at g1
     rw[an _ _ e2] at g2
     have:=hb g g1
     have:=hr.s_ (aT l2 h2 e2) g2
     omega
   rw[an _ _ e1] at g1
   by_cases e2:l2=l
   · subst e2
     simp at g2
     have:=hb g g2
     have:=hr.s_ (aT l1 h1 e1) g1
     omega
   rw[an _ _ e2] at g2
   exact hr.inj l1 l2 g (aT l1 h1 e1) (aT l2 h2 e2) g1 g2
 · intro n l' gR
   by_cases e:l'=l
   · subst e;simp
   rw[an _ _ e];exact hr.iq n l' gR
 · intro l1 r1 h cs aZ l' gR
   by_cases e:l'=l
   · subst e;simp
   rw[an _ _ e]
   by_cases e1:l1=l
   · subst e1
     simp at h;subst h
     grind
   rw[an _ _ e1] at h
   exact hr.cB l1 r1 h cs aZ l' gR
 · intro g cs hg
   obtain⟨h1,h2,h3⟩:=hr.iO g cs hg
   exact⟨((d_ [] ajL).im g h1 h2).1,ahi h2 gw.size,dD.mono (d_ [] ajL).tojt h1 h2 h3⟩
 · intro l' gR
   obtain⟨h1,h2⟩:=hr.jv l' gR
   have e:l'≠l:=λe=>h1 (e▸hu)
   grind [an]
 intro l' g h hf hg
 by_cases e:l'=l
 · subst e
   simp at hg
   exact ag' hr.frame.size (hb g hg)
 rw[an _ _ e] at hg
 exact hr.fr l' g (aT l' h e) hf hg
def aO.relabel (hr:aO K β env H a w) (l l':Lb) {r:Row} (hl:H l= .live r) (hu:H l'= .unused) (hf:l'.fresh=true->l.fresh=true):aO K (aS β l' (β l)) env (aS (aS H l .dead) l' (.live r)) a w:=by
 have cf:l≠l':=λe=>by rw[e,hu] at hl;cases hl
 have aT:∀q,live (aS (aS H l .dead) l' (.live r)) q->q≠l'->live H q/\q≠l:=by
   intro q ⟨r',h⟩ e
   rw[an _ _ e] at h
   by_cases e2:q=l
   · subst e2;simp at h
   rw[an _ _ e2] at h;exact⟨⟨r',h⟩,e2⟩
 have d_:∀ls,(∀q∈ls,H q≠ .unused)->ic w w β (aS β l' (β l)) H (aS (aS H l .dead) l' (.live r)) (Im K β H) (Im K (aS β l' (β l)) (aS (aS H l .dead) l' (.live r))) ls:=λls pf=>
   { im := fun k hk hs => ⟨⟨hk.1,fun q hq => by
       by_cases e:q=l'
       · subst e
         simp only[lD]
         exact hk.2 l ⟨r,hl⟩
       rw[an _ _ e];exact hk.2 q (aT q hq e).1⟩,hs,rfl⟩
     lb:=λq hq xu=>by
       have e:q≠l':=λe=>pf q hq (e▸hu)
       exact⟨(aT q xu e).1,an _ _ e,λ_ _ _ h=>h⟩}
 have hold:∀q r',H q= .live r'->∀(b:Option Nat),b=β q->0<r'.sz/\(∀cs∈r'.els,cs.length=r'.sz) /\
     match b with
     |none=>r'.els=[]
     |some g=>∃cur e cap,w.heap[g]?=some (.cells cur e (0,0))/\cur.size=cap*r'.sz/\cap<=maxLen/\r'.els.length<=cap /\
         ∀i j cs x,r'.els[i]?=some cs->cs[j]?=some x->∃v,cur[i*r'.sz+j]?=some v/\RV w (aS β l' (β l)) (aS (aS H l .dead) l' (.live r)) (Im K (aS β l' (β l)) (aS (aS H l .dead) l' (.live r))) x v:=by
   intro q r' h b hb
   subst hb
   obtain⟨h1,h2,h3⟩:=hr.rows q r' h
   refine⟨h1,h2,?_⟩
   cases Oc:β q with
   |none=>simpa[Oc] using h3
   |some g=>
   simp only[Oc] at h3 ⊢
   obtain⟨cur,e0,cap,e1,e2,e3,e4,e5⟩:=h3
   refine⟨cur,e0,cap,e1,e2,e3,e4,λi j cs x hi hj=> ?_⟩
   obtain⟨v,k1,k2⟩:=e5 i j cs x hi hj
   exact⟨v,k1,RV.mono _ _ (d_ _ (λp hp=>hr.cB q r' h cs (af3 hi) p (dW _ _ _ hj p hp))) k2⟩
 refine⟨hr.defers,hr.size,λn=>RV.mono _ _ (d_ _ (hr.iq n)) (hr.jc n),?_,?_,?_,?_,?_,hr.frame,?_,?_,?_⟩
 · intro q r' h
   by_cases e:q=l'
   · subst e
     simp at h;subst h
     exact hold l r hl _ ajL
   rw[an _ _ e] at h
   by_cases e2:q=l
   · subst e2;simp at h
   rw[an _ _ e2] at h
   exact hold q r' h _ (an _ _ e)
 · intro q g h hg
   by_cases e:q=l'
   · subst e
     simp at hg
     exact hr.own l g ⟨r,hl⟩ hg
   rw[an _ _ e] at hg
   exact hr.own q g (aT q h e).1 hg
 · intro l1 l2 g h1 h2 g1 g2
   by_cases e1:l1=l'
   · by_cases e2:l2=l'
     · rw[e1,e2]
     subst e1
     simp at g1
     rw[an _ _ e2] at g2
     exact absurd (hr.inj l2 l g (aT l2 h2 e2).1 ⟨r,hl⟩ g2 g1) (aT l2 h2 e2).2
   rw[an _ _ e1] at g1
   by_cases e2:l2=l'
   · subst e2
     simp at g2
     exact absurd (hr.inj l1 l g (aT l1 h1 e1).1 ⟨r,hl⟩ g1 g2) (aT l1 h1 e1).2
   rw[an _ _ e2] at g2
   exact hr.inj l1 l2 g (aT l1 h1 e1).1 (aT l2 h2 e2).1 g1 g2
 · intro n q hq
   by_cases e:q=l'
   · subst e;simp
   rw[an _ _ e]
   by_cases e2:q=l
   · subst e2;simp
   rw[an _ _ e2];exact hr.iq n q hq
 · intro l1 r1 h cs aZ q hq
   by_cases e:q=l'
   · subst e;simp
   rw[an _ _ e]
   by_cases e2:q=l
   · subst e2;simp
   rw[an _ _ e2]
   by_cases e1:l1=l'
   · subst e1
     simp at h;subst h
     exact hr.cB l r hl cs aZ q hq
   rw[an _ _ e1] at h
   by_cases e3:l1=l
   · subst e3;simp at h
   rw[an _ _ e3] at h
   exact hr.cB l1 r1 h cs aZ q hq
 · intro g cs hg
   obtain⟨h1,h2,h3⟩:=hr.iO g cs hg
   exact⟨((d_ [] ajL).im g h1 h2).1,h2,dD.mono (d_ [] ajL).tojt h1 h2 h3⟩
 · intro q hq
   obtain⟨h1,h2⟩:=hr.jv q hq
   have e:q≠l':=λe=>h1 (e▸hu)
   refine⟨?_,λh=> ?_⟩
   · rw[an _ _ e]
     by_cases e2:q=l
     · subst e2;simp
     rw[an _ _ e2];exact h1
   grind [an]
 intro q g h hq hg
 by_cases e:q=l'
 · subst e
   simp at hg
   exact hr.fr l g ⟨r,hl⟩ (hf hq) hg
 rw[an _ _ e] at hg
 exact hr.fr q g (aT q h e).1 hq hg
theorem pq {w:World} {g:Nat} {cur cur':Array Value} {e:TypeId} {fr:Nat×Nat} (hg:w.heap[g]?=some (.cells cur e fr)) (hs:cur'.size=cur.size) (k S:Nat) (h:oy w k=some S) :
  oy (w.setRow g cur') k=some S:=by
 by_cases e:k=g
 ·subst e;unfold oy at *;rw[setRow_heap w k cur cur' _ fr hg]
  grind
 unfold oy at *
 rwa[setRow_other w g k cur' e]
def aO.setRow (hr:aO K β env H a w) (l:Lb) {r r':Row} {g:Nat} {cur cur':Array Value} {e:TypeId} {cap:Nat} (hl:H l= .live r) (hb:β l=some g)
   (hg:w.heap[g]?=some (.cells cur e (0,0))) (hs:cur'.size=cur.size) (j9:r'.sz=r.sz) (C7:cur.size=cap*r.sz) (R4:cap<=maxLen) (hlen:r'.els.length<=cap)
   (aZ:∀cs∈r'.els,cs.length=r.sz) (hm:∀cs∈r'.els,∀l'∈ai cs,H l'≠ .unused)
   (hc:∀i j cs x,r'.els[i]?=some cs->cs[j]?=some x->∃v,cur'[i*r.sz+j]?=some v/\RV w β H (Im K β H) x v) :
   aO K β env (aS H l (.live r')) a (w.setRow g cur'):=by
 have aT:∀q,live (aS H l (.live r')) q↔live H q:=by
   intro q
   by_cases e:q=l
   · subst e;simp[live,hl]
   simp[live,an _ _ e]
 have Od:∀k,Im K β (aS H l (.live r')) k↔Im K β H k:=by
   intro k
   simp only[Im,aT]
 have d_:∀ls,ic w (w.setRow g cur') β β H (aS H l (.live r')) (Im K β H) (Im K β (aS H l (.live r'))) ls:=λls=>
   { im := fun k hk EG => by
       have cf:k≠g:=λe=>hk.2 l ⟨r,hl⟩ (e▸hb)
       exact⟨(Od k).2 hk,by simpa[World.setRow] using EG,setRow_other w g k cur' cf⟩
     lb:=λq _ hq=>⟨(aT q).1 hq,rfl,λg' S _ h=>pq hg hs g' S h⟩}
 refine⟨hr.defers,hr.size,λn=>RV.mono _ _ (d_ _) (hr.jc n),?_,λq g' h=>hr.own q g' ((aT q).1 h),λl1 l2 g' h1 h2=>hr.inj l1 l2 g' ((aT l1).1 h1) ((aT l2).1 h2),?_,?_,?_,?_,?_,λq g' h=>hr.fr q g' ((aT q).1 h)⟩
 · intro q r1 h
   by_cases e1:q=l
   · subst e1
     simp at h;subst h
     refine⟨by rw[j9];exact(hr.rows q r hl).1,by rw[j9];exact aZ,?_⟩
     simp only[hb]
     refine⟨cur',e,cap,setRow_heap w g cur cur' e (0,0) hg,by rw[hs,C7,j9],R4,hlen,λi j cs x hi hj=> ?_⟩
     obtain⟨v,k1,k2⟩:=hc i j cs x hi hj
     exact⟨v,by rw[j9];exact k1,RV.mono _ _ (d_ _) k2⟩
   rw[an _ _ e1] at h
   obtain⟨h1,h2,h3⟩:=hr.rows q r1 h
   refine⟨h1,h2,?_⟩
   cases Oc:β q with
   |none=>simpa[Oc] using h3
   |some g'=>
   simp only[Oc] at h3 ⊢
   have cf:g'≠g:=λe=>e1 (hr.inj q l g ⟨r1,h⟩ ⟨r,hl⟩ (e▸Oc) hb)
   obtain⟨adC,e0,adD,k1,k2,k3,k4,k5⟩:=h3
   refine⟨adC,e0,adD,(setRow_other w g g' cur' cf).trans k1,k2,k3,k4,λi j cs x hi hj=> ?_⟩
   obtain⟨v,j1,j2⟩:=k5 i j cs x hi hj
   exact⟨v,j1,RV.mono _ _ (d_ _) j2⟩
 · intro n q hq
   by_cases e1:q=l
   · subst e1;simp
   rw[an _ _ e1];exact hr.iq n q hq
 · intro l1 r1 h cs aaF q hq
   by_cases e1:q=l
   · subst e1;simp
   rw[an _ _ e1]
   by_cases e2:l1=l
   · subst e2
     simp at h;subst h
     exact hm cs aaF q hq
   rw[an _ _ e2] at h
   exact hr.cB l1 r1 h cs aaF q hq
 · refine⟨hr.frame.os,hr.frame.tape,hr.frame.output,by simpa[World.setRow] using hr.frame.size,λk hk hd=> ?_,λk S hS=>pq hg hs k S (hr.frame.bs k S hS)⟩
   have cf:k≠g:=by
     intro e1
     subst e1
     rcases hr.own l k ⟨r,hl⟩ hb with h1|h1
     · exact hd h1
     omega
   rw[setRow_other w g k cur' cf]
   exact hr.frame.block k hk hd
 · intro k cs hk
   obtain⟨h1,h2,h3⟩:=hr.iO k cs hk
   exact⟨((d_ []).im k h1 h2).1,((d_ []).im k h1 h2).2.1,dD.mono (d_ []).tojt h1 h2 h3⟩
 intro q hq
 obtain⟨h1,h2⟩:=hr.jv q hq
 refine⟨?_,λh=>h2 ((aT q).1 h)⟩
 by_cases e1:q=l
 · subst e1;simp
 rw[an _ _ e1];exact h1
end

def eV (m:Option Nat) (x:AV) (H:Hp):Option AV:=
 match x with
 | .ptr l sz i j=>match H l with
  | .live r=>if r.sz=sz then(r.els[i]?).bind λcs=>match m with
    |none=>cs[j]?
    |some k=>if j+k<=cs.length then some (.agg ((cs.drop j).take k)) else none
   else none
  |_=>none
 |_=>none
def kF (m:Nat) (a x:AV) (H:Hp):Option Hp:=
 match a with
 | .ptr l sz i j=>match H l with
  | .live r=>if r.sz=sz/\x.Bq=true/\x.cells.length=m then(r.els[i]?).bind λcs=>
    if j+m<=cs.length then some (aS H l (.live ⟨sz,r.els.set i (cs.take j++x.cells++cs.drop (j+m))⟩)) else none
   else none
  |_=>none
 |_=>none
def me (K:Kx) (env:Env) (a:Act) (w:World) (o:Oper) (d:Option Nat) (x:AV) (H':Hp):Prop:=
 ∃nx w' β' v,(execOp a.eval o).run K.P w= .ok nx w'/\(nx= .value v\/(nx= .skip/\v=undef))/\aO K β' (eh env d x) H' (a.put d v) w'
section
variable {K:Kx} {β:Lb->Option Nat} {env:Env} {H:Hp} {a:Act} {w:World}
def a7.r {o:Oper} {x:AV} {d:Option Nat} (hr:aO K β env H a w) (hd:∀n,d=some n->n<K.N) (h:a7 K β H a w o x):me K env a w o d x H:=by
 obtain⟨v,w',h1,h2,h3,h4⟩:=h;exact⟨_,w',β,v,h1,.inl rfl,hr.step h2 hd (λ_=>h3) (λ_=>h4)⟩
def yg.block {l:Lb} {r:Row} {g:Nat} {I:Nat->Prop} (h:yg w β H I l r) (hb:β l=some g) :
  ∃cur e cap,w.heap[g]?=some (.cells cur e (0,0))/\cur.size=cap*r.sz/\cap<=maxLen/\r.els.length<=cap /\
   ∀i j cs x,r.els[i]?=some cs->cs[j]?=some x->∃v,cur[i*r.sz+j]?=some v/\RV w β H I x v:=by
 obtain⟨_,_,h3⟩:=h;simpa only[hb] using h3
def Ly {r:Row} {cur:Array Value} {I:Nat->Prop} {i:Nat} {cs:List AV} (hi:r.els[i]?=some cs)
  (h:∀i j cs x,r.els[i]?=some cs->cs[j]?=some x->∃v,cur[i*r.sz+j]?=some v/\RV w β H I x v) :
  ∃vs:List Value,vs.length=cs.length/\bA w β H I cs vs/\∀j v,vs[j]?=some v->cur[i*r.sz+j]?=some v:=by
 have key:∀(n:Nat) (ds:List AV),ds=cs.drop n->∃vs:List Value,vs.length=ds.length/\bA w β H I ds vs/\∀j v,vs[j]?=some v->cur[i*r.sz+(n+j)]?=some v:=by
  intro n ds;induction ds generalizing n with
  |nil=>simp[bA]
  |cons x ds ih=>
  intro e;have hx:cs[n]?=some x:=by grind [aii]
  have hd:ds=cs.drop (n+1):=by grind [List.tail_drop]
  obtain⟨v,h1,h2⟩:=h i n cs x hi hx;obtain⟨vs,k1,k2,k3⟩:=ih (n+1) hd;refine⟨v::vs,by simp[k1],⟨v,vs,rfl,h2,k2⟩,?_⟩
  grind
 obtain⟨vs,k1,k2,k3⟩:=key 0 cs ajL
 grind
def AV.Lz {x:AV} (h:x.Bq=true):∀y∈x.cells,y.one=true:=by
 cases x<;>simp[AV.Bq,AV.one] at h<;>simp[AV.cells,AV.one];exact h
def zb (K:Kx) (β:Lb->Option Nat) (H:Hp) (a:Act) (w:World) (o:Oper) (x:AV):Prop:=
 ∃v,(execOp a.eval o).run K.P w= .ok (.value v) w/\RV w β H (Im K β H) x v/\∀l∈x.aq,H l≠ .unused
def zb.v {o:Oper} {x:AV} (h:zb K β H a w o x):a7 K β H a w o x:=by
 obtain⟨v,h1,h2,h3⟩:=h;exact .same h1 h2 h3
def zb.same {o:Oper} {x:AV} {v:Value} (h:(execOp a.eval o).run K.P w= .ok (.value v) w)
 (hv:RV w β H (Im K β H) x v) (hm:∀l∈x.aq,H l≠ .unused):zb K β H a w o x:=⟨v,h,hv,hm⟩
def JP (hr:aO K β env H a w) {o:Oper} {t:TypeId} {x:Operand} {x':O} {m:Option Nat} (ho:o.op= .load t x) (hm:Sr K.P t=some m) (hx:co K.G x=some x') {y:AV}
  (hy:eV m (ev env x') H=some y):zb K β H a w o y:=by
 have h:=hr.ev hx;unfold eV at hy;split at hy
 ·rename_i l sz i j e;rw[e] at h;obtain⟨ad,h1,h2⟩:=h;split at hy
  ·rename_i r hl;split at hy
   ·rename_i j9;subst j9;obtain⟨cs,hi,hy⟩:=afX.1 hy;obtain⟨g,hb,rfl⟩:=h2 ⟨r,hl⟩;obtain⟨cur,e0,cap,k1,k2,k3,k4,k5⟩:=(hr.rows l r hl).block hb;obtain⟨vs,v1,v2,v3⟩:=Ly hi k5;have qw:∀q v,vs[q]?=some v->w.cell? ⟨g,i*r.sz+q,none⟩=some v:=by
     intro q v hq;rw[cell_of_row w g _ cur e0 (0,0) k1]
     grind
    have run:∀v,(loadVar t ⟨g,i*r.sz+j,none⟩).run K.P w= .ok v w->(execOp a.eval o).run K.P w= .ok (.value v) w:=by
     intro v hv;simp[execOp,ho,h1,Instr.loadAt,Instr.sureAddr,hv]
    have Vf:∀q∈ai cs,H q≠ .unused:=hr.cB l r hl cs (af3 hi);cases m with
    |none=>
     simp only at hy;obtain⟨v,e1,e2⟩:=bA.get _ _ _ _ v2 hy;exact zb.same (run v (pX hm _ _ (qw j v e1))) e2 (λq hq=>Vf q (dW _ _ _ hy q hq))
    |some k=>
    simp only at hy;split at hy
    ·rename_i hk;simp at hy;subst hy;refine zb.same (run (.agg ((vs.drop j).take k).toArray) (pV hm _ _ ajV (λq v hq=> ?_))) ⟨_,rfl,bA.take _ _ _ (bA.drop _ _ _ v2)⟩ ?_
     ·grind [addr_add]
     intro q hq;simp only[AV.aq] at hq;refine Vf q ?_;have Bv:∀(l m:List AV),ai (l++m)=ai l++ai m:=by
      intro l m;induction l with
      |nil=>rfl
      |cons x r ih=>grind [ai]
     have e1:=Bv (cs.take j) (cs.drop j)
     grind [agD,agi]
    grind
   grind
  grind
 grind
def Wx (hr:aO K β env H a w) {o:Oper} {t:TypeId} {x:Operand} {x':O} {m:Option Nat} (ho:o.op= .load t x) (hm:Sr K.P t=some m) (hx:co K.G x=some x') {y:AV}
 (hy:eV m (ev env x') H=some y):a7 K β H a w o y:=(JP hr ho hm hx hy).v
def Vg (hr:aO K β env H a w) {o:Oper} {c:Array Value} {e:TypeId} {cs:List AV} {d:Nat} (hd:d<K.N)
   (mm:(execOp a.eval o).run K.P w= .ok (.value (.pointer (some ⟨w.heap.size,0,none⟩))) (w.alloc (.cells c e)))
   (hc:bA w β H (Im K β H) cs c.toList) (h0:0<cs.length) (Sw:cs.length<=maxLen) (hm:∀l∈ai cs,H l≠ .unused) (hu:H (.loc d)= .unused) :
   me K env a w o (some d) (.ptr (.loc d) cs.length 0 0) (aS H (.loc d) (.live ⟨cs.length,[cs]⟩)):=by
 have gw:=iA w (.cells c e)
 have hlen:c.size=cs.length:=by rw[<-bA.len _ _ hc];simp
 have d_:ic w (w.alloc (.cells c e)) β (aS β (.loc d) (some w.heap.size)) H (aS H (.loc d) (.live ⟨cs.length,[cs]⟩)) (Im K β H)
     (Im K (aS β (.loc d) (some w.heap.size)) (aS H (.loc d) (.live ⟨cs.length,[cs]⟩))) (ai cs):=
   { im := fun k hk hs => ⟨⟨hk.1,fun l' ⟨r',gR⟩ => by
       by_cases e1:l'= .loc d
       · subst e1;simp;omega
       rw[an _ _ e1] at gR ⊢;exact hk.2 l' ⟨r',gR⟩⟩,ahi hs gw.size,gw.block k hs⟩
     lb:=λl' Ww ⟨r',gR⟩=>by
       have e1:l'≠ .loc d:=λe1=>hm l' Ww (e1▸hu)
       rw[an _ _ e1] at gR
       refine⟨⟨r',gR⟩,an _ _ e1,λg S _ hS=> ?_⟩
       unfold oy at *
       rwa[gw.block g (HJ hS)]}
 have oE:yg (w.alloc (.cells c e)) (aS β (.loc d) (some w.heap.size)) (aS H (.loc d) (.live ⟨cs.length,[cs]⟩))
     (Im K (aS β (.loc d) (some w.heap.size)) (aS H (.loc d) (.live ⟨cs.length,[cs]⟩))) (.loc d) ⟨cs.length,[cs]⟩:=by
   refine⟨h0,ajL,?_⟩
   simp only[lD]
   refine⟨c,e,1,heap_alloc_new w (.cells c e),by simp[hlen],akZ,ajL,λi j fB x hi hj=> ?_⟩
   cases i with
   |succ i=>grind
   |zero=>
   simp at hi;subst hi
   obtain⟨v,k1,k2⟩:=bA.get _ _ _ _ hc hj
   refine⟨v,amI,RV.mono _ _ (d_.sub (λl hl=>dW _ _ _ hj l hl)) k2⟩
 have h2:=hr.qx (.loc d) hu gw (some w.heap.size) ajL ajV oE
 have h3:=h2.step (Below.refl _ _) (d:=some d) (x:= .ptr (.loc d) cs.length 0 0) (v:= .pointer (some ⟨w.heap.size,0,none⟩)) ajV
   (λ_=>by simp only[RV];exact⟨_,rfl,λ_=>⟨w.heap.size,ajL,ajL⟩⟩) ajP
 exact⟨_,_,_,_,mm,.inl rfl,h3⟩
def aaG (hr:aO K β env H a w) {o:Oper} {t:TypeId} {x:Operand} {x':O} {d:Nat} (hd:d<K.N) (ho:o.op= .box t x) (hx:co K.G x=some x') (fG:(ev env x').Bq=true)
  (h0:0<(ev env x').cells.length) (Sw:(ev env x').cells.length<=maxLen) (hu:H (.loc d)= .unused) :
  me K env a w o (some d) (.ptr (.loc d) (ev env x').cells.length 0 0) (aS H (.loc d) (.live ⟨(ev env x').cells.length,[(ev env x').cells]⟩)):=by
 have h:=hr.ev hx;have hm:=hr.jG hx;obtain⟨k1,k2⟩:=bA.wb h (AV.HB fG);refine Vg hr hd (c:=(a.eval x).cells) (e:=t) ?_ k2 h0 Sw ?_ hu
 ·simp[execOp,ho,Instr.box,newVar,newRow]
 intro l hl;refine hm l ?_;cases hc:ev env x'<;>simp[hc,AV.cells,ai] at hl<;>simp[AV.aq] at hl ⊢<;>exact hl
theorem mV:∀(l:List Value) (xs:List AV),y7 l=some xs->ai xs=[]
 |[],xs,h=>by simp[y7] at h;subst h;rfl
 |v::r,xs,h=>by
  simp[y7,afX,acF] at h;obtain⟨x,h1,s,h2,rfl⟩:=h;simp[ai,Hv h1,mV r s h2]
def Sx (hr:aO K β env H a w) {o:Oper} {t:TypeId} {i:TypeInfo} {z:Value} {cs:List AV} {d:Nat} (hd:d<K.N) (ho:o.op= .alloc t) (hi:K.P.info? t=some i) (hz:i.zero=some z)
  (Bu:y7 z.cells.toList=some cs) (h0:0<cs.length) (Sw:cs.length<=maxLen) (hu:H (.loc d)= .unused) :
  me K env a w o (some d) (.ptr (.loc d) cs.length 0 0) (aS H (.loc d) (.live ⟨cs.length,[cs]⟩)):=by
 refine Vg hr hd (c:=z.cells) (e:=t) ?_ (mU _ _ Bu _ _ _ _) h0 Sw (by simp[mV _ _ Bu]) hu;simp[execOp,ho,Instr.alloc,zeroValue,typeInfo,hi,hz,newVar,newRow]
def Sy (hr:aO K β env H a w) {o:Oper} {t:TypeId} {x y:Operand} {x' y':O} {m:Nat} (ho:o.op= .store t x y) (hm:Be K.P t=some m) (hx:co K.G x=some x') (hy:co K.G y=some y') {H':Hp}
  (hs:kF m (ev env x') (ev env y') H=some H'):me K env a w o none .un H':=by
 have h:=hr.ev hx;have h2:=hr.ev hy;have hmy:=hr.jG hy;unfold kF at hs;split at hs
 ·rename_i l sz i j e;rw[e] at h;simp only[RV] at h;obtain⟨ad,h1,h3⟩:=h;split at hs
  ·rename_i r hl;split at hs
   ·rename_i hc;obtain⟨j9,fG,hlen⟩:=hc;subst j9;obtain⟨cs,hi,hs⟩:=afX.1 hs;split at hs
    ·rename_i hjm;simp only[afZ] at hs;subst hs;obtain⟨g,hb,rfl⟩:=h3 ⟨r,hl⟩;obtain⟨cur,e0,cap,k1,k2,k3,k4,k5⟩:=(hr.rows l r hl).block hb;obtain⟨c1,c2⟩:=bA.wb h2 (AV.HB fG);have je:i<r.els.length:=(afY.1 hi).1;have yA:cs.length=r.sz:=(hr.rows l r hl).2.1 cs (af3 hi);have hbound:i*r.sz+r.sz<=cur.size:=by
      rw[k2,<-Nat.succ_mul];exact agy _ ajK
     have LA:(a.eval y).cells.toList.length=m:=ajY;have aaH:=run_storeCells_at K.P g (i*r.sz+j) e0 (a.eval y).cells.toList 0 cur w k1 ajK (by
      intro u hu;obtain⟨q,hq⟩:=agE hu;have hql:q<(ev env y').cells.length:=by
       have:=(afY.1 hq).1;omega
      obtain⟨u',e1,e2⟩:=bA.get _ _ q _ c2 (af7 hql);rw[hq] at e1;cases e1;exact RV.ur e2 (AV.Lz fG _ (ahY hql)))
     simp only[ahs] at aaH;have mm:(execOp a.eval o).run K.P w= .ok .skip (w.setRow g (cur.toList.take (i*r.sz+j)++(a.eval y).cells.toList++cur.toList.drop (i*r.sz+j+(a.eval y).cells.toList.length)).toArray):=by
      have cf:¬(a.eval y).cells.size≠m:=(by simp at LA;simp[LA]);simp only[execOp,ho,h1,Instr.storeAt,Instr.sureAddr,Sem.run_bind,Sem.run_pure,Result.andThen_ok,storeVar,dy hm,Sem.run_ite,cf,agk,aaH]
     have uw:(cur.toList.take (i*r.sz+j)++(a.eval y).cells.toList++cur.toList.drop (i*r.sz+j+(a.eval y).cells.toList.length)).toArray.size=cur.size:=by
      simp only[aiG,age,agA,ahe,aie];simp at LA;omega
     have od:=hr.setRow l (r':=⟨r.sz,r.els.set i (cs.take j++(ev env y').cells++cs.drop (j+m))⟩) hl hb k1 uw rfl k2 k3 amM ?_ ?_ ?_
     ·have:=od.step (Below.refl _ _) (d:=none) (x:= .un) (v:=undef) ajL ajL ajL;exact⟨_,_,_,_,mm,.inr ⟨rfl,rfl⟩,this⟩
     ·intro ds Bw;rcases ahq Bw with Bw|rfl
      ·exact(hr.rows l r hl).2.1 ds Bw
      simp;omega
     ·intro ds Bw q hq;rcases ahq Bw with Bw|rfl
      ·exact hr.cB l r hl ds Bw q hq
      have Bv:∀(l m:List AV),ai (l++m)=ai l++ai m:=by
       intro l m;induction l with
       |nil=>rfl
       |cons x r ih=>simp[ai,ih]
      rw[Bv,Bv,agi,agi] at hq;have aZ:=hr.cB l r hl cs (af3 hi);rcases hq with(hq|hq)|hq
      ·have e1:=Bv (cs.take j) (cs.drop j);rw[agD] at e1;exact aZ q (by rw[e1];exact agi.2 (.inl hq))
      ·refine hmy q ?_;cases hc:ev env y'<;>simp[hc,AV.cells,ai] at hq<;>simp[AV.aq] at hq ⊢<;>exact hq
      have e1:=Bv (cs.take (j+m)) (cs.drop (j+m));rw[agD] at e1;exact aZ q (by rw[e1];exact agi.2 (.inr hq))
     intro i' j' ds x gT nI;have hlc:(a.eval y).cells.toList.length=m:=LA;have bU:∀n,((cur.toList.take (i*r.sz+j)++(a.eval y).cells.toList++cur.toList.drop (i*r.sz+j+(a.eval y).cells.toList.length)).toArray)[n]? =
       if n<i*r.sz+j then cur[n]? else if n<i*r.sz+j+m then(a.eval y).cells.toList[n - (i*r.sz+j)]? else cur[n]?:=by
      intro n;rw[hlc];have ht:(cur.toList.take (i*r.sz+j)).length=i*r.sz+j:=ajY;simp only[ajq];by_cases JJ:n<i*r.sz+j
      ·rw[agc JJ,agM,agB ajK,agG,agc JJ];simp
      rw[af8 JJ];by_cases Hj:n<i*r.sz+j+m
      ·rw[agc Hj,agM,agr ajK,ht,agB ajK]
      rw[af8 Hj,agr (by simp only[age];omega)];simp only[age,ht,hlc,ahv,ahD];congr 1;omega
     by_cases e1:i'=i
     ·subst e1;rw[ahj je] at gT;simp only[afZ] at gT;subst gT;have yk:(cs.take j).length=j:=ajY;rw[agM] at nI;by_cases HK:j'<j
      ·rw[agB ajK,agG,agc HK] at nI;obtain⟨v,q1,q2⟩:=k5 i' j' cs x hi nI;exact⟨v,by rw[bU,agc ajK];exact q1,q2⟩
      rw[agr ajK,yk] at nI;by_cases qy:j'<j+m
      ·rw[agB ajK] at nI;obtain⟨v,q1,q2⟩:=bA.get _ _ _ _ c2 nI;refine⟨v,?_,q2⟩;rw[bU,af8 ajK,agc ajK,show i'*r.sz+j' - (i'*r.sz+j)=j' - j by omega];exact q1
      rw[agr ajK,ahv] at nI;have hjj:j+m+(j' - j - (ev env y').cells.length)=j':=ajK;rw[hjj] at nI;obtain⟨v,q1,q2⟩:=k5 i' j' cs x hi nI;exact⟨v,by rw[bU,af8 ajK,af8 ajK];exact q1,q2⟩
     rw[ahg (agQ e1)] at gT;obtain⟨v,q1,q2⟩:=k5 i' j' ds x gT nI;refine⟨v,?_,q2⟩;have afF:j'<r.sz:=by
      have:=(hr.rows l r hl).2.1 ds (af3 gT);have:=(afY.1 nI).1;omega
     have Wy:i'*r.sz+j'<i*r.sz\/i*r.sz+r.sz<=i'*r.sz+j':=by
      rcases Nat.lt_or_gt_of_ne e1 with aF|xw
      ·left;have:=agy r.sz (show i'+1<=i by omega);rw[ag0] at this;omega
      right;have:=agy r.sz (show i+1<=i' by omega);rw[ag0] at this;omega
     rw[bU];rcases Wy with Wy|Wy
     ·rw[agc ajK];exact q1
     rw[af8 ajK,af8 ajK];exact q1
    simp at hs
   simp at hs
  simp at hs
 simp at hs
end

open Classical in
noncomputable def kG (sz:Nat) (x:AV) (H:Hp):Option (List (List AV)):=
 match x with
 | .nil0=>some []
 | .list xs=>if dV sz xs then some (xs.map fun y=>y.cells.map IV.dw) else none
 | .str s=>if sz=1 then some (s.map fun c=>[.int .u8 c.toNat]) else none
 | .sl l s i n=>match H l with
  | .live r=>if s=sz∧r.sz=sz∧i+n≤r.els.length then some ((r.els.drop i).take n) else none
  |_=>none
 | .slk l s i n _=>match H l with
  | .live r=>if s=sz∧r.sz=sz∧i+n≤r.els.length then some ((r.els.drop i).take n) else none
  |_=>none
 |_=>none
def AV.oF (x:List AV):Prop:=∀y∈x,y.one=true
open Classical in
noncomputable def iQ (sz bytes d:Nat) (s x:AV) (H:Hp):Option (AV×Hp):=
 (kG sz x H).bind fun news=>if ¬(∀cs∈news,AV.oF cs) then none else
  match s with
  | .nil0=>if news.length*bytes≤140737488355328∧0<bytes∧H (.loc d)= .unused then some (.sl (.loc d) sz 0 news.length,aS H (.loc d) (.live ⟨sz,news⟩)) else none
  | .sl l s' i n=>match H l with
   | .live r=>if s'=sz∧r.sz=sz∧i=0∧n≤r.els.length∧(n+news.length)*bytes≤140737488355328∧0<bytes∧l≠l.app d∧H (l.app d)= .unused then
    some (.sl (l.app d) sz 0 (n+news.length),aS (aS H l .dead) (l.app d) (.live ⟨sz,r.els.take n++news⟩)) else none
   |_=>none
  | .slk l s' i n c=>match H l with
   | .live r=>if s'=sz∧r.sz=sz∧i=0∧n≤r.els.length∧0<bytes∧l≠ .loc d then
    (if n+news.length≤c then(if n+news.length≤r.els.length then some (.slk l sz 0 (n+news.length) c,aS H l (.live ⟨sz,r.els.take n++news++r.els.drop (n+news.length)⟩)) else none)
    else(if(n+news.length)*bytes≤140737488355328∧H (.loc d)= .unused then some (.sl (.loc d) sz 0 (n+news.length),aS H (.loc d) (.live ⟨sz,r.els.take n++news⟩)) else none)) else none
   |_=>none
  |_=>none
section
variable {P:Program} {w:World}
theorem lh {st xt ty e:TypeId} {i:TypeInfo} (hu:P.underlying st=some (.slice e)) (hi:P.info? e=some i) {d:TypeDesc} (hx:P.underlying xt=some d) (hd:d= .string\/∃e2,d= .slice e2)
  (ad:Option Addr) (n c m:Nat) (xv:Value) (vals:Array Value) (hlen:(Builtin.lenOf xv).run P w= .ok m w) (hf:(Builtin.firstCells i.size m xv).run P w= .ok vals w) (hle:n+m<=c) :
  (Builtin.append_ #[st,xt] ty #[.slice ad n c,xv]).run P w=match ad with
   |none=> .ok (.slice none (n+m) c) w
   |some q=>((storeCells (q.add (n*i.size)) vals.toList).run P w).andThen λ_ w'=> .ok (.slice (some q) (n+m) c) w':=by
 rcases hd with rfl|⟨e2,rfl⟩<;>cases ad<;>simp[Builtin.append_,run_underlying hu,run_underlying hx,sizeOf,typeInfo,hi,hlen,hf,hle]
def qz {st xt ty e:TypeId} {i:TypeInfo} {z:Value} (hu:P.underlying st=some (.slice e)) (hi:P.info? e=some i) (hz:i.zero=some z) {d:TypeDesc} (hx:P.underlying xt=some d) (hd:d= .string\/∃e2,d= .slice e2)
  (ad:Option Addr) (n c m:Nat) (xv:Value) (vals olds:Array Value) (hlen:(Builtin.lenOf xv).run P w= .ok m w) (hf:(Builtin.firstCells i.size m xv).run P w.drew= .ok vals w.drew)
  (ho:(Builtin.firstCells i.size n (.slice ad n c)).run P w.drew= .ok olds w.drew) (xw:c<n+m) (hb:(n+m)*i.bytes<=140737488355328) (yB:0<i.bytes) :
  (Builtin.append_ #[st,xt] ty #[.slice ad n c,xv]).run P w= .ok (.slice (some ⟨w.heap.size,0,none⟩) (n+m) (grownCap w (n+m) c e))
   (w.drew.alloc (.cells (olds++vals++Builtin.zeroCells z.cells (grownCap w (n+m) c e - (n+m))) e)):=by
 have hn:¬(n+m<=c):=ajK
 have h63:n+m<=(n+m)*i.bytes:=ahw _ yB;have Wz:¬(9223372036854775807<((n:Int)+(m:Int))):=ajK
 have WA:¬(281474976710656<Builtin.nextslicecap (n+m) c*i.bytes):=amX
 rcases hd with rfl|⟨e2,rfl⟩<;>simp[Builtin.append_,run_underlying hu,run_underlying hx,sizeOf,typeInfo,zeroValue,hi,hz,hlen,hn,Wz,WA,Question.forced,hf,ho,newRow,grownCap]
end
section
variable {K:Kx} {β:Lb->Option Nat} {env:Env} {H:Hp} {a:Act} {w:World}
theorem zc {I:Nat->Prop} {sz:Nat} (h0:0<sz):∀(xs:List IV) (b o:Nat),dV sz xs->cd w I xs b o sz ->
  ∃vals:List Value,vals.length=xs.length*sz/\(∀j v,vals[j]?=some v->w.cell? ⟨b,o+j,none⟩=some v) /\
   ∀i j x y,xs[i]?=some x->(x.cells.map IV.dw)[j]?=some y->∃v,vals[i*sz+j]?=some v/\RV w β H I y v
 |[],b,o,_,_=>⟨[],ajL,ajL,ajL⟩
 |x::r,b,o,hs,he=>by
  simp only[cd] at he;obtain⟨h1,h2⟩:=he;obtain⟨vr,k1,k2,k3⟩:=zc h0 r b (o+sz) (λy hy=>hs y alK) h2;have hx:=(hQ w I x b o sz).1 h1;obtain⟨vx,e1,e2,e3⟩:=bA.C6 (β:=β) (H:=H) x.cells b o hx.2;have hl:vx.length=sz:=by rw[e2,hx.1]
  refine⟨vx++vr,by simp[hl,k1,ag0];omega,?_,?_⟩
  ·intro j v hj;by_cases ZU:j<sz
   ·rw[agB ajK] at hj;exact e3 j v hj
   rw[agr ajK,hl] at hj;have:=k2 _ v hj
   rwa[show o+sz+(j - sz)=o+j by omega] at this
  intro i j x' y hi hj;cases i with
  |zero=>
   simp at hi;subst hi;obtain⟨v,q1,q2⟩:=bA.get _ _ _ _ e1 hj;refine⟨v,?_,q2⟩;have:j<vx.length:=(afY.1 q1).1;simp only[ahM,agh];rw[agB this];exact q1
  |succ i=>
  obtain⟨v,q1,q2⟩:=k3 i j x' y alx hj;refine⟨v,?_,q2⟩;rw[ag0,ai1,agr ajK,hl,show i*sz+sz+j - sz=i*sz+j by omega];exact q1
structure Src (K:Kx) (β:Lb->Option Nat) (H:Hp) (w:World) (sz:Nat) (xv:Value) (news:List (List AV)) (vals:List Value):Prop where
 len:vals.length=news.length*sz
 lenOf:(Builtin.lenOf xv).run K.P w= .ok news.length w
 Oe:∀k,k<=news.length->∀w1,(w1=w\/w1=w.drew)->(Builtin.firstCells sz k xv).run K.P w1= .ok (vals.take (k*sz)).toArray w1
 rv:∀i j cs y,news[i]?=some cs->cs[j]?=some y->∃v,vals[i*sz+j]?=some v/\RV w β H (Im K β H) y v
 R5:∀cs∈news,cs.length=sz
 iq:∀cs∈news,∀l∈ai cs,H l≠ .unused
def Src.cells {K:Kx} {β:Lb->Option Nat} {H:Hp} {w:World} {sz:Nat} {xv:Value} {news:List (List AV)} {vals:List Value} (S:Src K β H w sz xv news vals) :
  ∀w1,(w1=w\/w1=w.drew)->(Builtin.firstCells sz news.length xv).run K.P w1= .ok vals.toArray w1:=λw1 gz=>by
 rw[S.Oe _ (af6 _) w1 gz,af2 (aiD S.len)]
def yC (hr:aO K β env H a w) {x:Operand} {x':O} {sz:Nat} {news:List (List AV)} (hx:co K.G x=some x') (h0:0<sz) (hs:kG sz (ev env x') H=some news) :
  ∃vals,Src K β H w sz (a.eval x) news vals:=by
 have h:=hr.ev hx;unfold kG at hs;split at hs
 ·rename_i e;rw[e] at h;simp only[afZ] at hs;subst hs;simp only[RV] at h;obtain⟨ad,h⟩:=h;rw[h];refine⟨[],ajL,alp,?_,ajL,ajL,ajL⟩;intro k hk w1 _;have pe:k=0:=by simpa using hk
  subst pe;cases ad with
  |none=>simp[Builtin.firstCells]
  |some q=>simp[Builtin.firstCells,loadCells,loadCellsFrom]
 ·rename_i xs e;rw[e] at h;split at hs
  ·rename_i j5;simp only[afZ] at hs;subst hs;simp only[RV,iM] at h;obtain⟨ad,c,h1,h2,h3,h4⟩:=h;rw[h1];rcases h4 with h4|⟨b,o',R5,rfl,e1,e2,e3,e4⟩
   ·have:xs=[]:=agU h4;subst this;refine⟨[],ajL,alp,?_,ajL,ajL,ajL⟩;intro k hk w1 _;have pe:k=0:=amF;subst pe;cases ad with
    |none=>simp[Builtin.firstCells]
    |some q=>simp[Builtin.firstCells,loadCells,loadCellsFrom]
   by_cases hn:xs=[]
   ·subst hn;refine⟨[],ajL,alp,?_,ajL,ajL,ajL⟩;intro k hk w1 _;have pe:k=0:=amF;subst pe;simp[Builtin.firstCells,loadCells,loadCellsFrom]
   have j9:=BX e4 j5 (ahL.2 hn);subst j9;obtain⟨vals,k1,k2,k3⟩:=zc (β:=β) (H:=H) h0 xs b o' j5 e4;refine⟨vals,amI,alp,?_,?_,?_,?_⟩
   ·intro k hk w1 gz;simp only[eD] at hk;have xx:k*R5<=vals.length:=(by rw[k1];exact agy _ amF);refine run_firstCells_some (P:=K.P) w1 _ k ⟨b,o',none⟩ xs.length c _ ali (λj v hj=> ?_);rw[addr_add]
    replace hj:vals[j]?=some v:=by
     rw[agG] at hj;split at hj
     ·exact hj
     simp at hj
    rcases gz with rfl|rfl
    ·exact k2 j v hj
    simpa using k2 j v hj
   ·intro i j cs y hi hj;simp only[ago,acF] at hi;obtain⟨x0,hi,rfl⟩:=hi;exact k3 i j x0 y hi hj
   ·intro cs aZ;simp only[agp] at aZ;obtain⟨x0,SA,rfl⟩:=aZ;simpa using j5 x0 SA
   intro cs aZ l hl;simp only[agp] at aZ;obtain⟨x0,SA,rfl⟩:=aZ;simp[pn] at hl
  simp at hs
 ·rename_i s e;rw[e] at h;split at hs
  ·rename_i h1;subst h1;simp only[afZ] at hs;subst hs;simp only[RV] at h;rw[h];refine⟨s.map λc=> .int .u8 c.toNat,ajL,by simp[Builtin.lenOf,qv],?_,?_,?_,?_⟩
   ·intro k hk w1 _;have e1:(⟨s.toArray⟩:ByteArray).extract 0 k=⟨(s.take k).toArray⟩:=by
     apply ByteArray.ext;rw[ajo];simp
    simp[Builtin.firstCells,e1,ahH]
   ·intro i j cs y hi hj;simp only[ago,acF] at hi;obtain⟨c,hi,rfl⟩:=hi;cases j with
    |succ j=>simp at hj
    |zero=>
    simp at hj;subst hj;exact⟨.int .u8 c.toNat,amy,ake⟩
   ·intro cs aZ;simp only[agp] at aZ;obtain⟨c,_,rfl⟩:=aZ;rfl
   intro cs aZ l hl;simp only[agp] at aZ;obtain⟨c,_,rfl⟩:=aZ;simp[ai,AV.aq] at hl
  simp at hs
 ·rename_i l s i n e;rw[e] at h;split at hs
  ·rename_i r hl;split at hs
   ·rename_i hc;obtain⟨rfl,j9,qe⟩:=hc;subst j9;simp only[afZ] at hs;subst hs;simp only[RV] at h;obtain⟨ad,c,h1,h2,h3,h4,h5⟩:=h;rw[h1];have xy:((r.els.drop i).take n).length=n:=ajY;by_cases hn:n=0
    ·exact aae
    rcases h5 ⟨r,hl⟩ with h6|⟨g,S,e1,rfl,e3,e4⟩
    ·omega
    obtain⟨cur,e0,cap,k1,k2,k3,k4,k5⟩:=(hr.rows l r hl).block e1;have hS:cur.size=S:=by
     unfold oy at e3;simp only[k1] at e3;simpa using e3
    have hb:i*r.sz+n*r.sz<=cur.size:=by
     rw[k2,<-ag0];exact agy _ ajK
    refine⟨(cur.toList.drop (i*r.sz)).take (n*r.sz),by rw[xy];simp;omega,by rw[xy];simp[Builtin.lenOf],?_,?_,?_,?_⟩
    ·intro k hk w1 gz;rw[xy] at hk;have zd:=agy r.sz hk;refine run_firstCells_some (P:=K.P) w1 _ k ⟨g,i*r.sz,none⟩ n c _ ajY (λj v hj=> ?_);rw[addr_add]
     replace hj:((cur.toList.drop (i*r.sz)).take (n*r.sz))[j]?=some v:=by
      rw[agG] at hj;split at hj
      ·exact hj
      simp at hj
     have qw:w.cell? ⟨g,i*r.sz+j,none⟩=some v:=by
      rw[cell_of_row w g _ cur e0 (0,0) k1];rw[agG] at hj;split at hj
      ·simpa using hj
      simp at hj
     rcases gz with rfl|rfl
     ·exact qw
     simpa using qw
    ·exact aab
    ·intro cs aZ;exact(hr.rows l r hl).2.1 cs (ahf (agH aZ))
    intro cs aZ;exact hr.cB l r hl cs (ahf (agH aZ))
   simp at hs
  simp at hs
 ·rename_i l s i n c0 e;rw[e] at h;split at hs
  ·rename_i r hl;split at hs
   ·rename_i hc;obtain⟨rfl,j9,qe⟩:=hc;subst j9;simp only[afZ] at hs;subst hs;simp only[RV] at h;obtain⟨ad,h1,h2,h3,h4,h5⟩:=h;rw[h1];have xy:((r.els.drop i).take n).length=n:=ajY;by_cases hn:n=0
    ·exact aae
    rcases h5 ⟨r,hl⟩ with h6|⟨g,S,e1,rfl,e3,e4⟩
    ·omega
    obtain⟨cur,e0,cap,k1,k2,k3,k4,k5⟩:=(hr.rows l r hl).block e1;have hS:cur.size=S:=by
     unfold oy at e3;simp only[k1] at e3;simpa using e3
    have hb:i*r.sz+n*r.sz<=cur.size:=by
     rw[k2,<-ag0];exact agy _ ajK
    refine⟨(cur.toList.drop (i*r.sz)).take (n*r.sz),by rw[xy];simp;omega,by rw[xy];simp[Builtin.lenOf],?_,?_,?_,?_⟩
    ·intro k hk w1 gz;rw[xy] at hk;have zd:=agy r.sz hk;refine run_firstCells_some (P:=K.P) w1 _ k ⟨g,i*r.sz,none⟩ n c0 _ ajY (λj v hj=> ?_);rw[addr_add]
     replace hj:((cur.toList.drop (i*r.sz)).take (n*r.sz))[j]?=some v:=by
      rw[agG] at hj;split at hj
      ·exact hj
      simp at hj
     have qw:w.cell? ⟨g,i*r.sz+j,none⟩=some v:=by
      rw[cell_of_row w g _ cur e0 (0,0) k1];rw[agG] at hj;split at hj
      ·simpa using hj
      simp at hj
     rcases gz with rfl|rfl
     ·exact qw
     simpa using qw
    ·exact aab
    ·intro cs aZ;exact(hr.rows l r hl).2.1 cs (ahf (agH aZ))
    intro cs aZ;exact hr.cB l r hl cs (ahf (agH aZ))
   simp at hs
  simp at hs
 simp at hs
end
end Go.Am

namespace Go.Am
open Go Go.RowKit
theorem JQ {γ:Type} (f:Lb->γ) (l:Lb) (x y:γ):aS (aS f l x) l y=aS f l y:=by
 funext q;by_cases h:q=l
 ·subst h;simp
 grind [an]
def comb {R:AV->Value->Prop} {sz n:Nat} (A B:List (List AV)) (hA:A.length=n) (R6:∀cs∈A,cs.length=sz) (hBs:∀cs∈B,cs.length=sz) (olds vals rest:List Value) (ho:olds.length=n*sz) (hv:vals.length=B.length*sz)
  (h1:∀i j cs x,A[i]?=some cs->cs[j]?=some x->∃v,olds[i*sz+j]?=some v/\R x v)
  (h2:∀i j cs x,B[i]?=some cs->cs[j]?=some x->∃v,vals[i*sz+j]?=some v/\R x v) :
  ∀i j cs x,(A++B)[i]?=some cs->cs[j]?=some x->∃v,(olds++vals++rest)[i*sz+j]?=some v/\R x v:=by
 intro i j cs x hi hj;by_cases qe:i<n
 ·grind
 rw[agr ajK,hA] at hi;obtain⟨v,q1,q2⟩:=h2 (i - n) j cs x hi hj;refine⟨v,?_,q2⟩;have h3:(i - n)*sz+j<vals.length:=(afY.1 q1).1;have h4:i*sz+j=olds.length+((i - n)*sz+j):=by
  rw[ho];have:i=n+(i - n):=ajK
  grind
 grind
section
variable {K:Kx} {β:Lb->Option Nat} {env:Env} {H:Hp} {a:Act} {w:World}
def C8 (hr:aO K β env H a w) {H':Hp} {lb:Lb} {b:Option Nat} {w':World} (gw:oB w w') (hu:H lb= .unused) (hb:∀g,b=some g->w.heap.size<=g)
  (hH:∀q,q≠lb->live H' q->live H q) (ls:List Lb) (pf:∀q∈ls,H q≠ .unused) :
  ic w w' β (aS β lb b) H H' (Im K β H) (Im K (aS β lb b) H') ls where
 im k hk hs:=⟨⟨hk.1,λq hq=>by
  by_cases e:q=lb
  ·grind [lD]
  rw[an _ _ e];exact hk.2 q (hH q e hq)⟩,ahi hs gw.size,gw.block k hs⟩
 lb q hq xu:=by
  have e:q≠lb:=λe=>pf q hq (e▸hu);refine⟨hH q e xu,an _ _ e,λg S _ hS=> ?_⟩;unfold oy at *
  rwa[gw.block g (HJ hS)]
def rA (hr:aO K β env H a w) {Hk:Hp} (hk:aO K β env Hk a w) (WB:∀q,live Hk q->live H q) (hHu:∀q,H q≠ .unused->Hk q≠ .unused) {o:Oper} {d n m sz:Nat} {lb:Lb} (hd:d<K.N) {e:TypeId} {cap:Nat} {A news:List (List AV)} {olds vals rest:List Value}
  (h0:0<sz) (hu:H lb= .unused) (NN:Hk lb= .unused) (hA:A.length=n) (hm:news.length=m) (R6:∀cs∈A,cs.length=sz) (Z3:∀cs∈news,cs.length=sz)
  (WC:∀cs∈A,∀l∈ai cs,H l≠ .unused) (hNm:∀cs∈news,∀l∈ai cs,H l≠ .unused)
  (ho:olds.length=n*sz) (hv:vals.length=news.length*sz)
  (h1:∀i j cs x,A[i]?=some cs->cs[j]?=some x->∃v,olds[i*sz+j]?=some v/\RV w β H (Im K β H) x v)
  (h2:∀i j cs x,news[i]?=some cs->cs[j]?=some x->∃v,vals[i*sz+j]?=some v/\RV w β H (Im K β H) x v)
  (mf:(olds++vals++rest).length=cap*sz) (C7:cap<=maxLen) (hle:n+m<=cap)
  (mm:(execOp a.eval o).run K.P w= .ok (.value (.slice (some ⟨w.heap.size,0,none⟩) (n+m) cap)) (w.drew.alloc (.cells (olds++vals++rest).toArray e))) :
  me K env a w o (some d) (.sl lb sz 0 (n+m)) (aS Hk lb (.live ⟨sz,A++news⟩)):=by
 have gw:oB w (w.drew.alloc (.cells (olds++vals++rest).toArray e)):=(wc w).trans (iA w.drew _);have d_:=C8 hr (H':=aS Hk lb (.live ⟨sz,A++news⟩)) (lb:=lb) (b:=some w.heap.size) gw hu ajL (λq hq ⟨r,h⟩=>by rw[an _ _ hq] at h;exact WB q ⟨r,h⟩);have j5:∀cs∈A++news,cs.length=sz/\∀l∈ai cs,H l≠ .unused:=by
  grind
 have oE:yg (w.drew.alloc (.cells (olds++vals++rest).toArray e)) (aS β lb (some w.heap.size)) (aS Hk lb (.live ⟨sz,A++news⟩))
   (Im K (aS β lb (some w.heap.size)) (aS Hk lb (.live ⟨sz,A++news⟩))) lb ⟨sz,A++news⟩:=by
  refine⟨h0,λcs aZ=>(j5 cs aZ).1,?_⟩;simp only[lD];refine⟨(olds++vals++rest).toArray,e,cap,heap_alloc_new w.drew _,by simp only[aiG];exact mf,C7,ajY,λi j cs x hi hj=> ?_⟩;obtain⟨v,q1,q2⟩:=comb A news hA R6 Z3 olds vals rest ho hv h1 h2 i j cs x hi hj;exact⟨v,alf,RV.mono _ _ (d_ _ (λq hq=>(j5 cs (af3 hi)).2 q (dW _ _ _ hj q hq))) q2⟩
 have h3:=hk.qx lb NN gw (some w.heap.size) ajL (λcs aZ q hq=>hHu q ((j5 cs aZ).2 q hq)) oE;have h4:=h3.step (Below.refl _ _) (d:=some d) (x:= .sl lb sz 0 (n+m)) (v:= .slice (some ⟨w.heap.size,0,none⟩) (n+m) cap) ajV
  (λ_=>by
   simp only[RV];refine⟨_,_,rfl,hle,C7,ajL,λ_=> .inr ⟨w.heap.size,cap*sz,ajL,ajL,?_,ajL⟩⟩;have hh:(w.drew.alloc (.cells (olds++vals++rest).toArray e)).heap[w.heap.size]?=some (.cells (olds++vals++rest).toArray e):=heap_alloc_new w.drew _;unfold oy;rw[hh];simp only[aiG,mf]) ajP
 exact⟨_,_,_,_,mm,.inl rfl,h4⟩
def Of (hr:aO K β env H a w) {Hk:Hp} (hk:aO K β env Hk a w) {o:Oper} {d sz:Nat} {lb:Lb} (hd:d<K.N) (h0:0<sz) (NN:Hk lb= .unused) {ad:Option Addr}
  (mm:(execOp a.eval o).run K.P w= .ok (.value (.slice ad 0 0)) w) :
  me K env a w o (some d) (.sl lb sz 0 0) (aS Hk lb (.live ⟨sz,[]⟩)):=by
 have h3:=hk.qx lb NN (r:=⟨sz,[]⟩) (Below.refl _ _) none ajL ajL ⟨h0,ajL,ajL⟩;have h4:=h3.step (Below.refl _ _) (d:=some d) (x:= .sl lb sz 0 0) (v:= .slice ad 0 0) ajV
  (λ_=>by simp only[RV];exact⟨_,0,rfl,ajK,ajL,ajL,λ_=> .inl rfl⟩) ajP
 exact⟨_,_,_,_,mm,.inl rfl,h4⟩
def EH {α:Type} (A N:List α) (i:Nat) (h:i+N.length<=A.length) (k:Nat):(A.take i++N++A.drop (i+N.length))[k]?=if k<i then A[k]? else if k<i+N.length then N[k - i]? else A[k]?:=by
 grind
def BZ (hr:aO K β env H a w) {l:Lb} {r:Row} {g:Nat} (hl:H l= .live r) (hb:β l=some g) {i:Nat} {news:List (List AV)} {vals:List Value} (qe:i+news.length<=r.els.length)
  (Z3:∀cs∈news,cs.length=r.sz) (hNm:∀cs∈news,∀q∈ai cs,H q≠ .unused) (hv:vals.length=news.length*r.sz)
  (h2:∀i j cs x,news[i]?=some cs->cs[j]?=some x->∃v,vals[i*r.sz+j]?=some v/\RV w β H (Im K β H) x v) (j6:∀v∈vals,v.oneCell'=true) :
  ∃cur',(storeCells ⟨g,i*r.sz,none⟩ vals).run K.P w= .ok () (w.setRow g cur') /\
   aO K β env (aS H l (.live ⟨r.sz,r.els.take i++news++r.els.drop (i+news.length)⟩)) a (w.setRow g cur')/\oy (w.setRow g cur') g=oy w g:=by
 obtain⟨cur,e0,cap,k1,k2,k3,k4,k5⟩:=(hr.rows l r hl).block hb;have j9:0<r.sz:=(hr.rows l r hl).1;have JR:i*r.sz+vals.length<=cur.size:=by
  rw[hv,k2,<-ag0];exact agy _ ajK
 have SB:=run_storeCells_at K.P g (i*r.sz) e0 vals 0 cur w k1 anR j6;simp only[ahs] at SB;have uw:(cur.toList.take (i*r.sz)++vals++cur.toList.drop (i*r.sz+vals.length)).toArray.size=cur.size:=by
  grind
 have hlen:(r.els.take i++news++r.els.drop (i+news.length)).length=r.els.length:=ajY
 have kH:=hr.setRow l (r':=⟨r.sz,r.els.take i++news++r.els.drop (i+news.length)⟩) (cap:=cap) hl hb k1 uw rfl k2 k3 ajM
  (by
   intro cs aZ;rcases agi.1 aZ with h|h
   ·rcases agi.1 h with h|h
    ·exact(hr.rows l r hl).2.1 cs (agH h)
    exact Z3 cs h
   exact(hr.rows l r hl).2.1 cs (ahf h))
  (by
   intro cs aZ;rcases agi.1 aZ with h|h
   ·rcases agi.1 h with h|h
    ·exact hr.cB l r hl cs (agH h)
    exact hNm cs h
   exact hr.cB l r hl cs (ahf h))
  (by
   intro i' j cs x0 gT nI;simp only at gT;rw[EH _ _ _ qe] at gT;have bU:=EH cur.toList vals (i*r.sz) anR;simp only[ajq,bU];have ZU:j<r.sz:=by
    have h9:=(afY.1 nI).1;have h8:cs.length=r.sz:=by
     split at gT
     ·exact(hr.rows l r hl).2.1 cs (af3 gT)
     split at gT
     ·exact Z3 cs (af3 gT)
     exact(hr.rows l r hl).2.1 cs (af3 gT)
    omega
   by_cases h1:i'<i
   ·rw[agc h1] at gT;have:=agy r.sz (show i'+1<=i by omega)
    grind
   rw[af8 h1] at gT;have h3:=agy r.sz (show i<=i' by omega);rw[af8 ajK];by_cases h4:i'<i+news.length
   ·rw[agc h4] at gT;have:=agy r.sz (show i'+1<=i+news.length by omega);rw[ag0,ag0,ai1] at this
    grind [Nat.sub_mul]
   rw[af8 h4] at gT;have:=agy r.sz (show i+news.length<=i' by omega);rw[ag0] at this;rw[af8 (by rw[hv];omega)];obtain⟨v,q1,q2⟩:=k5 i' j cs x0 gT nI;exact⟨v,alf,q2⟩)
 grind [oy,pq]
def Og {v:Value} {w1:World} {e:TypeId} (x y:Array Value) (h:x=y) :
  (Result.ok v (w1.alloc (.cells x e))).andThen (λv w'=> .ok (Next.value v) w')= .ok (.value v) (w1.alloc (.cells y e)):=by
 subst h;rfl
def Oh {m C sz:Nat} (h:m<=C):m*sz+(C - m)*sz=C*sz:=by
 rw[<-ag0];congr 1;omega
def lj (z:Array Value) (n:Nat):(Builtin.zeroCells z n).toList.length=n*z.size:=by simp[size_zeroCells]
def aaI (hr : aO K β env H a w) {o : Oper} {c : Call} {s x : Operand} {s' x' : O} {st xt e : TypeId} {i : TypeInfo} {z : Value} {dx : TypeDesc} {d : Nat} (hd : d < K.N) (ho : o.op = .call c) (hc : c.callee = .builtin .append)
   (ha : c.args.toList = [s,x]) (xz : c.argTypes.toList = [st,xt]) (fG : K.P.underlying st = some (.slice e)) (hi : K.P.info? e = some i) (hz : i.zero = some z) (Er : z.cells.size = i.size) (h0 : 0 < i.size)
   (HL : K.P.underlying xt = some dx) (R7 : dx = .string \/ ∃ e2,dx = .slice e2) (hs : co K.G s = some s') (hx : co K.G x = some x') {y : AV} {H' : Hp}
   (hy : iQ i.size i.bytes d (ev env s') (ev env x') H = some (y,H')) : me K env a w o (some d) y H' := by
 have Br : c.args = #[s,x] := by cases hh : c.args; simp_all
 have HM : c.argTypes = #[st,xt] := by cases hh : c.argTypes; simp_all
 have nP : (execOp a.eval o).run K.P w = ((Builtin.append_ #[st,xt] o.type #[a.eval s,a.eval x]).run K.P w).andThen λv w' => .ok (.value v) w' := by
   simp [execOp,ho,resolve,hc,Br,HM,invoke,builtin]
 unfold iQ at hy
 obtain ⟨news,hn,hy⟩ := afX.1 hy
 obtain ⟨vals,S⟩ := yC hr hx h0 hn
 have yD := hr.ev hs
 split at hy
 · simp at hy
 · rename_i j6
   have j6 : ∀ cs ∈ news,AV.oF cs := ahh j6
   have JS : ∀ v ∈ vals,v.oneCell' = true := by
     intro v hv
     obtain ⟨q,hq⟩ := agE hv
     have hql : q < news.length * i.size := by rw [<- S.len]; exact (afY.1 hq).1
     have Z4 : q / i.size < news.length := aiR (by rw [ais]; exact hql)
     have hqj : q % i.size < i.size := Nat.mod_lt _ h0
     have Bf : news[q / i.size]? = some news[q / i.size] := af7 Z4
     have yA := S.R5 _ (ahY Z4)
     have SA : (news[q / i.size])[q % i.size]? = some ((news[q / i.size])[q % i.size]' ajK) := af7 ajK
     obtain ⟨v',e1,e2⟩ := S.rv _ _ _ _ Bf SA
     have : q / i.size * i.size + q % i.size = q := by rw [ais]; exact Nat.div_add_mod q i.size
     rw [this,hq] at e1
     cases e1
     exact RV.ur e2 (j6 _ (ahY Z4) _ (ahY _))
   have JT : ∀ ad : Option Addr,∀ cc,(Builtin.firstCells i.size 0 (.slice ad 0 cc)).run K.P w.drew = .ok #[] w.drew := by
     intro ad cc
     cases ad with
     | none => simp [Builtin.firstCells]
     | some q => simp [Builtin.firstCells,loadCells,loadCellsFrom]
   have grow : ∀ {Hk : Hp} {l : Lb} {A : List (List AV)} {n cc : Nat} {ad : Option Addr},aO K β env Hk a w -> (∀ q,live Hk q -> live H q) -> (∀ q,H q ≠ .unused -> Hk q ≠ .unused) -> a.eval s = .slice ad n cc -> H l = .unused -> Hk l = .unused ->
       A.length = n -> (∀ cs ∈ A,cs.length = i.size) -> (∀ cs ∈ A,∀ q ∈ ai cs,H q ≠ .unused) ->
       (∃ olds : List Value,olds.length = n * i.size /\ (∀ i' j cs x0,A[i']? = some cs -> cs[j]? = some x0 -> ∃ v,olds[i' * i.size + j]? = some v /\ RV w β H (Im K β H) x0 v) /\
         (Builtin.firstCells i.size n (.slice ad n cc)).run K.P w.drew = .ok olds.toArray w.drew) -> cc < n + news.length -> (n + news.length) * i.bytes <= 140737488355328 -> 0 < i.bytes ->
       me K env a w o (some d) (.sl l i.size 0 (n + news.length)) (aS Hk l (.live ⟨i.size,A ++ news⟩)) := by
     intro Hk l A n cc ad hkr WB hHu he hu NN Z5 R6 WC ⟨olds,WG,Z6,ho3⟩ xw hb yB
     have EF := grownCap_ge w (n + news.length) cc e
     refine rA hr hkr WB hHu hd (e := e) (rest := (Builtin.zeroCells z.cells (grownCap w (n + news.length) cc e - (n + news.length))).toList) h0 hu NN Z5 rfl R6 S.R5 WC S.iq WG S.len Z6 S.rv ?_ (grownCap_le_maxLen w _ cc e ?_) EF ?_
     · have h9 := Oh (sz := i.size) EF
       simp only [age,WG,S.len,lj,Er]
       rw [<- ag0]; exact h9
     · have := ahw (n + news.length) yB
       simp only [maxLen]; omega
     · rw [nP,he,qz (ty := o.type) fG hi hz HL R7 ad n cc news.length (a.eval x) vals.toArray olds.toArray S.lenOf (S.cells w.drew (.inr rfl)) ho3 xw hb yB]
       exact Og _ _ ajL
   have nov : news.length = 0 -> news = [] /\ vals = [] := λh => ⟨agU h,agU (by rw [S.len,h,ahM])⟩
   have emp : ∀ {Hk : Hp} {l : Lb} {ad : Option Addr},aO K β env Hk a w -> Hk l = .unused -> a.eval s = .slice ad 0 0 -> news.length = 0 -> me K env a w o (some d) (.sl l i.size 0 0) (aS Hk l (.live ⟨i.size,news⟩)) := by
     intro Hk l ad hkr NN he hm
     obtain ⟨rfl,rfl⟩ := nov hm
     refine Of hr hkr hd h0 NN (ad := ad) ?_
     rw [nP,he,lh (ty := o.type) fG hi HL R7 ad 0 0 0 (a.eval x) #[] S.lenOf (S.cells w (.inl rfl)) ajK]
     cases ad <;> simp [storeCells]
   have oA : ∀ {l : Lb} {r : Row} {n : Nat} {cur : Array Value},H l = .live r -> r.sz = i.size -> (∀ i j cs x,r.els[i]? = some cs -> cs[j]? = some x -> ∃ v,cur[i * r.sz + j]? = some v /\ RV w β H (Im K β H) x v) ->
       ∀ i' j cs x0,(r.els.take n)[i']? = some cs -> cs[j]? = some x0 -> ∃ v,(cur.toList.take (n * i.size))[i' * i.size + j]? = some v /\ RV w β H (Im K β H) x0 v := by
     intro l r n cur hl pg k5 i' j cs x0 gT nI
     rw [agG] at gT
     split at gT
     · rename_i aF
       obtain ⟨v,q1,q2⟩ := k5 i' j cs x0 gT nI
       rw [pg] at q1
       refine ⟨v,?_,q2⟩
       have ZU : j < i.size := by
         have := (hr.rows l r hl).2.1 cs (af3 gT)
         have := (afY.1 nI).1
         omega
       have iw : i' * i.size + j < n * i.size := by
         have := agy i.size (show i' + 1 <= n by omega)
         rw [ag0] at this; omega
       rw [agG,agc iw]
       simpa using q1
     · simp at gT
   have yl : ∀ {l : Lb} {r : Row} {n cc : Nat} {ad : Option Addr} {p : Nat -> Nat -> Prop},H l = .live r -> r.sz = i.size -> n <= r.els.length -> n <= cc -> (cc = 0 \/ ∃ g Sz,β l = some g /\ ad = some ⟨g,0 * i.size,none⟩ /\ p g Sz) ->
       ∃ olds : List Value,olds.length = n * i.size /\ (∀ i' j cs x0,(r.els.take n)[i']? = some cs -> cs[j]? = some x0 -> ∃ v,olds[i' * i.size + j]? = some v /\ RV w β H (Im K β H) x0 v) /\
         (Builtin.firstCells i.size n (.slice ad n cc)).run K.P w.drew = .ok olds.toArray w.drew := by
     intro l r n cc ad p hl pg xy Wc h5
     rcases h5 with h6 | ⟨g,Sz,g1,rfl,-⟩
     · have ov : n = 0 := by omega
       subst ov
       exact ⟨[],ajL,ajL,by simpa using JT ad cc⟩
     · obtain ⟨cur,e0,cap,k1,k2,k3,k4,k5⟩ := (hr.rows l r hl).block g1
       rw [pg] at k2
       have aaJ : n * i.size <= cur.size := by rw [k2]; exact agy _ ajK
       have ze : (cur.toList.take (n * i.size)).length = n * i.size := by simp; omega
       refine ⟨cur.toList.take (n * i.size),ze,oA hl pg k5,?_⟩
       · exact run_firstCells_some (P := K.P) w.drew i.size n ⟨g,0 * i.size,none⟩ n cc _ ze (λj v hj => by
           rw [addr_add,ahM,agh]
           have : w.cell? ⟨g,j,none⟩ = some v := by
             rw [cell_of_row w g _ cur e0 (0,0) k1]
             rw [agG] at hj
             split at hj
             · simpa using hj
             · simp at hj
           simpa using this)
   split at hy
   · -- nothing yet
     rename_i e1
     rw [e1] at yD
     simp only [RV] at yD
     obtain ⟨ad,yD⟩ := yD
     split at hy
     · rename_i hb
       obtain ⟨Bg,pr,hu⟩ := hb
       simp only [afZ,agq] at hy
       obtain ⟨rfl,rfl⟩ := hy
       by_cases ED : news.length = 0
       · rw [ED]; exact emp hr hu yD ED
       · simpa using grow hr (λ_ h => h) (λ_ h => h) yD hu hu (A := []) rfl ajL ajL ⟨[],ajL,ajL,JT ad 0⟩ ajK (by simpa using Bg) pr
     · simp at hy
   · -- a row
     rename_i l s0 i0 n e1
     rw [e1] at yD
     simp only [RV] at yD
     obtain ⟨ad,cc,h1,h2,h3,h4,h5⟩ := yD
     split at hy
     · rename_i r hl
       split at hy
       · rename_i jw
         obtain ⟨rfl,pg,rfl,xy,hb,yB,WI,hu⟩ := jw
         simp only [afZ,agq] at hy
         obtain ⟨rfl,rfl⟩ := hy
         have Z5 : (r.els.take n).length = n := by simp; omega
         have R6 : ∀ cs ∈ r.els.take n,cs.length = i.size := λcs aZ => by rw [<- pg]; exact (hr.rows l r hl).2.1 cs (agH aZ)
         have WC : ∀ cs ∈ r.els.take n,∀ q ∈ ai cs,H q ≠ .unused := λcs aZ => hr.cB l r hl cs (agH aZ)
         have Vh := hr.kill l (by rw [hl]; simp)
         have NN : aS H l .dead (l.app d) = .unused := by rw [an _ _ (agQ WI)]; exact hu
         by_cases HN : n + news.length <= cc
         · rcases h5 ⟨r,hl⟩ with h6 | ⟨g,Sz,g1,rfl,g3,g4⟩
           · subst h6
             obtain ⟨rfl,hm⟩ : n = 0 /\ news.length = 0 := by omega
             simpa [hm] using emp Vh NN h1 hm
           · obtain ⟨cur,e0,cap,k1,k2,k3,k4,k5⟩ := (hr.rows l r hl).block g1
             have hS : cur.size = Sz := by
               unfold oy at g3
               simp only [k1] at g3
               simpa using g3
             have Oi : cc * i.size = cur.size := by rw [hS,<- g4]; simp
             have aaJ : n * i.size <= cur.size := by rw [<- Oi]; exact agy _ h2
             have hA1 := oA (n := n) hl pg k5
             have ze : (cur.toList.take (n * i.size)).length = n * i.size := by simp; omega
             have afv : cap = cc := by
               rw [pg] at k2
               rw [k2] at Oi
               exact (ai7 h0 Oi).symm
             have pt := lh (ty := o.type) fG hi HL R7 (some ⟨g,0 * i.size,none⟩) n cc news.length (a.eval x) vals.toArray S.lenOf (S.cells w (.inl rfl)) HN
             have JR : n * i.size + vals.length <= cur.size := by
               rw [S.len,<- Oi,<- ag0]
               exact agy _ HN
             have SB := run_storeCells_at K.P g (n * i.size) e0 vals 0 cur w k1 anR JS
             simp only [ahs] at SB
             have uw : (cur.toList.take (n * i.size) ++ vals ++ cur.toList.drop (n * i.size + vals.length)).toArray.size = cur.size := by
               simp only [aiG,age,agA,ahe,aie]
               omega
             have kH := hr.setRow l (r' := ⟨i.size,r.els.take n ++ news⟩) (cap := cap) hl g1 k1 uw pg.symm k2 k3 anA
               (by
                 intro cs aZ
                 rw [pg]
                 rcases agi.1 aZ with h | h
                 · exact R6 cs h
                 · exact S.R5 cs h)
               (by
                 intro cs aZ
                 rcases agi.1 aZ with h | h
                 · exact WC cs h
                 · exact S.iq cs h)
               (by
                 intro i' j cs x0 gT nI
                 rw [pg]
                 obtain ⟨v,q1,q2⟩ := comb (r.els.take n) news Z5 R6 S.R5 (cur.toList.take (n * i.size)) vals (cur.toList.drop (n * i.size + vals.length)) ze S.len hA1 S.rv i' j cs x0 gT nI
                 exact ⟨v,alf,q2⟩)
             have od := kH.relabel l (l.app d) (r := ⟨i.size,r.els.take n ++ news⟩) ajL (by rw [an _ _ (agQ WI)]; exact hu) (Lb.rA l d)
             rw [JQ] at od
             have WJ := od.step (Below.refl _ _) (d := some d) (x := .sl (l.app d) i.size 0 (n + news.length)) (v := .slice (some ⟨g,0 * i.size,none⟩) (n + news.length) cc) anS
               (λ_ => by
                 simp only [RV]
                 refine ⟨_,_,rfl,HN,h3,ajL,λ_ => .inr ⟨g,cur.size,by simp [g1],ajL,?_,by simpa using Oi⟩⟩
                 exact pq k1 uw g cur.size (by unfold oy; simp [k1])) (by simp [AV.aq])
             refine ⟨_,_,_,_,?_,.inl rfl,WJ⟩
             rw [nP,h1,pt]
             simp only [addr_add,ahM,agh,SB,Result.andThen_ok]
         · exact grow Vh (by
             rintro q ⟨r',h⟩
             by_cases e : q = l
             · subst e; simp at h
             · rw [an _ _ e] at h; exact ⟨r',h⟩) (by
             intro q h
             by_cases e : q = l
             · subst e; simp
             · rw [an _ _ e]; exact h) h1 hu NN Z5 R6 WC (yl hl pg xy h2 (h5 ⟨r,hl⟩)) ajK hb yB
       · simp at hy
     · simp at hy
   · -- a row whose room is known
     rename_i l s0 i0 n c0 e1
     rw [e1] at yD
     simp only [RV] at yD
     obtain ⟨ad,h1,h2,h3,h4,h5⟩ := yD
     split at hy
     · rename_i r hl
       split at hy
       · rename_i jw
         obtain ⟨rfl,pg,rfl,xy,yB,WI⟩ := jw
         split at hy
         · rename_i HN
           split at hy
           · rename_i aaK
             simp only [afZ,agq] at hy
             obtain ⟨rfl,rfl⟩ := hy
             have pt := lh (ty := o.type) fG hi HL R7 ad n c0 news.length (a.eval x) vals.toArray S.lenOf (S.cells w (.inl rfl)) HN
             rcases h5 ⟨r,hl⟩ with h6 | ⟨g,Sz,g1,rfl,g3,g4⟩
             · subst h6
               obtain ⟨rfl,hm⟩ : n = 0 /\ news.length = 0 := by omega
               obtain ⟨rfl,rfl⟩ := nov hm
               have hH : aS H l (.live ⟨i.size,r.els.take 0 ++ [] ++ r.els.drop (0 + ([] : List (List AV)).length)⟩) = H := by
                 funext q
                 by_cases e : q = l
                 · subst e; simp only [lD,ai0,List.nil_append,agx,ahs,agj,<- pg,hl]
                 · rw [an _ _ e]
               rw [hH]
               have WJ := hr.step (Below.refl _ _) (d := some d) (x := .slk l i.size 0 (0 + ([] : List (List AV)).length) 0) (v := .slice ad 0 0) anS
                 (λ_ => by
                   simp only [RV]
                   exact ⟨ad,ajL,ajL,by simp [maxLen],ajL,λ_ => .inl rfl⟩) (λ_ q hq => by simp [AV.aq] at hq; subst hq; rw [hl]; simp)
               refine ⟨_,_,_,_,?_,.inl rfl,WJ⟩
               rw [nP,h1,pt]
               cases ad <;> simp [storeCells]
             · obtain ⟨cur',w1,w2,w3⟩ := BZ hr hl g1 (i := n) (news := news) (vals := vals) aaK (by rw [pg]; exact S.R5) S.iq (by rw [pg]; exact S.len) (by rw [pg]; exact S.rv) JS
               rw [pg] at w1 w2
               have WJ := w2.step (Below.refl _ _) (d := some d) (x := .slk l i.size 0 (n + news.length) c0) (v := .slice (some ⟨g,0 * i.size,none⟩) (n + news.length) c0) anS
                 (λ_ => by
                   simp only [RV]
                   exact ⟨_,rfl,HN,h3,ajL,λ_ => .inr ⟨g,Sz,g1,rfl,by rw [w3]; exact g3,g4⟩⟩) (λ_ q hq => by simp [AV.aq] at hq; subst hq; simp)
               refine ⟨_,_,_,_,?_,.inl rfl,WJ⟩
               rw [nP,h1,pt]
               simp only [addr_add,ahM,agh,w1,Result.andThen_ok]
           · simp at hy
         · rename_i HN
           split at hy
           · rename_i WK
             obtain ⟨hb,hu⟩ := WK
             simp only [afZ,agq] at hy
             obtain ⟨rfl,rfl⟩ := hy
             exact grow hr (λ_ h => h) (λ_ h => h) h1 hu hu anA (λcs aZ => by rw [<- pg]; exact (hr.rows l r hl).2.1 cs (agH aZ)) (λcs aZ => hr.cB l r hl cs (agH aZ)) (yl hl pg xy h2 (h5 ⟨r,hl⟩)) ajK hb yB
           · simp at hy
       · simp at hy
     · simp at hy
   · simp at hy
end
end Go.Am
