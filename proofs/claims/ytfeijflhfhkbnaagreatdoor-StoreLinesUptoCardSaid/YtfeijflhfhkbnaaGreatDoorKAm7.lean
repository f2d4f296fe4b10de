import Derived.Test.YtfeijflhfhkbnaaGreatDoorKAm1
import Derived.Laws.AppendOwn
import Derived.Laws.IdiomStrings
import Derived.Laws.BytesString
set_option linter.all false
/- THE ABSTRACT MACHINE, part 7: structs made, boxed, loaded from memory that nobody writes. -/
namespace Go.Am
open Go Go.RowKit
theorem lx (off:Nat):∀(l:List Value) (k:Nat) (arr:Array Value),off+k+l.length<=arr.size ->
  ((l.zipIdx k).foldl (λcs (p:Value×Nat)=>cs.setIfInBounds (off+p.2) p.1) arr).toList=arr.toList.take (off+k)++l++arr.toList.drop (off+k+l.length)
 |[],k,arr,h=>by simp
 |v::r,k,arr,h=>by
  simp only[gL] at h;simp only[List.zipIdx_cons,Bw];rw[lx off r (k+1) (arr.setIfInBounds (off+k) v) aak];simp only[Array.toList_setIfInBounds,gL];rw[show off+(k+1)+r.length=off+k+(r.length+1) by omega,show off+(k+1)=off+k+1 by omega];have bI:off+k<arr.toList.length:=aak
  have h1:(arr.toList.set (off+k) v).take (off+k+1)=arr.toList.take (off+k)++[v]:=by
   have hl:(arr.toList.take (off+k)).length=off+k:=(by rw[tp];omega);rw[List.take_set,List.take_succ_eq_append_getElem bI,Vq _ _ sf,hl,Gl];rfl
  have h2:(arr.toList.set (off+k) v).drop (off+k+(r.length+1))=arr.toList.drop (off+k+(r.length+1)):=by
   rw[List.drop_set_of_lt sf]
  rw[h1,h2];simp
section
variable {w:World} {β:Lb->Option Nat} {H:Hp} {I:Nat->Prop}
def br.kg {x:AV} {v:Value} (h:RV w β H I x v) (hx:(∃cs,x= .agg cs)\/x.one=true):v.cells.size=x.cells.length/\br w β H I x.cells v.cells.toList:=by
 have h2:br w β H I x.cells v.cells.toList:=RV.cells h (λ_ _=>trivial) (by
  rcases hx with hx|hx
  ·exact .inl hx
  exact .inr (RV.lv h hx))
 exact⟨by rw[<-br.len _ _ h2];simp,h2⟩
def AV.sL {x:AV} (h:x.sI=true):(∃cs,x= .agg cs)\/x.one=true:=by
 cases x<;>first|exact .inl ⟨_,rfl⟩|exact .inr (by simpa[AV.sI] using h)
inductive iF {α γ:Type} (R:α->γ->Prop):List α->List γ->Prop
 |nil:iF R [] []
 |cons {a:α} {b:γ} {l:List α} {m:List γ}:R a b->iF R l m->iF R (a::l) (b::m)
theorem ly (place:Nat->Option (Nat×Nat)):∀(ps:List (Nat×Value)) (qs:List (Nat×Nat×AV)) (cs dF:List AV) (cur:Array Value),
  br w β H I cs cur.toList->fg cs qs=some dF ->
  iF (λ(p:Nat×Value) (q:Nat×Nat×AV)=>place p.1=some (q.1,q.2.1)/\RV w β H I q.2.2 p.2) ps qs ->
  ∃cur',Instr.fill place cur ps=some cur'/\br w β H I dF cur'.toList
 |[],qs,cs,dF,cur,h,hf,ha=>by
  cases ha;simp only[fg,di] at hf;subst hf;exact⟨cur,rfl,h⟩
 |p::ps,qs,cs,dF,cur,h,hf,ha=>by
  cases ha with
  |@cons _ q _ qs hq EM=>
  obtain⟨off,sz,x⟩:=q;obtain⟨i,v⟩:=p;obtain⟨h1,h2⟩:=hq;simp only at h1 h2;simp only[fg] at hf;split at hf
  ·rename_i gm;obtain⟨h3,gm⟩:=gm;obtain⟨k1,k2⟩:=br.kg h2 (AV.sL h3);have hlen:cur.size=cs.length:=(by rw[<-br.len _ _ h];simp);have hc1:¬(v.cells.size≠sz||decide (off+v.cells.size>cur.size))=true:=by
    simp only[Tu,dj,Xd];omega
   have wu:=lx off v.cells.toList 0 cur aak;simp only[kf] at wu;obtain⟨cur',e1,e2⟩:=ly place ps qs _ dF (v.cells.zipIdx.foldl (λcs (p:Value×Nat)=>cs.setIfInBounds (off+p.2) p.1) cur) (by
    rw[<-Array.foldl_toList,Array.toList_zipIdx,wu];have:v.cells.toList.length=sz:=aak;rw[this];exact br.append _ _ _ _ (br.append _ _ _ _ (br.take _ _ _ h) k2) (br.drop _ _ _ h)) hf EM
   refine⟨cur',?_,e2⟩;simp only[Instr.fill,h1];rw[Ev hc1];exact e1
  simp at hf
end
section
variable {K:Kx} {β:Lb->Option Nat} {env:Env} {H:Hp} {a:Act} {w:World}
def jH {P:Program} {t:TypeId} {m:Nat} (hm:u5 P t=some (some m)) (ad:Addr) (cs:List Value) (hl:cs.length=m)
  (h:∀j v,cs[j]?=some v->w.cell? (ad.add j)=some v):(loadVar t ad).run P w= .ok (.agg cs.toArray) w:=by
 have hu:(isAgg t).run P w= .ok true w/\ZM P t=some m:=by
  unfold u5 at hm;split at hm
  ·rename_i fs zj;obtain⟨s,h1,h2⟩:=jF.1 hm;cases h2;exact⟨by simp[isAgg,run_underlying zj],h1⟩
  ·rename_i n e zj;obtain⟨s,h1,h2⟩:=jF.1 hm;cases h2;exact⟨by simp[isAgg,run_underlying zj],h1⟩
  ·simp at hm
  simp at hm
 subst hl;simp[loadVar,hu.1,cp hu.2,run_loadCells_list (P:=P) w ad cs h,Result.andThen]
def jI {P:Program} {t:TypeId} (hm:u5 P t=some none) (ad:Addr) (v:Value) (h:w.cell? ad=some v):(loadVar t ad).run P w= .ok v w:=by
 have hu:(isAgg t).run P w= .ok false w:=by
  unfold u5 at hm;split at hm
  ·simp at hm
  ·simp at hm
  ·rename_i d h1 h2 hd;have wL:∀f,d≠ .struct f:=λf e=>h1 f e;have H6:∀n e,d≠ .array n e:=λn e q=>h2 n e q;cases d<;>simp[isAgg,run_underlying hd]
   ·exact(H6 _ _ rfl).elim
   exact(wL _ rfl).elim
  simp at hm
 simp[loadVar,hu,h]
theorem jq:∀(cs:List IV),ah (cs.map IV.dQ)=[]
 |[]=>by simp[ah]
 |x::r=>by
  simp only[Rj,ah,jq r,SU];cases x<;>simp[IV.dQ,AV.an]
theorem mM {w:World} {I:Nat->Prop}:∀(n:Nat) (cs:List IV) (b o:Nat),bK w I cs b o->bK w I (cs.take n) b o
 |0,_,_,_,_=>by simp[bK]
 |n+1,[],_,_,_=>by simp[bK]
 |n+1,x::r,b,o,h=>by
  simp only[bK] at h;simp only[Cj,bK];exact⟨h.1,mM n r b (o+1) h.2⟩
def zz (hr:aH K β env H a w) {o:Oper} {t:TypeId} {x:Operand} {x':O} {m:Option Nat} (ho:o.op= .load t x) (hm:u5 K.P t=some m) (hx:co K.G x=some x') {y:AV}
  (hy:c6 (.load m x') env=some y):aJ K β H a w o y:=by
 have h:=hr.ev hx;simp only[c6] at hy;split at hy
 ·rename_i cs e;rw[e] at h;simp only[RV] at h;obtain⟨b,of,h1,h2,h3,h4⟩:=h;obtain⟨vs,k1,k2,k3⟩:=br.pS (β:=β) (H:=H) cs b of h4;have run:∀v,(loadVar t ⟨b,of,none⟩).run K.P w= .ok v w->(execOp a.eval o).run K.P w= .ok (.value v) w:=by
   intro v hv;simp[execOp,ho,h1,Instr.loadAt,Instr.sureAddr,hv]
  cases m with
  |none=>
   simp only[jF] at hy;obtain⟨z,hz,rfl⟩:=hy;obtain⟨v,e1,e2⟩:=br.get _ _ 0 (z.dQ) k1 (by simp[hz]);refine aJ.same (run v (jI hm _ _ (by simpa using k3 0 v e1))) e2 ?_;cases z<;>simp[IV.dQ,AV.an]
  |some k=>
  simp only at hy;split at hy
  ·rename_i hk;simp only[di] at hy;subst hy;refine aJ.same (run (.agg (vs.take k).toArray) (jH hm _ _ aak (λj v hj=> ?_))) ?_ ?_
   ·rw[Rd] at hj;split at hj
    ·rw[addr_add];exact k3 j v hj
    simp at hj
   ·simp only[RV];exact⟨_,rfl,by rw[JD];exact br.take _ _ _ k1⟩
   intro l hl;simp only[AV.an,jq] at hl;simp at hl
  simp at hy
 simp at hy
def aH.fresh (hr:aH K β env H a w):Im K β H w.heap.size:=by
 refine⟨.inr hr.frame.size,λl hl hb=> ?_⟩;obtain⟨r,lz⟩:=hl;obtain⟨_,_,h3⟩:=hr.rows l r lz;simp only[hb] at h3;obtain⟨cur,e,cap,h4,_⟩:=h3;have:=(Rv.1 h4).1;omega
def dZ (w:World) (o:Obj):iU w (w.alloc o):=(Below.refl _ _).alloc (PW _) o
def mf (w:World):iU w w.drew:=(Below.refl _ _).drew
def nD (w:World) (c:Array Value) (e:TypeId) (j:Nat):(w.alloc (.cells c e)).cell? ⟨w.heap.size,j,none⟩=c[j]?:=by
 simp
def CC (hr:aH K β env H a w) {o:Oper} {t:TypeId} {x:Operand} {x':O} (ho:o.op= .box t x) (hx:co K.G x=some x') {y:AV}
  (hy:c6 (.oC x') env=some y):aJ K β H a w o y:=by
 have h:=hr.ev hx;simp only[c6,jF] at hy;obtain⟨ys,h1,rfl⟩:=hy;have fw:(∃cs,ev env x'= .agg cs)\/(ev env x').one=true:=by
  cases hc:ev env x'<;>simp[hc,AV.cells,qO,AV.iv] at h1<;>first|exact .inl ⟨_,rfl⟩|exact .inr rfl
 obtain⟨k1,k2⟩:=br.kg h fw;have hg:=dZ w (.cells (a.eval x).cells t);refine⟨.pointer (some ⟨w.heap.size,0,none⟩),w.alloc (.cells (a.eval x).cells t),?_,hg,?_,aad⟩
 ·simp[execOp,ho,Instr.box,newVar,newRow]
 simp only[RV];refine⟨_,0,rfl,hr.fresh,tM,?_⟩;refine iD _ _ _ _ _ h1 (br.mono _ _ (hg.nz β H _ _) k2) (λj v hj=> ?_);rw[bM,nD];simpa using hj
theorem gX:∀(l:List Value) (xs:List AV),YJ l=some xs->∀(w:World) (β:Lb->Option Nat) (H:Hp) (I:Nat->Prop),br w β H I xs l
 |[],xs,h,w,β,H,I=>by simp[YJ] at h;subst h;simp[br]
 |v::r,xs,h,w,β,H,I=>by
  simp only[YJ,yV,jF] at h;obtain⟨x,h1,s,h2,rfl⟩:=h;simp only[br];exact⟨v,r,rfl,BL h1 _ _ _ _,gX r s h2 w β H I⟩
theorem nE (z:Array Value) (zs:List AV) (w:World) (β:Lb->Option Nat) (H:Hp) (I:Nat->Prop) (h:br w β H I zs z.toList) (hz:0<z.size):∀n:Nat,
  br w β H I ((List.replicate n zs).flatten) ((Array.range (n*z.size)).map (λi=>z[i%z.size]!)).toList
 |0=>by simp[br]
 |n+1=>by
  have ih:=nE z zs w β H I h hz n;have e1:(List.replicate (n+1) zs).flatten=(List.replicate n zs).flatten++zs:=by
   rw[List.replicate_succ'];simp
  have e2:((Array.range ((n+1)*z.size)).map (λi=>z[i%z.size]!)).toList=((Array.range (n*z.size)).map (λi=>z[i%z.size]!)).toList++z.toList:=by
   simp only[X5,tH];rw[Sv,XY,List.range_add,BG];congr 1;rw[WC];apply List.ext_getElem
   ·simp
   intro i h1 h2;simp at h1 h2;simp[ZV h1,h1]
  rw[e1,e2];exact br.append _ _ _ _ ih h
theorem kQ (hr:aH K β env H a w) (place:Nat->Option (Nat×Nat)):∀(ps:List (Nat×Operand)) (xs:List O) (qs:List (Nat×Nat×O)),cos K.G (ps.map (·.2))=some xs ->
  qs.length=ps.length->(∀(i:Nat) (p:Nat×Operand) (x:O) (q:Nat×Nat×O),ps[i]?=some p->xs[i]?=some x->qs[i]?=some q->q.2.2=x/\place p.1=some (q.1,q.2.1)) ->
  iF (λ(p:Nat×Value) (q:Nat×Nat×AV)=>place p.1=some (q.1,q.2.1)/\RV w β H (Im K β H) q.2.2 p.2)
   (ps.map λp=>(p.1,a.eval p.2)) (qs.map λq=>(q.1,q.2.1,ev env q.2.2))
 |[],xs,qs,h,hl,hp=>by
  have:qs=[]:=wc (by simpa using hl);subst this;exact .nil
 |p::ps,xs,qs,h,hl,hp=>by
  cases qs with
  |nil=>simp at hl
  |cons q qs=>
  simp only[Rj,cos,yV,jF] at h;obtain⟨y,h1,s,h2,rfl⟩:=h;obtain⟨k1,k2⟩:=hp 0 p y q tM tM tM;simp only[Rj];refine .cons ⟨k2,?_⟩ (kQ hr place ps s qs h2 (by simpa using hl)
   (λi p' x' q' g1 g2 g3=>hp (i+1) p' x' q' (by simpa using g1) (by simpa using g2) (by simpa using g3)))
  simp only;rw[k1];exact hr.ev h1
def u_ (ys:List IV) (h:∀y∈ys,y.cells=[y]) (hn:ys≠[]):(zx ys).cells=ys:=by
 cases ys with
 |nil=>exact absurd rfl hn
 |cons y r=>
 cases r with
 |nil=>simpa[zx] using h y tM
 |cons z r=>simp[zx,IV.cells]
theorem oW:∀(cs:List AV) (ys:List IV),qO cs=some ys->∀y∈ys,y.cells=[y]
 |[],ys,h=>by simp[qO] at h;subst h;simp
 |x::r,ys,h=>by
  simp only[qO,yV,jF] at h;obtain⟨y,h1,s,h2,rfl⟩:=h;intro z hz;simp at hz;rcases hz with rfl|hz
  ·exact wK h1
  exact oW r s h2 z hz
theorem jr {w:World} {I:Nat->Prop} {sz:Nat} (gm:0<sz):∀(n:Nat) (ys:List IV) (b o:Nat),ys.length=n*sz->(∀y∈ys,y.cells=[y])->bK w I ys b o ->
  bH w I (chunks sz n ys) b o sz/\(chunks sz n ys).length=n
 |0,ys,b,o,_,_,_=>by simp[chunks,bH]
 |n+1,ys,b,o,hl,hc,h=>by
  have kR:ys.length=n*sz+sz:=by rw[hl,Sv];omega
  have ih:=jr gm n (ys.drop sz) b (o+sz) aak (λy hy=>hc y (EH hy)) (il _ _ _ _ h);have bI:(ys.take sz).length=sz:=aak
  have CD:(zx (ys.take sz)).cells=ys.take sz:=u_ _ (λy hy=>hc y (ec hy)) (by intro e;rw[e] at bI;simp at bI;omega);simp only[chunks,bH,gL];refine⟨⟨?_,ih.1⟩,by rw[ih.2]⟩;rw[eH,CD];exact⟨bI.symm,mM _ _ _ _ h⟩
def CE (hr:aH K β env H a w) {o:Oper} {t e:TypeId} {n:Nat} {ps:Array (Nat×Operand)} {i:TypeInfo} {z:Value} {zs:List AV} {xs:List O} (ho:o.op= .buildSlice t n ps)
   (ht:K.P.underlying t=some (.slice e)) (hi:K.P.info? e=some i) (hz:i.zero=some z) (mN:z.cells.size=i.size) (h0:0<i.size) (hn:n*i.size<=2^24)
   (nF:YJ z.cells.toList=some zs) (sM:cos K.G (ps.toList.map (·.2))=some xs) {y:AV}
   (hy:c6 (.lits n i.size zs ((ps.toList.map (·.1)).zip xs)) env=some y):aJ K β H a w o y:=by
 simp only[c6] at hy
 split at hy
 · split at hy
   · rename_i wq
     obtain⟨rfl,H7⟩:=wq
     simp only[di] at hy
     subst hy
     have BR:xs.length=ps.toList.length:=by
       have:=br.len _ _ (iE hr _ _ sM)
       simp at this
       simpa using this.symm
     have KF:ps.toList=[]:=by
       have h1:((ps.toList.map (·.1)).zip xs)=[]:=by simpa using H7
       have h2:((ps.toList.map (·.1)).zip xs).length=0:=by rw[h1];rfl
       rw[List.length_zip,G_,BR,Nat.min_self] at h2
       exact Rg.1 h2
     have H8:ps=#[]:=by simpa using KF
     subst H8
     refine⟨.slice (some ⟨w.heap.size,0,none⟩) 0 0,w.alloc (.cells #[] e),?_,dZ w _,aaG,aad⟩
     have Ft:=cp (P:=K.P) (t:=e) (s:=i.size) (by simp[ZM,hi]) w
     simp[execOp,ho,Instr.buildSlice,run_underlying ht,Ft,Instr.fill,newRow,show Array.range 0=#[] from rfl]
   simp at hy
 rename_i Vi
 simp only[yV,jF] at hy
 obtain⟨cs,h1,ys,h2,rfl⟩:=hy
 have wq:n≠0:=λe=>Vi (by simp[e])
 have u7:=gX _ _ nF w β H (Im K β H)
 have hzero:=nE z.cells zs w β H (Im K β H) u7 sf n
 have BR:xs.length=ps.toList.length:=by
   have:=br.len _ _ (iE hr _ _ sM)
   simp at this
   simpa using this.symm
 have dN:=kQ hr (λj=>some (j*i.size,i.size)) ps.toList xs (((ps.toList.map (·.1)).zip xs).map λp=>(p.1*i.size,i.size,p.2)) sM
   (by simp at BR;simp[BR])
   (by
     intro j p x q g1 g2 g3
     simp only[cn,N',jF] at g3
     obtain⟨⟨u,v⟩,⟨⟨p',e1,e2⟩,e3⟩,rfl⟩:=g3
     simp only at e1 e2 e3
     rw[g1] at e1;cases e1
     rw[g2] at e3;cases e3
     exact⟨rfl,by simp[e2]⟩)
 obtain⟨cur',f1,f2⟩:=ly (λj=>some (j*i.size,i.size)) _ _ _ cs _ hzero (by simpa[WC,ZK] using h1) dN
 have hlen:cs.length=n*i.size:=by
   have e1:=br.len _ _ hzero
   have e2:∀(qs:List (Nat×Nat×AV)) (c c':List AV),fg c qs=some c'->c'.length=c.length:=by
     intro qs
     induction qs with
     |nil=>intro c c' h;simp[fg] at h;rw[h]
     |cons q qs ih=>
     intro c c' h
     obtain⟨off,sz,x⟩:=q
     simp only[fg] at h
     split at h
     · rename_i hh
       obtain⟨_,hh⟩:=hh
       rw[ih _ _ h]
       simp
       omega
     simp at h
   rw[e2 _ _ _ h1,<-e1]
   simp[mN]
 have hg:=dZ w (.cells cur' e)
 have H9:ys.length=n*i.size:=by rw[tX _ _ h2,hlen]
 have kS:bK (w.alloc (.cells cur' e)) (Im K β H) ys w.heap.size 0:=
   iD _ _ _ _ _ h2 (br.mono _ _ (hg.nz β H _ _) f2) (λj v hj=>by rw[bM,nD];simpa using hj)
 have H_:=jr h0 n ys w.heap.size 0 H9 (oW _ _ h2) kS
 refine⟨.slice (some ⟨w.heap.size,0,none⟩) n n,w.alloc (.cells cur' e),?_,hg,?_,aad⟩
 · have qQ:Instr.fill (λj=>some (j*i.size,i.size)) ((Array.range (n*i.size)).map (z.cells[·%z.cells.size]!)) (ps.toList.map λp=>(p.1,a.eval p.2))=some cur':=by
     rw[<-mN]
     rw[<-mN] at f1
     exact f1
   have CF:¬n*i.size=0:=by rw[Wm];exact Vi
   have Ft:=cp (P:=K.P) (t:=e) (s:=i.size) (by simp[ZM,hi]) w
   simp only[execOp,ho,Instr.buildSlice,Sem.run_bind,run_underlying ht,Result.andThen_ok,Ft,Sem.run_ite,CF,nX,zeroValue,typeInfo,run_program,hi,hz,
     X5,show ¬n*i.size>2^24 by omega,Sem.run_pure,Result.andThen,qQ]
   simp[newRow,qQ]
 simp only[RV,NN]
 refine⟨_,n,by rw[H_.2],by rw[H_.2];exact PW _,?_,.inr ⟨w.heap.size,0,i.size,rfl,hr.fresh,tM,h0,H_.1⟩⟩
 have:n<=n*i.size:=fJ n h0
 simp only[maxLen];omega
theorem nG (hr:aH K β env H a w) (pl:List (Nat×Nat)):∀(ps:List (Nat×Operand)) (xs:List O) (qs:List (Nat×Nat×O)),cos K.G (ps.map (·.2))=some xs ->
  kF pl (ps.map (·.1)) xs=some qs ->
  iF (λ(p:Nat×Value) (q:Nat×Nat×AV)=>pl.toArray[p.1]?=some (q.1,q.2.1)/\RV w β H (Im K β H) q.2.2 p.2)
   (ps.map λp=>(p.1,a.eval p.2)) (qs.map λq=>(q.1,q.2.1,ev env q.2.2))
 |[],xs,qs,h,hb=>by
  simp[cos] at h;subst h;simp[kF] at hb;subst hb;exact .nil
 |p::ps,xs,qs,h,hb=>by
  simp only[Rj,cos,yV,jF] at h;obtain⟨y,h1,s,h2,rfl⟩:=h;simp only[Rj,kF,yV,jF] at hb;obtain⟨q,e1,r,e2,rfl⟩:=hb;simp only[Rj];exact .cons ⟨by simpa using e1,hr.ev h1⟩ (nG hr pl ps s r h2 e2)
def Fu (hr:aH K β env H a w) {o:Oper} {t:TypeId} {fs:Array Field} {ps:Array (Nat×Operand)} {i:TypeInfo} {z:Value} {zs:List AV} {xs:List O} {pl:List (Nat×Nat)}
   {qs:List (Nat×Nat×O)} (ho:o.op= .build t ps)
   (ht:K.P.underlying t=some (.struct fs)) (hi:K.P.info? t=some i) (hz:i.zero=some z) (BS:fs.toList.mapM (λf=>(K.P.info? f.type).map λi=>(f.offset,i.size))=some pl)
   (nF:YJ z.cells.toList=some zs) (sM:cos K.G (ps.toList.map (·.2))=some xs) (EM:kF pl (ps.toList.map (·.1)) xs=some qs) {y:AV}
   (hy:c6 (.sg zs qs) env=some y):aJ K β H a w o y:=by
 simp only[c6,jF] at hy
 obtain⟨cs,h1,rfl⟩:=hy
 obtain⟨cur',f1,f2⟩:=ly (β:=β) (H:=H) (I:=Im K β H) (w:=w) (λj=>pl.toArray[j]?) _ _ _ cs z.cells (gX _ _ nF w β H _) h1 (nG hr pl _ _ _ sM EM)
 refine aJ.same (v:= .agg cur') ?_ ⟨cur'.toList,tM,f2⟩ ?_
 · have hb:K.P.built t (ps.map λ(i,x)=>(i,a.eval x)).toList=some cur':=by
     simp only[Program.built,hi,ht,hz,BS]
     simpa using f1
   simp only[execOp,ho,Sem.run_bind,run_build w t _ cur' hb,Result.andThen_ok,Sem.run_pure]
 have tY:∀(l:List Value) (xs:List AV),YJ l=some xs->ah xs=[]:=by
   intro l
   induction l with
   |nil=>intro xs h;simp[YJ] at h;subst h;rfl
   |cons v r ih=>
   intro xs h
   simp only[YJ,yV,jF] at h
   obtain⟨x,h1,s,h2,rfl⟩:=h
   simp[ah,sE h1,ih s h2]
 have KG:∀(ids:List Nat) (xs:List O) (qs:List (Nat×Nat×O)),kF pl ids xs=some qs->∀q∈qs,q.2.2∈xs:=by
   intro ids
   induction ids with
   |nil=>intro xs qs h;cases xs<;>simp[kF] at h;subst h;simp
   |cons j js ih=>
   intro xs qs h
   cases xs with
   |nil=>simp[kF] at h
   |cons x xs=>
   simp only[kF,yV,jF] at h
   obtain⟨p,e1,r,e2,rfl⟩:=h
   intro q hq
   simp at hq
   rcases hq with rfl|hq
   · simp
   exact Nk _ (ih xs r e2 q hq)
 have sK:∀x∈xs,∀l∈(ev env x).an,H l≠ .unused:=by
   intro x hx l hl
   refine iV hr _ _ sM l ?_
   obtain⟨k,hk⟩:=Sw hx
   exact cW _ k _ (by simp[hk]) l hl
 have lA:∀(l m:List AV),ah (l++m)=ah l++ah m:=by
   intro l m
   induction l with
   |nil=>rfl
   |cons x r ih=>simp[ah,ih]
 have Rx:∀(l:List AV) (n:Nat),(∀q∈ah (l.take n),q∈ah l)/\(∀q∈ah (l.drop n),q∈ah l):=by
   intro l n
   have:=lA (l.take n) (l.drop n)
   rw[tO] at this
   rw[this]
   exact⟨λq hq=>QL.2 (.inl hq),λq hq=>QL.2 (.inr hq)⟩
 have hf:∀(qs:List (Nat×Nat×AV)) (c c':List AV),fg c qs=some c'->(∀l∈ah c,H l≠ .unused)->(∀q∈qs,∀l∈q.2.2.an,H l≠ .unused)->∀l∈ah c',H l≠ .unused:=by
   intro qs
   induction qs with
   |nil=>intro c c' h h1 _;simp[fg] at h;subst h;exact h1
   |cons q qs ih=>
   intro c c' h h1 h2
   obtain⟨off,sz,x⟩:=q
   simp only[fg] at h
   split at h
   · refine ih _ _ h ?_ (λq hq=>h2 q (by simp[hq]))
     intro l hl
     rw[lA,lA,QL,QL] at hl
     rcases hl with(hl|hl)|hl
     · exact h1 l ((Rx c off).1 l hl)
     · have:=h2 (off,sz,x) tM l
       refine this ?_
       cases x<;>simp[AV.cells,ah] at hl<;>simp[AV.an] at hl ⊢<;>exact hl
     exact h1 l ((Rx c (off+sz)).2 l hl)
   simp at h
 simp only[AV.an]
 refine hf _ _ _ h1 (by rw[tY _ _ nF];simp) ?_
 intro q hq
 simp only[pb] at hq
 obtain⟨q0,KH,rfl⟩:=hq
 exact sK _ (KG _ _ _ EM q0 KH)
def CG (hr:aH K β env H a w) {o:Oper} {t:TypeId} {x:Operand} {f:Nat} {fs:Array Field} {fd:Field} {x':O} {m:Option Nat} (ho:o.op= .field t x f)
  (ht:K.P.underlying t=some (.struct fs)) (hf:fs[f]?=some fd) (hm:u5 K.P fd.type=some m) (hx:co K.G x=some x') {y:AV}
  (hy:c6 (.pN x' fd.offset m) env=some y):aJ K β H a w o y:=by
 have h:=hr.ev hx;have Hi:=hr.eo hx;simp only[c6] at hy;split at hy
 ·rename_i cs e;rw[e] at h Hi;simp only[RV] at h;obtain⟨vs,h1,h2⟩:=h;have run:∀v,(part fd.type vs.toArray fd.offset).run K.P w= .ok v w->(execOp a.eval o).run K.P w= .ok (.value v) w:=by
   intro v hv;simp[execOp,ho,Instr.field,run_underlying ht,hf,h1,asAgg,hv,Result.andThen]
  cases m with
  |none=>
   simp only at hy;obtain⟨v,k1,k2⟩:=br.get _ _ _ _ h2 hy;have zA:(isAgg fd.type).run K.P w= .ok false w:=by
    unfold u5 at hm;split at hm
    ·simp at hm
    ·simp at hm
    ·rename_i d h1 h2 hd;cases d<;>simp[isAgg,run_underlying hd]
     ·exact(h2 _ _ rfl).elim
     exact(h1 _ rfl).elim
    simp at hm
   refine aJ.same (run v ?_) k2 (λl hl=>Hi l (by simpa[AV.an] using cW _ _ _ hy l hl));simp[part,zA,k1]
  |some k=>
  simp only at hy;split at hy
  ·rename_i hk;simp only[di] at hy;subst hy;have zA:(isAgg fd.type).run K.P w= .ok true w/\ZM K.P fd.type=some k:=by
    unfold u5 at hm;split at hm
    ·rename_i fs zj;obtain⟨s,h1,h2⟩:=jF.1 hm;cases h2;exact⟨by simp[isAgg,run_underlying zj],h1⟩
    ·rename_i n e zj;obtain⟨s,h1,h2⟩:=jF.1 hm;cases h2;exact⟨by simp[isAgg,run_underlying zj],h1⟩
    ·simp at hm
    simp at hm
   refine aJ.same (run (.agg ((vs.drop fd.offset).take k).toArray) ?_) ⟨_,rfl,br.take _ _ _ (br.drop _ _ _ h2)⟩ ?_
   ·simp[part,zA.1,cp zA.2,Result.andThen,List.extract]
   intro l hl;simp only[AV.an] at hl Hi;refine Hi l ?_;have lA:∀(l m:List AV),ah (l++m)=ah l++ah m:=by
    intro l m;induction l with
    |nil=>rfl
    |cons x r ih=>simp[ah,ih]
   have e1:=lA (cs.take fd.offset) (cs.drop fd.offset);rw[tO] at e1;have e2:=lA ((cs.drop fd.offset).take k) ((cs.drop fd.offset).drop k);rw[tO] at e2;rw[e1,e2];exact QL.2 (.inr (QL.2 (.inl hl)))
  simp at hy
 simp at hy
theorem tZ {P:Program}:∀(fs:List Field) (ks:List Kd) (n d:Nat) (xs ys:List AV) (vs us:List Value) (b:Bool),eu P n fs=some ks->eqs ks xs ys=some b ->
  br w β H (Im K β H) xs (vs.drop n)->br w β H (Im K β H) ys (us.drop n) ->
  (Op.eqFields (d+1) vs.toArray us.toArray fs).run P w= .ok b w
 |[],ks,n,d,xs,ys,vs,us,b,hp,he,hx,hy=>by
  simp[eu] at hp;subst hp;cases xs<;>cases ys<;>simp[eqs] at he;subst he;simp[Op.eqFields]
 |f::fs,ks,n,d,xs,ys,vs,us,b,hp,he,hx,hy=>by
  simp only[eu] at hp;split at hp
  ·rename_i hh;simp only[QH,sd,ne_eq,S'] at hh;obtain⟨h1,h2⟩:=hh;obtain⟨k,Hj,rfl,BT,hk⟩:∃k Hj,ks=k::Hj/\eu P (n+1) fs=some Hj/\((k= .s/\P.underlying f.type=some .string)\/(k= .b/\P.underlying f.type=some .bool)\/(k= .i/\∃j,P.underlying f.type=some (.int j))):=by
    split at hp
    ·obtain⟨s,q1,q2⟩:=jF.1 hp;exact⟨_,s,q2.symm,q1,.inl ⟨rfl,by assumption⟩⟩
    ·obtain⟨s,q1,q2⟩:=jF.1 hp;exact⟨_,s,q2.symm,q1,.inr (.inl ⟨rfl,by assumption⟩)⟩
    ·obtain⟨s,q1,q2⟩:=jF.1 hp;exact⟨_,s,q2.symm,q1,.inr (.inr ⟨rfl,_,by assumption⟩)⟩
    simp at hp
   cases xs with
   |nil=>simp[eqs] at he
   |cons x xs=>
   cases ys with
   |nil=>simp[eqs] at he
   |cons y ys=>
   simp only[eqs,yV,jF] at he;obtain⟨b1,e1,b2,e2,rfl⟩:=he;simp only[br] at hx hy;obtain⟨v,Hh,hv,rx,sM⟩:=hx;obtain⟨u,KI,hu,ry,sn⟩:=hy;have gv:vs[n]?=some v:=(by rw[<-Xw,hv];rfl);have gu:us[n]?=some u:=(by rw[<-Xw,hu];rfl);have dv:vs.drop (n+1)=Hh:=(by rw[<-rY,hv];rfl);have du:us.drop (n+1)=KI:=(by rw[<-rY,hu];rfl);have ih:=tZ (P:=P) fs Hj (n+1) d xs ys vs us b2 BT e2 (by rw[dv];exact sM) (by rw[du];exact sn);have zA:(isAgg f.type).run P w= .ok false w:=by
    rcases hk with⟨_,hk⟩|⟨_,hk⟩|⟨_,j,hk⟩<;>simp[isAgg,run_underlying hk]
   have pv:(part f.type vs.toArray f.offset).run P w= .ok v w:=(by simp[part,zA,h2,gv]);have pu:(part f.type us.toArray f.offset).run P w= .ok u w:=(by simp[part,zA,h2,gu]);have heq:(Op.equalIn (d+1) f.type v u).run P w= .ok b1 w:=by
    rcases hk with⟨rfl,hk⟩|⟨rfl,hk⟩|⟨rfl,j,hk⟩<;>cases x<;>cases y<;>simp[JP] at e1<;>simp only[RV] at rx ry<;>subst rx<;>subst ry
    ·rw[run_equalIn_string w d f.type _ _ hk];simp[ByteArray.toList_mk,<-e1]
    ·rw[run_equalIn_bool' w d f.type _ _ hk];simp[<-e1]
    obtain⟨rfl,e1⟩:=e1;rw[run_equalIn_int w d f.type _ _ _ _ hk];simp[<-e1]
   simp only[Op.eqFields,ne_eq,h1,XM,Rc,Sem.run_bind,pv,pu,heq,Result.andThen_ok,Sem.run_ite,ih];cases b1<;>simp
  simp at hp
def iW {op:BinOp} {n:Bool} (h:jG op=some n):(op= .eql/\n=false)\/(op= .neq/\n=true):=by
 cases op<;>simp[jG] at h<;>subst h<;>simp
def CH (hr:aH K β env H a w) {o:Oper} {op:BinOp} {t t2:TypeId} {x y:Operand} {x' y':O} {ks:List Kd} {n:Bool} (ho:o.op= .binOp op t x y t2) (hn:jG op=some n)
  (hks:jU K.P t=some ks) (hx:co K.G x=some x') (hy:co K.G y=some y') {z:AV} (hz:c6 (.pM n ks x' y') env=some z):aJ K β H a w o z:=by
 have h:=hr.ev hx;have h2:=hr.ev hy;unfold jU at hks;split at hks
 ·rename_i fs zj;split at hks
  ·rename_i hc;simp only[QH,Ve] at hc;simp only[c6] at hz;split at hz
   ·rename_i xs ys e1 e2;rw[e1] at h;rw[e2] at h2;simp only[RV] at h h2;obtain⟨vs,h3,h4⟩:=h;obtain⟨us,h5,h6⟩:=h2;obtain⟨b,hb,rfl⟩:=jF.1 hz;have KJ:K.P.underlying t=some (.struct (K.P.fieldsOf t)):=(by simp[Program.fieldsOf,zj]);have KL:(K.P.fieldsOf t).toList=fs.toList:=(by simp[Program.fieldsOf,zj]);have hq:(Op.equalIn 10000 t (.agg vs.toArray) (.agg us.toArray)).run K.P w= .ok b w:=by
     rw[show(10000:Nat)=9998+1+1 from rfl,run_equalIn_struct w _ t _ _ KJ hc.1,KL];exact tZ fs.toList ks 0 9998 xs ys vs us b hks hb (by simpa using h4) (by simpa using h6)
    refine aJ.same (v:= .bool (n ^^ b)) ?_ aaG aad;rcases iW hn with⟨rfl,rfl⟩|⟨rfl,rfl⟩
    ·simp only[execOp,ho,h3,h5,Sem.run_bind,run_eqGuard_agg w _ t x y _ _ hc.2,Result.andThen_ok,run_eql_struct,hq];simp
    simp only[execOp,ho,h3,h5,Sem.run_bind,run_eqGuard_agg w _ t x y _ _ hc.2,Result.andThen_ok,run_neq_struct,hq];simp
   simp at hz
  simp at hks
 simp at hks
def Fv (hr:aH K β env H a w) {o:Oper} {op:BinOp} {t t2:TypeId} {x y:Operand} {x' y':O} {n:Bool} (ho:o.op= .binOp op t x y t2) (hn:jG op=some n)
  (ht:K.P.underlying t=some .bool) (hx:co K.G x=some x') (hy:co K.G y=some y') {z:AV} (hz:c6 (.eqb n x' y') env=some z):aJ K β H a w o z:=by
 have h:=hr.ev hx;have h2:=hr.ev hy;simp only[c6] at hz;split at hz
 ·rename_i p q e1 e2;rw[e1] at h;rw[e2] at h2;simp only[RV,di] at h h2 hz;subst hz;refine aJ.same (v:= .bool (n ^^ (p==q))) ?_ aaG aad;have hq:(Op.equal t (.bool p) (.bool q)).run K.P w= .ok (p==q) w:=run_equalIn_bool' w 9999 t p q ht;rcases iW hn with⟨rfl,rfl⟩|⟨rfl,rfl⟩
  ·simp[execOp,ho,h,h2,eqGuard,binOp,hq]
  simp[execOp,ho,h,h2,eqGuard,binOp,hq]
 simp at hz
def ab5 (d:Nat) {P:Program} {t e:TypeId} (ht:P.underlying t=some (.pointer e)) (q:Option Addr):(Op.equalIn (d+1) t (.pointer none) (.pointer q)).run P w= .ok q.isNone w:=by
 simp[Op.equalIn,run_underlying ht]
def aj1 (d:Nat) {P:Program} {t e:TypeId} (ht:P.underlying t=some (.pointer e)) (q:Addr):(Op.equalIn (d+1) t (.pointer (some q)) (.pointer none)).run P w= .ok false w:=by
 simp[Op.equalIn,run_underlying ht]
def sQ (d:Nat) {P:Program} {t:TypeId} {ms:Array (String×TypeId)} (ht:P.underlying t=some (.interface ms)):(Op.equalIn (d+1) t .nilIface .nilIface).run P w= .ok true w:=by
 simp[Op.equalIn,run_underlying ht]
def sR (d:Nat) {P:Program} {t u:TypeId} {v:Value} {ms:Array (String×TypeId)} (ht:P.underlying t=some (.interface ms)):(Op.equalIn (d+1) t (.iface u v) .nilIface).run P w= .ok false w:=by
 simp[Op.equalIn,run_underlying ht]
def Fw (hr:aH K β env H a w) {o:Oper} {op:BinOp} {t t2 e:TypeId} {x y:Operand} {x' y':O} {n:Bool} (ho:o.op= .binOp op t x y t2) (hn:jG op=some n)
  (ht:K.P.underlying t=some (.pointer e)) (hx:co K.G x=some x') (hy:co K.G y=some y') {z:AV} (hz:c6 (.zu n x' y') env=some z):aJ K β H a w o z:=by
 have h:=hr.ev hx;have h2:=hr.ev hy;simp only[c6,jF] at hz;obtain⟨b,hb,rfl⟩:=hz;have key:∀p q,a.eval x= .pointer p->a.eval y= .pointer q->(Op.equal t (.pointer p) (.pointer q)).run K.P w= .ok b w->aJ K β H a w o (.bool (n ^^ b)):=by
  intro p q h3 h4 h5;refine aJ.same (v:= .bool (n ^^ b)) ?_ aaG aad;rcases iW hn with⟨rfl,rfl⟩|⟨rfl,rfl⟩
  ·simp[execOp,ho,h3,h4,eqGuard,binOp,h5]
  simp[execOp,ho,h3,h4,eqGuard,binOp,h5]
 have wM:∀q,(Op.equal t (.pointer none) (.pointer q)).run K.P w= .ok q.isNone w:=by
  intro q;exact ab5 9999 ht q
 have zB:∀q,(Op.equal t (.pointer (some q)) (.pointer none)).run K.P w= .ok false w:=by
  intro q;exact aj1 9999 ht q
 cases e1:ev env x'<;>cases e2:ev env y'<;>rw[e1] at h<;>rw[e2] at h2<;>rw[e1,e2] at hb<;>simp[JQ] at hb<;>simp only[RV] at h h2<;>subst hb
 ·exact key _ _ h h2 (wM _)
 ·obtain⟨q,h2,_⟩:=h2;exact key _ _ h h2 (wM _)
 ·obtain⟨q,q2,h2,_⟩:=h2;exact key _ _ h h2 (wM _)
 ·obtain⟨q,h,_⟩:=h;exact key _ _ h h2 (zB _)
 obtain⟨q,q2,h,_⟩:=h;exact key _ _ h h2 (zB _)
def Fx (hr:aH K β env H a w) {o:Oper} {op:BinOp} {t t2:TypeId} {ms:Array (String×TypeId)} {x y:Operand} {x' y':O} {n:Bool} (ho:o.op= .binOp op t x y t2) (hn:jG op=some n)
  (ht:K.P.underlying t=some (.interface ms)) (hc:sF y=true) (hx:co K.G x=some x') {z:AV} (hz:c6 (.zv n x' y') env=some z):aJ K β H a w o z:=by
 have h:=hr.ev hx;have hy:y= .const .nilIface:=by
  cases y<;>simp[sF] at hc;rename_i v;cases v<;>simp at hc;rfl
 subst hy;simp only[c6] at hz;split at hz
 ·rename_i e1;rw[e1] at h;simp only[RV,di] at h hz;subst hz;refine aJ.same (v:= .bool (n ^^ true)) ?_ aaG aad;have hq:(Op.equal t .nilIface .nilIface).run K.P w= .ok true w:=sQ 9999 ht;rcases iW hn with⟨rfl,rfl⟩|⟨rfl,rfl⟩
  ·simp[execOp,ho,h,show a.eval (.const .nilIface)= .nilIface from rfl,eqGuard,binOp,hq]
  simp[execOp,ho,h,show a.eval (.const .nilIface)= .nilIface from rfl,eqGuard,binOp,hq]
 ·rename_i t' x0 e1;rw[e1] at h;simp only[RV,di] at h hz;subst hz;obtain⟨u,h,_⟩:=h;refine aJ.same (v:= .bool (n ^^ false)) ?_ aaG aad;have hq:(Op.equal t (.iface t' u) .nilIface).run K.P w= .ok false w:=sR 9999 ht;rcases iW hn with⟨rfl,rfl⟩|⟨rfl,rfl⟩
  ·simp[execOp,ho,h,show a.eval (.const .nilIface)= .nilIface from rfl,eqGuard,binOp,hq]
  simp[execOp,ho,h,show a.eval (.const .nilIface)= .nilIface from rfl,eqGuard,binOp,hq]
 simp at hz
end

def Ia (s:List UInt8):List IV:=s.map λc=> .int .u8 (c.toNat:Int)
theorem qR {w:World} {I:Nat->Prop} (b:Nat):∀(s:List UInt8) (o:Nat),(∀j c,s[j]?=some c->w.cell? ⟨b,o+j,none⟩=some (.int .u8 (c.toNat:Int)))->bH w I (Ia s) b o 1
 |[],o,_=>by simp[Ia,bH]
 |c::r,o,h=>by
  simp only[Ia,Rj,bH,fL];refine⟨⟨trivial,_,by simpa using h 0 c rfl,rfl⟩,qR b r (o+1) λj d hj=> ?_⟩;have:=h (j+1) d (by simpa using hj);rw[<-this];congr 2;omega
section
variable {K:Kx} {β:Lb->Option Nat} {env:Env} {H:Hp} {a:Act} {w:World}
def Fy (hr:aH K β env H a w) {o:Oper} {s d e:TypeId} {x:Operand} {x':O} (ho:o.op= .convert s d x) (hs:K.P.underlying s=some .string) (hd:K.P.underlying d=some (.slice e)) (he:K.P.underlying e=some (.int .u8))
  (hx:co K.G x=some x') {y:AV} (hy:c6 (.zg x') env=some y):aJ K β H a w o y:=by
 have h:=hr.ev hx;simp only[c6] at hy;split at hy
 ·rename_i t e1;split at hy
  ·rename_i hlen;rw[e1] at h;simp only[RV,NN,di] at h hy;subst hy;have gY:=run_bytes_of_string (P:=K.P) w s d e ⟨t.toArray⟩ hs hd he;have qS:=grownCap_ge w t.length 0 e;have qC:=grownCap_le_maxLen w t.length 0 e (by simp only[maxLen];omega);have gm:(⟨t.toArray⟩:ByteArray).size=t.length:=abn;rw[gm] at gY;have kG:∀j c,t[j]?=some c->(w.drew.alloc (.cells (bytesRow ⟨t.toArray⟩ (grownCap w t.length 0 e)) e ((bytesRow ⟨t.toArray⟩ (grownCap w t.length 0 e)).size,(bytesRow ⟨t.toArray⟩ (grownCap w t.length 0 e)).size+1))).cell? ⟨w.heap.size,0+j,none⟩=some (.int .u8 (c.toNat:Int)):=by
    intro j c hj;have h1:=World.cell?_alloc_mark w.drew (bytesRow ⟨t.toArray⟩ (grownCap w t.length 0 e)) e ((bytesRow ⟨t.toArray⟩ (grownCap w t.length 0 e)).size,(bytesRow ⟨t.toArray⟩ (grownCap w t.length 0 e)).size+1) j;have h2:w.drew.heap.size=w.heap.size:=rfl;rw[h2] at h1;rw[bM,h1];have zk:=(yY.1 hj).1;unfold bytesRow;rw[Wz (by simpa using zk)];simp[hj]
   refine⟨.slice (some ⟨w.heap.size,0,none⟩) t.length (grownCap w t.length 0 e),_,?_,(mf w).trans (dZ w.drew (.cells (bytesRow ⟨t.toArray⟩ (grownCap w t.length 0 e)) e ((bytesRow ⟨t.toArray⟩ (grownCap w t.length 0 e)).size,(bytesRow ⟨t.toArray⟩ (grownCap w t.length 0 e)).size+1))),?_,aad⟩
   ·simp only[execOp,ho,h,Sem.run_bind,gY,Result.andThen,Sem.run_pure]
   simp only[RV,NN];exact⟨_,_,by rw[G_],by rw[G_];exact qS,qC,.inr ⟨w.heap.size,0,1,rfl,hr.fresh,tM,M3,qR _ t 0 kG⟩⟩
  simp at hy
 simp at hy
theorem mO {w:World} {I:Nat->Prop} {b sz:Nat}:∀(xs:List IV) (s:List UInt8) (o:Nat),jW xs=some s->bH w I xs b o sz->xs=[]\/sz=1 ->
  ∃ns:List Int,ns.length=xs.length/\ns.map (λn=>UInt8.ofNat n.toNat)=s/\∀j n,ns[j]?=some n->w.cell? ⟨b,o+j,none⟩=some (.int .u8 n)
 |[],s,o,h,_,_=>by simp[jW] at h;subst h;exact⟨[],rfl,rfl,tM⟩
 |x::r,s,o,h,he,hz=>by
  have ln:sz=1:=by simpa using hz
  subst ln;cases x with
  |int k n=>
   cases k<;>simp only[jW,reduceCtorEq,jF] at h;obtain⟨s',h1,rfl⟩:=h;simp only[bH,fL] at he;obtain⟨⟨_,v,hv,rfl⟩,CI⟩:=he;obtain⟨ns,e1,e2,e3⟩:=mO r s' (o+1) h1 CI (.inr rfl);refine⟨n::ns,by simp[e1],by simp[e2],λj m hj=> ?_⟩;cases j with
   |zero=>simp at hj;subst hj;exact hv
   |succ j=>
   have:=e3 j m (by simpa using hj);rw[<-this];congr 2;omega
  |_=>simp[jW] at h
theorem fold_push:∀(ns:List Int) (r:ByteArray),ns.foldl (λr n=>r.push (UInt8.ofNat n.toNat)) r=⟨r.data++(ns.map λn=>UInt8.ofNat n.toNat).toArray⟩
 |[],r=>by simp
 |n::ns,r=>by
  simp only[Bw];rw[fold_push ns];simp[ByteArray.push]
def Fz (hr:aH K β env H a w) {o:Oper} {s d e:TypeId} {x:Operand} {x':O} (ho:o.op= .convert s d x) (hs:K.P.underlying s=some (.slice e)) (he:K.P.underlying e=some (.int .u8)) (hd:K.P.underlying d=some .string)
  (hx:co K.G x=some x') {y:AV} (hy:c6 (.wm x') env=some y):aJ K β H a w o y:=by
 simp only[c6] at hy;have h:=hr.ev hx;have key:∀(ad:Option Addr) (n c:Nat) (t:List UInt8),a.eval x= .slice ad n c->(convert s d (.slice ad n c)).run K.P w= .ok (.string ⟨t.toArray⟩) w->aJ K β H a w o (.str t):=by
  intro ad n c t h1 h2;exact aJ.same (v:= .string ⟨t.toArray⟩) (by simp only[execOp,ho,h1,Sem.run_bind,h2,Result.andThen,Sem.run_pure]) (by simp[RV,NN]) aad
 unfold sJ at hy;split at hy
 ·rename_i xs e1;rw[e1] at h;simp only[RV,NN] at h;obtain⟨t,ht,rfl⟩:=jF.1 hy;obtain⟨ad,c,h1,hn,hc,BU⟩:=h;refine key ad xs.length c t h1 ?_;cases ad with
  |none=>
   rw[run_convert_bytes_string w s d e none _ c hs he hd];rcases BU with h0|⟨b,o,sz,h2,_⟩
   ·have:xs=[]:=Rg.1 h0;subst this;simp[jW] at ht;subst ht;simp[Conv.bytesToString];rfl
   cases h2
  |some ad=>
  rw[run_convert_bytes_string w s d e (some ad) _ c hs he hd];have np:∃ns:List Int,ns.length=xs.length/\ns.map (λn=>UInt8.ofNat n.toNat)=t/\∀j n,ns[j]?=some n->w.cell? (ad.add j)=some (.int .u8 n):=by
   rcases BU with h0|⟨b,o,sz,h2,_,_,gm,ll⟩
   ·have:xs=[]:=Rg.1 h0;subst this;simp[jW] at ht;subst ht;exact⟨[],rfl,rfl,tM⟩
   cases h2;have hz:xs=[]\/sz=1:=by
    cases xs with
    |nil=>exact .inl rfl
    |cons x r=>
    right;cases x with
    |int k n=>simp only[bH,fL] at ll;exact ll.1.1
    |_=>simp[jW] at ht
   obtain⟨ns,e1,e2,e3⟩:=mO xs t o ht ll hz;refine⟨ns,e1,e2,λj n hj=> ?_⟩;have:=e3 j n hj;have CJ:(⟨b,o,none⟩:Addr).add j=⟨b,o+j,none⟩:=(by unfold Addr.add;split<;>simp_all);rw[<-this,CJ]
  obtain⟨ns,e1,e2,e3⟩:=np;have hl:=run_loadCells_list (P:=K.P) w ad (ns.map (Value.int .u8)) (λj v hj=>by
   rw[cn] at hj;obtain⟨n,hn,rfl⟩:=jF.1 hj;exact e3 j n hn)
  rw[G_,e1] at hl;rw[run_bytesToString w ad xs.length c ns hl,fold_push,e2];simp[show ByteArray.empty.data=#[] from rfl]
 ·rename_i e1;rw[e1] at h;simp only[RV] at h;obtain⟨ad,h1⟩:=h;simp only[di] at hy;subst hy;refine key ad 0 0 [] h1 ?_;rw[run_convert_bytes_string w s d e ad 0 0 hs he hd];cases ad with
  |none=>simp[Conv.bytesToString];rfl
  |some ad=>
  have hl:=run_loadCells_list (P:=K.P) w ad ([].map (Value.int .u8)) (λj v hj=>by simp at hj);rw[run_bytesToString w ad 0 0 [] hl];rfl
 simp at hy
end

def bD {γ:Type} (f:Lb->γ) (l:Lb) (x:γ):Lb->γ:=λl'=>if l'=l then x else f l'
@[simp] theorem gn {γ:Type} (f:Lb->γ) (l:Lb) (x:γ):bD f l x l=x:=by simp[bD]
theorem aq {γ:Type} (f:Lb->γ) {l l':Lb} (x:γ) (h:l'≠l):bD f l x l'=f l':=by simp[bD,h]
section
variable {K:Kx} {β:Lb->Option Nat} {env:Env} {H:Hp} {a:Act} {w:World}
def aH.YR (hr:aH K β env H a w) {l:Lb} {g:Nat} (hl:live H l) (hb:β l=some g):g<w.heap.size:=by
 obtain⟨r,lz⟩:=hl;obtain⟨_,_,h3⟩:=hr.rows l r lz;simp only[hb] at h3;obtain⟨cur,e,cap,h4,_⟩:=h3;exact(Rv.1 h4).1
def sS {w:World} {g S:Nat} (h:jl w g=some S):g<w.heap.size:=by
 unfold jl at h;cases hg:w.heap[g]? with
 |none=>simp[hg] at h
 |some o=>exact(Rv.1 hg).1
def aH.kill (hr:aH K β env H a w) (l:Lb) (hu:H l≠ .unused):aH K β env (bD H l .dead) a w:=by
 have aK:∀l',live (bD H l .dead) l'->live H l'/\l'≠l:=by
   intro l' ⟨r,h⟩
   by_cases e:l'=l
   · subst e;simp at h
   rw[aq _ _ e] at h;exact⟨⟨r,h⟩,e⟩
 have cX:∀ls,ND w w β β H (bD H l .dead) (Im K β H) (Im K β (bD H l .dead)) ls:=λls=>
   { im := fun k hk hs => ⟨⟨hk.1,fun l' kR => hk.2 l' (aK l' kR).1⟩,hs,rfl⟩
     lb:=λl' _ kR=>⟨(aK l' kR).1,rfl,λ_ _ _ h=>h⟩}
 refine⟨hr.defers,hr.size,λn=>RV.mono _ _ (cX _) (hr.N8 n),?_,λl' g h=>hr.own l' g (aK l' h).1,λl1 l2 g h1 h2=>hr.inj l1 l2 g (aK l1 h1).1 (aK l2 h2).1,?_,?_,hr.frame,?_,?_,λl' g h=>hr.fr l' g (aK l' h).1⟩
 · intro l' r h
   have Vi:=(aK l' ⟨r,h⟩).2
   rw[aq _ _ Vi] at h
   obtain⟨h1,h2,h3⟩:=hr.rows l' r h
   refine⟨h1,h2,?_⟩
   cases hb:β l' with
   |none=>simpa[hb] using h3
   |some g=>
   simp only[hb] at h3 ⊢
   obtain⟨cur,e,cap,e1,e2,e3,e4,e5⟩:=h3
   exact⟨cur,e,cap,e1,e2,e3,e4,λi j cs x hi hj=>let⟨v,k1,k2⟩:=e5 i j cs x hi hj;⟨v,k1,RV.mono _ _ (cX _) k2⟩⟩
 · intro n l' kR
   by_cases e:l'=l
   · subst e;simp
   rw[aq _ _ e];exact hr.eI n l' kR
 · intro l1 r h cs bV l' kR
   have Vi:=(aK l1 ⟨r,h⟩).2
   rw[aq _ _ Vi] at h
   by_cases e:l'=l
   · subst e;simp
   rw[aq _ _ e];exact hr.cH l1 r h cs bV l' kR
 · intro g cs hg
   obtain⟨h1,h2,h3⟩:=hr.W5 g cs hg
   exact⟨((cX []).im g h1 h2).1,h2,da.mono (cX []).toW4 h1 h2 h3⟩
 intro l' kR
 obtain⟨h1,h2⟩:=hr.gA l' kR
 refine⟨?_,λh=>h2 (aK l' h).1⟩
 by_cases e:l'=l
 · subst e;simp
 rw[aq _ _ e];exact h1
def aH.OI (hr:aH K β env H a w) (l:Lb) (hu:H l= .unused) {r:Row} {w':World} (gw:iU w w') (b:Option Nat)
   (hb:∀g,b=some g->w.heap.size<=g) (hm:∀cs∈r.els,∀l'∈ah cs,H l'≠ .unused)
   (pT:ZE w' (bD β l b) (bD H l (.live r)) (Im K (bD β l b) (bD H l (.live r))) l r):aH K (bD β l b) env (bD H l (.live r)) a w':=by
 have aK:∀l',live (bD H l (.live r)) l'->l'≠l->live H l':=by
   intro l' ⟨r',h⟩ e
   rw[aq _ _ e] at h;exact⟨r',h⟩
 have cX:∀ls,(∀l'∈ls,H l'≠ .unused)->ND w w' β (bD β l b) H (bD H l (.live r)) (Im K β H) (Im K (bD β l b) (bD H l (.live r))) ls:=λls lr=>
   { im := fun k hk hs => ⟨⟨hk.1,fun l' kR => by
       by_cases e:l'=l
       · subst e
         simp only[gn]
         intro KM
         have:=hb k KM
         omega
       rw[aq _ _ e];exact hk.2 l' (aK l' kR e)⟩,Uo hs gw.size,gw.block k hs⟩
     lb:=λl' CK kR=>by
       have e:l'≠l:=λe=>lr l' CK (e▸hu)
       refine⟨aK l' kR e,aq _ _ e,λg S _ hS=> ?_⟩
       unfold jl at *
       rwa[gw.block g (sS hS)]}
 have hold:∀l' r',l'≠l->H l'= .live r'->ZE w' (bD β l b) (bD H l (.live r)) (Im K (bD β l b) (bD H l (.live r))) l' r':=by
   intro l' r' e h
   obtain⟨h1,h2,h3⟩:=hr.rows l' r' h
   refine⟨h1,h2,?_⟩
   rw[aq _ _ e]
   cases zC:β l' with
   |none=>simpa[zC] using h3
   |some g=>
   simp only[zC] at h3 ⊢
   obtain⟨cur,e0,cap,e1,e2,e3,e4,e5⟩:=h3
   refine⟨cur,e0,cap,(gw.block g (Rv.1 e1).1).trans e1,e2,e3,e4,λi j cs x hi hj=> ?_⟩
   obtain⟨v,k1,k2⟩:=e5 i j cs x hi hj
   exact⟨v,k1,RV.mono _ _ (cX _ (λq hq=>hr.cH l' r' h cs (PX hi) q (cW _ _ _ hj q hq))) k2⟩
 refine⟨hr.defers,hr.size,λn=>RV.mono _ _ (cX _ (hr.eI n)) (hr.N8 n),?_,?_,?_,?_,?_,hr.frame.wD gw,?_,?_,?_⟩
 · intro l' r' h
   by_cases e:l'=l
   · subst e
     simp at h;subst h
     exact pT
   rw[aq _ _ e] at h
   exact hold l' r' e h
 · intro l' g h hg
   by_cases e:l'=l
   · subst e
     simp at hg
     exact .inr (U' hr.frame.size (hb g hg))
   rw[aq _ _ e] at hg
   exact hr.own l' g (aK l' h e) hg
 · intro l1 l2 g h1 h2 g1 g2
   by_cases e1:l1=l
   · by_cases e2:l2=l
     · rw[e1,e2]
     subst e1
     simp at g1
     rw[aq _ _ e2] at g2
     have:=hb g g1
     have:=hr.YR (aK l2 h2 e2) g2
     omega
   rw[aq _ _ e1] at g1
   by_cases e2:l2=l
   · subst e2
     simp at g2
     have:=hb g g2
     have:=hr.YR (aK l1 h1 e1) g1
     omega
   rw[aq _ _ e2] at g2
   exact hr.inj l1 l2 g (aK l1 h1 e1) (aK l2 h2 e2) g1 g2
 · intro n l' kR
   by_cases e:l'=l
   · subst e;simp
   rw[aq _ _ e];exact hr.eI n l' kR
 · intro l1 r1 h cs bV l' kR
   by_cases e:l'=l
   · subst e;simp
   rw[aq _ _ e]
   by_cases e1:l1=l
   · subst e1
     simp at h;subst h
     exact hm cs bV l' kR
   rw[aq _ _ e1] at h
   exact hr.cH l1 r1 h cs bV l' kR
 · intro g cs hg
   obtain⟨h1,h2,h3⟩:=hr.W5 g cs hg
   exact⟨((cX [] tM).im g h1 h2).1,Uo h2 gw.size,da.mono (cX [] tM).toW4 h1 h2 h3⟩
 · intro l' kR
   obtain⟨h1,h2⟩:=hr.gA l' kR
   have e:l'≠l:=λe=>h1 (e▸hu)
   refine⟨by rw[aq _ _ e];exact h1,λh=> ?_⟩
   rw[aq _ _ e];exact h2 (aK l' h e)
 intro l' g h hf hg
 by_cases e:l'=l
 · subst e
   simp at hg
   exact U' hr.frame.size (hb g hg)
 rw[aq _ _ e] at hg
 exact hr.fr l' g (aK l' h e) hf hg
def aH.relabel (hr:aH K β env H a w) (l l':Lb) {r:Row} (hl:H l= .live r) (hu:H l'= .unused) (hf:l'.fresh=true->l.fresh=true):aH K (bD β l' (β l)) env (bD (bD H l .dead) l' (.live r)) a w:=by
 have Vi:l≠l':=λe=>by rw[e,hu] at hl;cases hl
 have aK:∀q,live (bD (bD H l .dead) l' (.live r)) q->q≠l'->live H q/\q≠l:=by
   intro q ⟨r',h⟩ e
   rw[aq _ _ e] at h
   by_cases e2:q=l
   · subst e2;simp at h
   rw[aq _ _ e2] at h;exact⟨⟨r',h⟩,e2⟩
 have cX:∀ls,(∀q∈ls,H q≠ .unused)->ND w w β (bD β l' (β l)) H (bD (bD H l .dead) l' (.live r)) (Im K β H) (Im K (bD β l' (β l)) (bD (bD H l .dead) l' (.live r))) ls:=λls lr=>
   { im := fun k hk hs => ⟨⟨hk.1,fun q hq => by
       by_cases e:q=l'
       · subst e
         simp only[gn]
         exact hk.2 l ⟨r,hl⟩
       rw[aq _ _ e];exact hk.2 q (aK q hq e).1⟩,hs,rfl⟩
     lb:=λq hq oX=>by
       have e:q≠l':=λe=>lr q hq (e▸hu)
       exact⟨(aK q oX e).1,aq _ _ e,λ_ _ _ h=>h⟩}
 have hold:∀q r',H q= .live r'->∀(b:Option Nat),b=β q->0<r'.sz/\(∀cs∈r'.els,cs.length=r'.sz) /\
     match b with
     |none=>r'.els=[]
     |some g=>∃cur e cap,w.heap[g]?=some (.cells cur e (0,0))/\cur.size=cap*r'.sz/\cap<=maxLen/\r'.els.length<=cap /\
         ∀i j cs x,r'.els[i]?=some cs->cs[j]?=some x->∃v,cur[i*r'.sz+j]?=some v/\RV w (bD β l' (β l)) (bD (bD H l .dead) l' (.live r)) (Im K (bD β l' (β l)) (bD (bD H l .dead) l' (.live r))) x v:=by
   intro q r' h b hb
   subst hb
   obtain⟨h1,h2,h3⟩:=hr.rows q r' h
   refine⟨h1,h2,?_⟩
   cases zC:β q with
   |none=>simpa[zC] using h3
   |some g=>
   simp only[zC] at h3 ⊢
   obtain⟨cur,e0,cap,e1,e2,e3,e4,e5⟩:=h3
   refine⟨cur,e0,cap,e1,e2,e3,e4,λi j cs x hi hj=> ?_⟩
   obtain⟨v,k1,k2⟩:=e5 i j cs x hi hj
   exact⟨v,k1,RV.mono _ _ (cX _ (λp hp=>hr.cH q r' h cs (PX hi) p (cW _ _ _ hj p hp))) k2⟩
 refine⟨hr.defers,hr.size,λn=>RV.mono _ _ (cX _ (hr.eI n)) (hr.N8 n),?_,?_,?_,?_,?_,hr.frame,?_,?_,?_⟩
 · intro q r' h
   by_cases e:q=l'
   · subst e
     simp at h;subst h
     exact hold l r hl _ tM
   rw[aq _ _ e] at h
   by_cases e2:q=l
   · subst e2;simp at h
   rw[aq _ _ e2] at h
   exact hold q r' h _ (aq _ _ e)
 · intro q g h hg
   by_cases e:q=l'
   · subst e
     simp at hg
     exact hr.own l g ⟨r,hl⟩ hg
   rw[aq _ _ e] at hg
   exact hr.own q g (aK q h e).1 hg
 · intro l1 l2 g h1 h2 g1 g2
   by_cases e1:l1=l'
   · by_cases e2:l2=l'
     · rw[e1,e2]
     subst e1
     simp at g1
     rw[aq _ _ e2] at g2
     exact absurd (hr.inj l2 l g (aK l2 h2 e2).1 ⟨r,hl⟩ g2 g1) (aK l2 h2 e2).2
   rw[aq _ _ e1] at g1
   by_cases e2:l2=l'
   · subst e2
     simp at g2
     exact absurd (hr.inj l1 l g (aK l1 h1 e1).1 ⟨r,hl⟩ g1 g2) (aK l1 h1 e1).2
   rw[aq _ _ e2] at g2
   exact hr.inj l1 l2 g (aK l1 h1 e1).1 (aK l2 h2 e2).1 g1 g2
 · intro n q hq
   by_cases e:q=l'
   · subst e;simp
   rw[aq _ _ e]
   by_cases e2:q=l
   · subst e2;simp
   rw[aq _ _ e2];exact hr.eI n q hq
 · intro l1 r1 h cs bV q hq
   by_cases e:q=l'
   · subst e;simp
   rw[aq _ _ e]
   by_cases e2:q=l
   · subst e2;simp
   rw[aq _ _ e2]
   by_cases e1:l1=l'
   · subst e1
     simp at h;subst h
     exact hr.cH l r hl cs bV q hq
   rw[aq _ _ e1] at h
   by_cases e3:l1=l
   · subst e3;simp at h
   rw[aq _ _ e3] at h
   exact hr.cH l1 r1 h cs bV q hq
 · intro g cs hg
   obtain⟨h1,h2,h3⟩:=hr.W5 g cs hg
   exact⟨((cX [] tM).im g h1 h2).1,h2,da.mono (cX [] tM).toW4 h1 h2 h3⟩
 · intro q hq
   obtain⟨h1,h2⟩:=hr.gA q hq
   have e:q≠l':=λe=>h1 (e▸hu)
   refine⟨?_,λh=> ?_⟩
   · rw[aq _ _ e]
     by_cases e2:q=l
     · subst e2;simp
     rw[aq _ _ e2];exact h1
   rw[aq _ _ e];exact h2 (aK q h e).1
 intro q g h hq hg
 by_cases e:q=l'
 · subst e
   simp at hg
   exact hr.fr l g ⟨r,hl⟩ (hf hq) hg
 rw[aq _ _ e] at hg
 exact hr.fr q g (aK q h e).1 hq hg
def jt {w:World} {g:Nat} {cur cur':Array Value} {e:TypeId} {fr:Nat×Nat} (hg:w.heap[g]?=some (.cells cur e fr)) (hs:cur'.size=cur.size) (k S:Nat) (h:jl w k=some S) :
  jl (w.setRow g cur') k=some S:=by
 by_cases e:k=g
 ·subst e;unfold jl at *;rw[setRow_heap w k cur cur' _ fr hg];simp only[hg] at h;simp only[hs];exact h
 unfold jl at *
 rwa[setRow_other w g k cur' e]
def aH.setRow (hr:aH K β env H a w) (l:Lb) {r r':Row} {g:Nat} {cur cur':Array Value} {e:TypeId} {cap:Nat} (hl:H l= .live r) (hb:β l=some g)
   (hg:w.heap[g]?=some (.cells cur e (0,0))) (hs:cur'.size=cur.size) (gm:r'.sz=r.sz) (zD:cur.size=cap*r.sz) (qC:cap<=maxLen) (hlen:r'.els.length<=cap)
   (bV:∀cs∈r'.els,cs.length=r.sz) (hm:∀cs∈r'.els,∀l'∈ah cs,H l'≠ .unused)
   (hc:∀i j cs x,r'.els[i]?=some cs->cs[j]?=some x->∃v,cur'[i*r.sz+j]?=some v/\RV w β H (Im K β H) x v) :
   aH K β env (bD H l (.live r')) a (w.setRow g cur'):=by
 have aK:∀q,live (bD H l (.live r')) q↔live H q:=by
   intro q
   by_cases e:q=l
   · subst e;simp[live,hl]
   simp[live,aq _ _ e]
 have EN:∀k,Im K β (bD H l (.live r')) k↔Im K β H k:=by
   intro k
   simp only[Im,aK]
 have cX:∀ls,ND w (w.setRow g cur') β β H (bD H l (.live r')) (Im K β H) (Im K β (bD H l (.live r'))) ls:=λls=>
   { im := fun k hk FA => by
       have Vi:k≠g:=λe=>hk.2 l ⟨r,hl⟩ (e▸hb)
       exact⟨(EN k).2 hk,by simpa[World.setRow] using FA,setRow_other w g k cur' Vi⟩
     lb:=λq _ hq=>⟨(aK q).1 hq,rfl,λg' S _ h=>jt hg hs g' S h⟩}
 refine⟨hr.defers,hr.size,λn=>RV.mono _ _ (cX _) (hr.N8 n),?_,λq g' h=>hr.own q g' ((aK q).1 h),λl1 l2 g' h1 h2=>hr.inj l1 l2 g' ((aK l1).1 h1) ((aK l2).1 h2),?_,?_,?_,?_,?_,λq g' h=>hr.fr q g' ((aK q).1 h)⟩
 · intro q r1 h
   by_cases e1:q=l
   · subst e1
     simp at h;subst h
     refine⟨by rw[gm];exact(hr.rows q r hl).1,by rw[gm];exact bV,?_⟩
     simp only[hb]
     refine⟨cur',e,cap,setRow_heap w g cur cur' e (0,0) hg,by rw[hs,zD,gm],qC,hlen,λi j cs x hi hj=> ?_⟩
     obtain⟨v,k1,k2⟩:=hc i j cs x hi hj
     exact⟨v,by rw[gm];exact k1,RV.mono _ _ (cX _) k2⟩
   rw[aq _ _ e1] at h
   obtain⟨h1,h2,h3⟩:=hr.rows q r1 h
   refine⟨h1,h2,?_⟩
   cases zC:β q with
   |none=>simpa[zC] using h3
   |some g'=>
   simp only[zC] at h3 ⊢
   have Vi:g'≠g:=λe=>e1 (hr.inj q l g ⟨r1,h⟩ ⟨r,hl⟩ (e▸zC) hb)
   obtain⟨Ib,e0,Ic,k1,k2,k3,k4,k5⟩:=h3
   refine⟨Ib,e0,Ic,(setRow_other w g g' cur' Vi).trans k1,k2,k3,k4,λi j cs x hi hj=> ?_⟩
   obtain⟨v,j1,j2⟩:=k5 i j cs x hi hj
   exact⟨v,j1,RV.mono _ _ (cX _) j2⟩
 · intro n q hq
   by_cases e1:q=l
   · subst e1;simp
   rw[aq _ _ e1];exact hr.eI n q hq
 · intro l1 r1 h cs FB q hq
   by_cases e1:q=l
   · subst e1;simp
   rw[aq _ _ e1]
   by_cases e2:l1=l
   · subst e2
     simp at h;subst h
     exact hm cs FB q hq
   rw[aq _ _ e2] at h
   exact hr.cH l1 r1 h cs FB q hq
 · refine⟨hr.frame.os,hr.frame.tape,hr.frame.output,by simpa[World.setRow] using hr.frame.size,λk hk hd=> ?_,λk S hS=>jt hg hs k S (hr.frame.bs k S hS)⟩
   have Vi:k≠g:=by
     intro e1
     subst e1
     rcases hr.own l k ⟨r,hl⟩ hb with h1|h1
     · exact hd h1
     omega
   rw[setRow_other w g k cur' Vi]
   exact hr.frame.block k hk hd
 · intro k cs hk
   obtain⟨h1,h2,h3⟩:=hr.W5 k cs hk
   exact⟨((cX []).im k h1 h2).1,((cX []).im k h1 h2).2.1,da.mono (cX []).toW4 h1 h2 h3⟩
 intro q hq
 obtain⟨h1,h2⟩:=hr.gA q hq
 refine⟨?_,λh=>h2 ((aK q).1 h)⟩
 by_cases e1:q=l
 · subst e1;simp
 rw[aq _ _ e1];exact h1
end

def Wl (m:Option Nat) (x:AV) (H:Hp):Option AV:=
 match x with
 | .ptr l sz i j=>match H l with
  | .live r=>if r.sz=sz then(r.els[i]?).bind λcs=>match m with
    |none=>cs[j]?
    |some k=>if j+k<=cs.length then some (.agg ((cs.drop j).take k)) else none
   else none
  |_=>none
 |_=>none
def gZ (m:Nat) (a x:AV) (H:Hp):Option Hp:=
 match a with
 | .ptr l sz i j=>match H l with
  | .live r=>if r.sz=sz/\x.sI=true/\x.cells.length=m then(r.els[i]?).bind λcs=>
    if j+m<=cs.length then some (bD H l (.live ⟨sz,r.els.set i (cs.take j++x.cells++cs.drop (j+m))⟩)) else none
   else none
  |_=>none
 |_=>none
def iq (K:Kx) (env:Env) (a:Act) (w:World) (o:Oper) (d:Option Nat) (x:AV) (H':Hp):Prop:=
 ∃nx w' β' v,(execOp a.eval o).run K.P w= .ok nx w'/\(nx= .value v\/(nx= .skip/\v=undef))/\aH K β' (cV env d x) H' (a.put d v) w'
section
variable {K:Kx} {β:Lb->Option Nat} {env:Env} {H:Hp} {a:Act} {w:World}
def aJ.r {o:Oper} {x:AV} {d:Option Nat} (hr:aH K β env H a w) (hd:∀n,d=some n->n<K.N) (h:aJ K β H a w o x):iq K env a w o d x H:=by
 obtain⟨v,w',h1,h2,h3,h4⟩:=h;exact⟨_,w',β,v,h1,.inl rfl,hr.step h2 hd (λ_=>h3) (λ_=>h4)⟩
def ZE.block {l:Lb} {r:Row} {g:Nat} {I:Nat->Prop} (h:ZE w β H I l r) (hb:β l=some g) :
  ∃cur e cap,w.heap[g]?=some (.cells cur e (0,0))/\cur.size=cap*r.sz/\cap<=maxLen/\r.els.length<=cap /\
   ∀i j cs x,r.els[i]?=some cs->cs[j]?=some x->∃v,cur[i*r.sz+j]?=some v/\RV w β H I x v:=by
 obtain⟨_,_,h3⟩:=h;simpa only[hb] using h3
def vb {r:Row} {cur:Array Value} {I:Nat->Prop} {i:Nat} {cs:List AV} (hi:r.els[i]?=some cs)
  (h:∀i j cs x,r.els[i]?=some cs->cs[j]?=some x->∃v,cur[i*r.sz+j]?=some v/\RV w β H I x v) :
  ∃vs:List Value,vs.length=cs.length/\br w β H I cs vs/\∀j v,vs[j]?=some v->cur[i*r.sz+j]?=some v:=by
 have key:∀(n:Nat) (ds:List AV),ds=cs.drop n->∃vs:List Value,vs.length=ds.length/\br w β H I ds vs/\∀j v,vs[j]?=some v->cur[i*r.sz+(n+j)]?=some v:=by
  intro n ds;induction ds generalizing n with
  |nil=>intro _;exact⟨[],rfl,abG,tM⟩
  |cons x ds ih=>
  intro e;have hx:cs[n]?=some x:=by rw[<-Xw,<-e];rfl
  have hd:ds=cs.drop (n+1):=by rw[<-rY,<-e];rfl
  obtain⟨v,h1,h2⟩:=h i n cs x hi hx;obtain⟨vs,k1,k2,k3⟩:=ih (n+1) hd;refine⟨v::vs,by simp[k1],⟨v,vs,rfl,h2,k2⟩,?_⟩;intro j u hj;cases j with
  |zero=>simp at hj;subst hj;simpa using h1
  |succ j=>
  have:=k3 j u (by simpa using hj)
  rwa[show n+1+j=n+(j+1) by omega] at this
 obtain⟨vs,k1,k2,k3⟩:=key 0 cs tM;exact⟨vs,k1,k2,λj v hj=>by simpa using k3 j v hj⟩
def AV.vc {x:AV} (h:x.sI=true):∀y∈x.cells,y.one=true:=by
 cases x<;>simp[AV.sI,AV.one] at h<;>simp[AV.cells,AV.one];exact h
def nH (K:Kx) (β:Lb->Option Nat) (H:Hp) (a:Act) (w:World) (o:Oper) (x:AV):Prop:=
 ∃v,(execOp a.eval o).run K.P w= .ok (.value v) w/\RV w β H (Im K β H) x v/\∀l∈x.an,H l≠ .unused
def nH.v {o:Oper} {x:AV} (h:nH K β H a w o x):aJ K β H a w o x:=by
 obtain⟨v,h1,h2,h3⟩:=h;exact .same h1 h2 h3
def nH.same {o:Oper} {x:AV} {v:Value} (h:(execOp a.eval o).run K.P w= .ok (.value v) w)
 (hv:RV w β H (Im K β H) x v) (hm:∀l∈x.an,H l≠ .unused):nH K β H a w o x:=⟨v,h,hv,hm⟩
def t_ (hr:aH K β env H a w) {o:Oper} {t:TypeId} {x:Operand} {x':O} {m:Option Nat} (ho:o.op= .load t x) (hm:u5 K.P t=some m) (hx:co K.G x=some x') {y:AV}
  (hy:Wl m (ev env x') H=some y):nH K β H a w o y:=by
 have h:=hr.ev hx;unfold Wl at hy;split at hy
 ·rename_i l sz i j e;rw[e] at h;simp only[RV] at h;obtain⟨ad,h1,h2⟩:=h;split at hy
  ·rename_i r hl;split at hy
   ·rename_i gm;subst gm;obtain⟨cs,hi,hy⟩:=yV.1 hy;obtain⟨g,hb,rfl⟩:=h2 ⟨r,hl⟩;obtain⟨cur,e0,cap,k1,k2,k3,k4,k5⟩:=(hr.rows l r hl).block hb;obtain⟨vs,v1,v2,v3⟩:=vb hi k5;have kG:∀q v,vs[q]?=some v->w.cell? ⟨g,i*r.sz+q,none⟩=some v:=by
     intro q v hq;rw[cell_of_row w g _ cur e0 (0,0) k1];exact v3 q v hq
    have run:∀v,(loadVar t ⟨g,i*r.sz+j,none⟩).run K.P w= .ok v w->(execOp a.eval o).run K.P w= .ok (.value v) w:=by
     intro v hv;simp[execOp,ho,h1,Instr.loadAt,Instr.sureAddr,hv]
    have BV:∀q∈ah cs,H q≠ .unused:=hr.cH l r hl cs (PX hi);cases m with
    |none=>
     simp only at hy;obtain⟨v,e1,e2⟩:=br.get _ _ _ _ v2 hy;exact nH.same (run v (jI hm _ _ (kG j v e1))) e2 (λq hq=>BV q (cW _ _ _ hy q hq))
    |some k=>
    simp only at hy;split at hy
    ·rename_i hk;simp only[di] at hy;subst hy;refine nH.same (run (.agg ((vs.drop j).take k).toArray) (jH hm _ _ aak (λq v hq=> ?_))) ⟨_,rfl,br.take _ _ _ (br.drop _ _ _ v2)⟩ ?_
     ·rw[Rd] at hq;split at hq
      ·rw[Ba] at hq;rw[addr_add,ze];exact kG _ v hq
      simp at hq
     intro q hq;simp only[AV.an] at hq;refine BV q ?_;have lA:∀(l m:List AV),ah (l++m)=ah l++ah m:=by
      intro l m;induction l with
      |nil=>rfl
      |cons x r ih=>simp[ah,ih]
     have e1:=lA (cs.take j) (cs.drop j);rw[tO] at e1;have e2:=lA ((cs.drop j).take k) ((cs.drop j).drop k);rw[tO] at e2;rw[e1,e2];exact QL.2 (.inr (QL.2 (.inl hq)))
    simp at hy
   simp at hy
  simp at hy
 simp at hy
def CL (hr:aH K β env H a w) {o:Oper} {t:TypeId} {x:Operand} {x':O} {m:Option Nat} (ho:o.op= .load t x) (hm:u5 K.P t=some m) (hx:co K.G x=some x') {y:AV}
 (hy:Wl m (ev env x') H=some y):aJ K β H a w o y:=(t_ hr ho hm hx hy).v
def BW (hr:aH K β env H a w) {o:Oper} {c:Array Value} {e:TypeId} {cs:List AV} {d:Nat} (hd:d<K.N)
   (gY:(execOp a.eval o).run K.P w= .ok (.value (.pointer (some ⟨w.heap.size,0,none⟩))) (w.alloc (.cells c e)))
   (hc:br w β H (Im K β H) cs c.toList) (h0:0<cs.length) (zE:cs.length<=maxLen) (hm:∀l∈ah cs,H l≠ .unused) (hu:H (.loc d)= .unused) :
   iq K env a w o (some d) (.ptr (.loc d) cs.length 0 0) (bD H (.loc d) (.live ⟨cs.length,[cs]⟩)):=by
 have gw:=dZ w (.cells c e)
 have hlen:c.size=cs.length:=by rw[<-br.len _ _ hc];simp
 have cX:ND w (w.alloc (.cells c e)) β (bD β (.loc d) (some w.heap.size)) H (bD H (.loc d) (.live ⟨cs.length,[cs]⟩)) (Im K β H)
     (Im K (bD β (.loc d) (some w.heap.size)) (bD H (.loc d) (.live ⟨cs.length,[cs]⟩))) (ah cs):=
   { im := fun k hk hs => ⟨⟨hk.1,fun l' ⟨r',kR⟩ => by
       by_cases e1:l'= .loc d
       · subst e1;simp;omega
       rw[aq _ _ e1] at kR ⊢;exact hk.2 l' ⟨r',kR⟩⟩,Uo hs gw.size,gw.block k hs⟩
     lb:=λl' CK ⟨r',kR⟩=>by
       have e1:l'≠ .loc d:=λe1=>hm l' CK (e1▸hu)
       rw[aq _ _ e1] at kR
       refine⟨⟨r',kR⟩,aq _ _ e1,λg S _ hS=> ?_⟩
       unfold jl at *
       rwa[gw.block g (sS hS)]}
 have pT:ZE (w.alloc (.cells c e)) (bD β (.loc d) (some w.heap.size)) (bD H (.loc d) (.live ⟨cs.length,[cs]⟩))
     (Im K (bD β (.loc d) (some w.heap.size)) (bD H (.loc d) (.live ⟨cs.length,[cs]⟩))) (.loc d) ⟨cs.length,[cs]⟩:=by
   refine⟨h0,tM,?_⟩
   simp only[gn]
   refine⟨c,e,1,heap_alloc_new w (.cells c e),by simp[hlen],by simp[maxLen],tM,λi j dF x hi hj=> ?_⟩
   cases i with
   |succ i=>simp at hi
   |zero=>
   simp at hi;subst hi
   obtain⟨v,k1,k2⟩:=br.get _ _ _ _ hc hj
   refine⟨v,by simpa using k1,RV.mono _ _ (cX.sub (λl hl=>cW _ _ _ hj l hl)) k2⟩
 have h2:=hr.OI (.loc d) hu gw (some w.heap.size) tM (by simpa using hm) pT
 have h3:=h2.step (Below.refl _ _) (d:=some d) (x:= .ptr (.loc d) cs.length 0 0) (v:= .pointer (some ⟨w.heap.size,0,none⟩)) (by simpa using hd)
   (λ_=>by simp only[RV];exact⟨_,rfl,λ_=>⟨w.heap.size,tM,tM⟩⟩) aad
 exact⟨_,_,_,_,gY,.inl rfl,h3⟩
def FC (hr:aH K β env H a w) {o:Oper} {t:TypeId} {x:Operand} {x':O} {d:Nat} (hd:d<K.N) (ho:o.op= .box t x) (hx:co K.G x=some x') (g_:(ev env x').sI=true)
  (h0:0<(ev env x').cells.length) (zE:(ev env x').cells.length<=maxLen) (hu:H (.loc d)= .unused) :
  iq K env a w o (some d) (.ptr (.loc d) (ev env x').cells.length 0 0) (bD H (.loc d) (.live ⟨(ev env x').cells.length,[(ev env x').cells]⟩)):=by
 have h:=hr.ev hx;have hm:=hr.eo hx;obtain⟨k1,k2⟩:=br.kg h (AV.sL g_);refine BW hr hd (c:=(a.eval x).cells) (e:=t) ?_ k2 h0 zE ?_ hu
 ·simp[execOp,ho,Instr.box,newVar,newRow]
 intro l hl;refine hm l ?_;cases hc:ev env x'<;>simp[hc,AV.cells,ah] at hl<;>simp[AV.an] at hl ⊢<;>exact hl
theorem XC:∀(l:List Value) (xs:List AV),YJ l=some xs->ah xs=[]
 |[],xs,h=>by simp[YJ] at h;subst h;rfl
 |v::r,xs,h=>by
  simp only[YJ,yV,jF] at h;obtain⟨x,h1,s,h2,rfl⟩:=h;simp[ah,sE h1,XC r s h2]
def zF (hr:aH K β env H a w) {o:Oper} {t:TypeId} {i:TypeInfo} {z:Value} {cs:List AV} {d:Nat} (hd:d<K.N) (ho:o.op= .alloc t) (hi:K.P.info? t=some i) (hz:i.zero=some z)
  (nF:YJ z.cells.toList=some cs) (h0:0<cs.length) (zE:cs.length<=maxLen) (hu:H (.loc d)= .unused) :
  iq K env a w o (some d) (.ptr (.loc d) cs.length 0 0) (bD H (.loc d) (.live ⟨cs.length,[cs]⟩)):=by
 refine BW hr hd (c:=z.cells) (e:=t) ?_ (gX _ _ nF _ _ _ _) h0 zE (by simp[XC _ _ nF]) hu;simp[execOp,ho,Instr.alloc,zeroValue,typeInfo,hi,hz,newVar,newRow]
def zG (hr:aH K β env H a w) {o:Oper} {t:TypeId} {x y:Operand} {x' y':O} {m:Nat} (ho:o.op= .store t x y) (hm:ZM K.P t=some m) (hx:co K.G x=some x') (hy:co K.G y=some y') {H':Hp}
  (hs:gZ m (ev env x') (ev env y') H=some H'):iq K env a w o none .un H':=by
 have h:=hr.ev hx;have h2:=hr.ev hy;have KN:=hr.eo hy;unfold gZ at hs;split at hs
 ·rename_i l sz i j e;rw[e] at h;simp only[RV] at h;obtain⟨ad,h1,h3⟩:=h;split at hs
  ·rename_i r hl;split at hs
   ·rename_i hc;obtain⟨gm,g_,hlen⟩:=hc;subst gm;obtain⟨cs,hi,hs⟩:=yV.1 hs;split at hs
    ·rename_i L_;simp only[di] at hs;subst hs;obtain⟨g,hb,rfl⟩:=h3 ⟨r,hl⟩;obtain⟨cur,e0,cap,k1,k2,k3,k4,k5⟩:=(hr.rows l r hl).block hb;obtain⟨c1,c2⟩:=br.kg h2 (AV.sL g_);have XV:i<r.els.length:=(yY.1 hi).1;have qT:cs.length=r.sz:=(hr.rows l r hl).2.1 cs (PX hi);have hbound:i*r.sz+r.sz<=cur.size:=by
      rw[k2,<-Nat.succ_mul];exact Ri _ sf
     have Hl:(a.eval y).cells.toList.length=m:=aak;have FD:=run_storeCells_at K.P g (i*r.sz+j) e0 (a.eval y).cells.toList 0 cur w k1 sf (by
      intro u hu;obtain⟨q,hq⟩:=Sw hu;have EO:q<(ev env y').cells.length:=by
       have:=(yY.1 hq).1;omega
      obtain⟨u',e1,e2⟩:=br.get _ _ q _ c2 (rX EO);rw[hq] at e1;cases e1;exact RV.lv e2 (AV.vc g_ _ (vI EO)))
     simp only[kf] at FD;have gY:(execOp a.eval o).run K.P w= .ok .skip (w.setRow g (cur.toList.take (i*r.sz+j)++(a.eval y).cells.toList++cur.toList.drop (i*r.sz+j+(a.eval y).cells.toList.length)).toArray):=by
      have Vi:¬(a.eval y).cells.size≠m:=(by simp at Hl;simp[Hl]);simp only[execOp,ho,h1,Instr.storeAt,Instr.sureAddr,Sem.run_bind,Sem.run_pure,Result.andThen_ok,storeVar,cp hm,Sem.run_ite,Vi,nX,FD]
     have kH:(cur.toList.take (i*r.sz+j)++(a.eval y).cells.toList++cur.toList.drop (i*r.sz+j+(a.eval y).cells.toList.length)).toArray.size=cur.size:=by
      simp only[W2,ko,tp,BH,JF];simp at Hl;omega
     have ju:=hr.setRow l (r':=⟨r.sz,r.els.set i (cs.take j++(ev env y').cells++cs.drop (j+m))⟩) hl hb k1 kH rfl k2 k3 (by simpa using k4) ?_ ?_ ?_
     ·have:=ju.step (Below.refl _ _) (d:=none) (x:= .un) (v:=undef) tM tM tM;exact⟨_,_,_,_,gY,.inr ⟨rfl,rfl⟩,this⟩
     ·intro ds ua;rcases Vg ua with ua|rfl
      ·exact(hr.rows l r hl).2.1 ds ua
      simp;omega
     ·intro ds ua q hq;rcases Vg ua with ua|rfl
      ·exact hr.cH l r hl ds ua q hq
      have lA:∀(l m:List AV),ah (l++m)=ah l++ah m:=by
       intro l m;induction l with
       |nil=>rfl
       |cons x r ih=>simp[ah,ih]
      rw[lA,lA,QL,QL] at hq;have bV:=hr.cH l r hl cs (PX hi);rcases hq with(hq|hq)|hq
      ·have e1:=lA (cs.take j) (cs.drop j);rw[tO] at e1;exact bV q (by rw[e1];exact QL.2 (.inl hq))
      ·refine KN q ?_;cases hc:ev env y'<;>simp[hc,AV.cells,ah] at hq<;>simp[AV.an] at hq ⊢<;>exact hq
      have e1:=lA (cs.take (j+m)) (cs.drop (j+m));rw[tO] at e1;exact bV q (by rw[e1];exact QL.2 (.inr hq))
     intro i' j' ds x ed iX;have Ie:(a.eval y).cells.toList.length=m:=Hl;have jY:∀n,((cur.toList.take (i*r.sz+j)++(a.eval y).cells.toList++cur.toList.drop (i*r.sz+j+(a.eval y).cells.toList.length)).toArray)[n]? =
       if n<i*r.sz+j then cur[n]? else if n<i*r.sz+j+m then(a.eval y).cells.toList[n - (i*r.sz+j)]? else cur[n]?:=by
      intro n;rw[Ie];have ht:(cur.toList.take (i*r.sz+j)).length=i*r.sz+j:=aak;simp only[Zl];by_cases Cv:n<i*r.sz+j
      ·rw[P8 Cv,SS,bB sf,Rd,P8 Cv];simp
      rw[Ev Cv];by_cases JU:n<i*r.sz+j+m
      ·rw[P8 JU,SS,b_ sf,ht,bB sf]
      rw[Ev JU,b_ (by simp only[ko];omega)];simp only[ko,ht,Ie,Ba,Vv];congr 1;omega
     by_cases e1:i'=i
     ·subst e1;rw[Wj XV] at ed;simp only[di] at ed;subst ed;have CM:(cs.take j).length=j:=aak;rw[SS] at iX;by_cases Ig:j'<j
      ·rw[bB sf,Rd,P8 Ig] at iX;obtain⟨v,q1,q2⟩:=k5 i' j' cs x hi iX;exact⟨v,by rw[jY,P8 sf];exact q1,q2⟩
      rw[b_ sf,CM] at iX;by_cases FE:j'<j+m
      ·rw[bB sf] at iX;obtain⟨v,q1,q2⟩:=br.get _ _ _ _ c2 iX;refine⟨v,?_,q2⟩;rw[jY,Ev sf,P8 sf,show i'*r.sz+j' - (i'*r.sz+j)=j' - j by omega];exact q1
      rw[b_ sf,Ba] at iX;have KO:j+m+(j' - j - (ev env y').cells.length)=j':=sf;rw[KO] at iX;obtain⟨v,q1,q2⟩:=k5 i' j' cs x hi iX;exact⟨v,by rw[jY,Ev sf,Ev sf];exact q1,q2⟩
     rw[Bd (Ss e1)] at ed;obtain⟨v,q1,q2⟩:=k5 i' j' ds x ed iX;refine⟨v,?_,q2⟩;have KP:j'<r.sz:=by
      have:=(hr.rows l r hl).2.1 ds (PX ed);have:=(yY.1 iX).1;omega
     have CN:i'*r.sz+j'<i*r.sz\/i*r.sz+r.sz<=i'*r.sz+j':=by
      rcases Nat.lt_or_gt_of_ne e1 with bI|PS
      ·left;have:=Ri r.sz (show i'+1<=i by omega);rw[Sv] at this;omega
      right;have:=Ri r.sz (show i+1<=i' by omega);rw[Sv] at this;omega
     rw[jY];rcases CN with CN|CN
     ·rw[P8 sf];exact q1
     rw[Ev sf,Ev sf];exact q1
    simp at hs
   simp at hs
  simp at hs
 simp at hs
end

open Classical in
noncomputable def al_ (sz:Nat) (x:AV) (H:Hp):Option (List (List AV)):=
 match x with
 | .nil0=>some []
 | .list xs=>if jV sz xs then some (xs.map fun y=>y.cells.map IV.dQ) else none
 | .str s=>if sz=1 then some (s.map fun c=>[.int .u8 c.toNat]) else none
 | .sl l s i n=>match H l with
  | .live r=>if s=sz∧r.sz=sz∧i+n≤r.els.length then some ((r.els.drop i).take n) else none
  |_=>none
 | .slk l s i n _=>match H l with
  | .live r=>if s=sz∧r.sz=sz∧i+n≤r.els.length then some ((r.els.drop i).take n) else none
  |_=>none
 |_=>none
def AV.oJ (x:List AV):Prop:=∀y∈x,y.one=true
open Classical in
noncomputable def jN (sz bytes d:Nat) (s x:AV) (H:Hp):Option (AV×Hp):=
 (al_ sz x H).bind fun news=>if ¬(∀cs∈news,AV.oJ cs) then none else
  match s with
  | .nil0=>if news.length*bytes≤140737488355328∧0<bytes∧H (.loc d)= .unused then some (.sl (.loc d) sz 0 news.length,bD H (.loc d) (.live ⟨sz,news⟩)) else none
  | .sl l s' i n=>match H l with
   | .live r=>if s'=sz∧r.sz=sz∧i=0∧n≤r.els.length∧(n+news.length)*bytes≤140737488355328∧0<bytes∧l≠l.app d∧H (l.app d)= .unused then
    some (.sl (l.app d) sz 0 (n+news.length),bD (bD H l .dead) (l.app d) (.live ⟨sz,r.els.take n++news⟩)) else none
   |_=>none
  | .slk l s' i n c=>match H l with
   | .live r=>if s'=sz∧r.sz=sz∧i=0∧n≤r.els.length∧0<bytes∧l≠ .loc d then
    (if n+news.length≤c then(if n+news.length≤r.els.length then some (.slk l sz 0 (n+news.length) c,bD H l (.live ⟨sz,r.els.take n++news++r.els.drop (n+news.length)⟩)) else none)
    else(if(n+news.length)*bytes≤140737488355328∧H (.loc d)= .unused then some (.sl (.loc d) sz 0 (n+news.length),bD H (.loc d) (.live ⟨sz,r.els.take n++news⟩)) else none)) else none
   |_=>none
  |_=>none
section
variable {P:Program} {w:World}
theorem eX {st xt ty e:TypeId} {i:TypeInfo} (hu:P.underlying st=some (.slice e)) (hi:P.info? e=some i) {d:TypeDesc} (hx:P.underlying xt=some d) (hd:d= .string\/∃e2,d= .slice e2)
  (ad:Option Addr) (n c m:Nat) (xv:Value) (vals:Array Value) (hlen:(Builtin.lenOf xv).run P w= .ok m w) (hf:(Builtin.firstCells i.size m xv).run P w= .ok vals w) (hle:n+m<=c) :
  (Builtin.append_ #[st,xt] ty #[.slice ad n c,xv]).run P w=match ad with
   |none=> .ok (.slice none (n+m) c) w
   |some q=>((storeCells (q.add (n*i.size)) vals.toList).run P w).andThen λ_ w'=> .ok (.slice (some q) (n+m) c) w':=by
 rcases hd with rfl|⟨e2,rfl⟩<;>cases ad<;>simp[Builtin.append_,run_underlying hu,run_underlying hx,sizeOf,typeInfo,hi,hlen,hf,hle]
def ew {st xt ty e:TypeId} {i:TypeInfo} {z:Value} (hu:P.underlying st=some (.slice e)) (hi:P.info? e=some i) (hz:i.zero=some z) {d:TypeDesc} (hx:P.underlying xt=some d) (hd:d= .string\/∃e2,d= .slice e2)
  (ad:Option Addr) (n c m:Nat) (xv:Value) (vals olds:Array Value) (hlen:(Builtin.lenOf xv).run P w= .ok m w) (hf:(Builtin.firstCells i.size m xv).run P w.drew= .ok vals w.drew)
  (ho:(Builtin.firstCells i.size n (.slice ad n c)).run P w.drew= .ok olds w.drew) (PS:c<n+m) (hb:(n+m)*i.bytes<=140737488355328) (oK:0<i.bytes) :
  (Builtin.append_ #[st,xt] ty #[.slice ad n c,xv]).run P w= .ok (.slice (some ⟨w.heap.size,0,none⟩) (n+m) (grownCap w (n+m) c e))
   (w.drew.alloc (.cells (olds++vals++Builtin.zeroCells z.cells (grownCap w (n+m) c e - (n+m))) e)):=by
 have hn:¬(n+m<=c):=sf
 have KQ:n+m<=(n+m)*i.bytes:=fJ _ oK;have CO:¬(9223372036854775807<((n:Int)+(m:Int))):=sf
 have CP:¬(281474976710656<Builtin.nextslicecap (n+m) c*i.bytes):=by have:=growslice_fits PS hb;omega
 rcases hd with rfl|⟨e2,rfl⟩<;>simp[Builtin.append_,run_underlying hu,run_underlying hx,sizeOf,typeInfo,zeroValue,hi,hz,hlen,hn,CO,CP,Question.forced,hf,ho,newRow,grownCap]
end
section
variable {K:Kx} {β:Lb->Option Nat} {env:Env} {H:Hp} {a:Act} {w:World}
theorem nI {I:Nat->Prop} {sz:Nat} (h0:0<sz):∀(xs:List IV) (b o:Nat),jV sz xs->bH w I xs b o sz ->
  ∃vals:List Value,vals.length=xs.length*sz/\(∀j v,vals[j]?=some v->w.cell? ⟨b,o+j,none⟩=some v) /\
   ∀i j x y,xs[i]?=some x->(x.cells.map IV.dQ)[j]?=some y->∃v,vals[i*sz+j]?=some v/\RV w β H I y v
 |[],b,o,_,_=>⟨[],tM,tM,tM⟩
 |x::r,b,o,hs,he=>by
  simp only[bH] at he;obtain⟨h1,h2⟩:=he;obtain⟨vr,k1,k2,k3⟩:=nI h0 r b (o+sz) (λy hy=>hs y (by simp[hy])) h2;have hx:=(eH w I x b o sz).1 h1;obtain⟨vx,e1,e2,e3⟩:=br.pS (β:=β) (H:=H) x.cells b o hx.2;have hl:vx.length=sz:=by rw[e2,hx.1]
  refine⟨vx++vr,by simp[hl,k1,Sv];omega,?_,?_⟩
  ·intro j v hj;by_cases CQ:j<sz
   ·rw[bB sf] at hj;exact e3 j v hj
   rw[b_ sf,hl] at hj;have:=k2 _ v hj
   rwa[show o+sz+(j - sz)=o+j by omega] at this
  intro i j x' y hi hj;cases i with
  |zero=>
   simp at hi;subst hi;obtain⟨v,q1,q2⟩:=br.get _ _ _ _ e1 hj;refine⟨v,?_,q2⟩;have:j<vx.length:=(yY.1 q1).1;simp only[V9,bM];rw[bB this];exact q1
  |succ i=>
  obtain⟨v,q1,q2⟩:=k3 i j x' y (by simpa using hi) hj;refine⟨v,?_,q2⟩;rw[Sv,XY,b_ sf,hl,show i*sz+sz+j - sz=i*sz+j by omega];exact q1
structure Src (K:Kx) (β:Lb->Option Nat) (H:Hp) (w:World) (sz:Nat) (xv:Value) (news:List (List AV)) (vals:List Value):Prop where
 len:vals.length=news.length*sz
 lenOf:(Builtin.lenOf xv).run K.P w= .ok news.length w
 wN:∀k,k<=news.length->∀w1,(w1=w\/w1=w.drew)->(Builtin.firstCells sz k xv).run K.P w1= .ok (vals.take (k*sz)).toArray w1
 rv:∀i j cs y,news[i]?=some cs->cs[j]?=some y->∃v,vals[i*sz+j]?=some v/\RV w β H (Im K β H) y v
 vd:∀cs∈news,cs.length=sz
 eI:∀cs∈news,∀l∈ah cs,H l≠ .unused
def Src.cells {K:Kx} {β:Lb->Option Nat} {H:Hp} {w:World} {sz:Nat} {xv:Value} {news:List (List AV)} {vals:List Value} (S:Src K β H w sz xv news vals) :
  ∀w1,(w1=w\/w1=w.drew)->(Builtin.firstCells sz news.length xv).run K.P w1= .ok vals.toArray w1:=λw1 pU=>by
 rw[S.wN _ (PW _) w1 pU,P5 (Y' S.len)]
def arX (hr:aH K β env H a w) {x:Operand} {x':O} {sz:Nat} {news:List (List AV)} (hx:co K.G x=some x') (h0:0<sz) (hs:al_ sz (ev env x') H=some news) :
  ∃vals,Src K β H w sz (a.eval x) news vals:=by
 have h:=hr.ev hx;unfold al_ at hs;split at hs
 ·rename_i e;rw[e] at h;simp only[di] at hs;subst hs;simp only[RV] at h;obtain⟨ad,h⟩:=h;rw[h];refine⟨[],tM,aa7,?_,tM,tM,tM⟩;intro k hk w1 _;have sr:k=0:=by simpa using hk
  subst sr;cases ad with
  |none=>simp[Builtin.firstCells]
  |some q=>simp[Builtin.firstCells,loadCells,loadCellsFrom]
 ·rename_i xs e;rw[e] at h;split at hs
  ·rename_i ll;simp only[di] at hs;subst hs;simp only[RV,NN] at h;obtain⟨ad,c,h1,h2,h3,h4⟩:=h;rw[h1];rcases h4 with h4|⟨b,o',vd,rfl,e1,e2,e3,e4⟩
   ·have:xs=[]:=wc h4;subst this;refine⟨[],tM,aa7,?_,tM,tM,tM⟩;intro k hk w1 _;have sr:k=0:=(by simpa using hk);subst sr;cases ad with
    |none=>simp[Builtin.firstCells]
    |some q=>simp[Builtin.firstCells,loadCells,loadCellsFrom]
   by_cases hn:xs=[]
   ·subst hn;refine⟨[],tM,aa7,?_,tM,tM,tM⟩;intro k hk w1 _;have sr:k=0:=(by simpa using hk);subst sr;simp[Builtin.firstCells,loadCells,loadCellsFrom]
   have gm:=oV e4 ll (V0.2 hn);subst gm;obtain⟨vals,k1,k2,k3⟩:=nI (β:=β) (H:=H) h0 xs b o' ll e4;refine⟨vals,by simpa using k1,aa7,?_,?_,?_,?_⟩
   ·intro k hk w1 pU;simp only[G_] at hk;have Hm:k*vd<=vals.length:=(by rw[k1];exact Ri _ (by simpa using hk));refine run_firstCells_some (P:=K.P) w1 _ k ⟨b,o',none⟩ xs.length c _ (by rw[tp];omega) (λj v hj=> ?_);rw[addr_add]
    replace hj:vals[j]?=some v:=by
     rw[Rd] at hj;split at hj
     ·exact hj
     simp at hj
    rcases pU with rfl|rfl
    ·exact k2 j v hj
    simpa using k2 j v hj
   ·intro i j cs y hi hj;simp only[cn,jF] at hi;obtain⟨x0,hi,rfl⟩:=hi;exact k3 i j x0 y hi hj
   ·intro cs bV;simp only[pb] at bV;obtain⟨x0,EP,rfl⟩:=bV;simpa using ll x0 EP
   intro cs bV l hl;simp only[pb] at bV;obtain⟨x0,EP,rfl⟩:=bV;simp[jq] at hl
  simp at hs
 ·rename_i s e;rw[e] at h;split at hs
  ·rename_i h1;subst h1;simp only[di] at hs;subst hs;simp only[RV] at h;rw[h];refine⟨s.map λc=> .int .u8 c.toNat,tM,by simp[Builtin.lenOf,jX],?_,?_,?_,?_⟩
   ·intro k hk w1 _;have e1:(⟨s.toArray⟩:ByteArray).extract 0 k=⟨(s.take k).toArray⟩:=by
     apply Zy;rw[Zj];simp
    simp[Builtin.firstCells,e1,JD]
   ·intro i j cs y hi hj;simp only[cn,jF] at hi;obtain⟨c,hi,rfl⟩:=hi;cases j with
    |succ j=>simp at hj
    |zero=>
    simp at hj;subst hj;exact⟨.int .u8 c.toNat,by simp[hi],aaG⟩
   ·intro cs bV;simp only[pb] at bV;obtain⟨c,_,rfl⟩:=bV;rfl
   intro cs bV l hl;simp only[pb] at bV;obtain⟨c,_,rfl⟩:=bV;simp[ah,AV.an] at hl
  simp at hs
 ·rename_i l s i n e;rw[e] at h;split at hs
  ·rename_i r hl;split at hs
   ·rename_i hc;obtain⟨rfl,gm,qB⟩:=hc;subst gm;simp only[di] at hs;subst hs;simp only[RV] at h;obtain⟨ad,c,h1,h2,h3,h4,h5⟩:=h;rw[h1];have ve:((r.els.drop i).take n).length=n:=aak;by_cases hn:n=0
    ·subst hn;refine⟨[],tM,aa7,?_,tM,tM,tM⟩;intro k hk w1 _;have sr:k=0:=(by simpa using hk);subst sr;cases ad with
     |none=>simp[Builtin.firstCells]
     |some q=>simp[Builtin.firstCells,loadCells,loadCellsFrom]
    rcases h5 ⟨r,hl⟩ with h6|⟨g,S,e1,rfl,e3,e4⟩
    ·omega
    obtain⟨cur,e0,cap,k1,k2,k3,k4,k5⟩:=(hr.rows l r hl).block e1;have hS:cur.size=S:=by
     unfold jl at e3;simp only[k1] at e3;simpa using e3
    have hb:i*r.sz+n*r.sz<=cur.size:=by
     rw[k2,<-Sv];exact Ri _ sf
    refine⟨(cur.toList.drop (i*r.sz)).take (n*r.sz),by rw[ve];simp;omega,by rw[ve];simp[Builtin.lenOf],?_,?_,?_,?_⟩
    ·intro k hk w1 pU;rw[ve] at hk;have JV:=Ri r.sz hk;refine run_firstCells_some (P:=K.P) w1 _ k ⟨g,i*r.sz,none⟩ n c _ aak (λj v hj=> ?_);rw[addr_add]
     replace hj:((cur.toList.drop (i*r.sz)).take (n*r.sz))[j]?=some v:=by
      rw[Rd] at hj;split at hj
      ·exact hj
      simp at hj
     have kG:w.cell? ⟨g,i*r.sz+j,none⟩=some v:=by
      rw[cell_of_row w g _ cur e0 (0,0) k1];rw[Rd] at hj;split at hj
      ·simpa using hj
      simp at hj
     rcases pU with rfl|rfl
     ·exact kG
     simpa using kG
    ·intro i' j cs y hi hj;rw[Rd] at hi;split at hi
     ·rename_i bI;rw[Ba] at hi;obtain⟨v,q1,q2⟩:=k5 _ j cs y hi hj;have CQ:j<r.sz:=by
       have:=(hr.rows l r hl).2.1 cs (PX hi);have:=(yY.1 hj).1;omega
      refine⟨v,?_,q2⟩;have iG:i'*r.sz+j<n*r.sz:=by
       have:=Ri r.sz (show i'+1<=n by omega);rw[Sv] at this;omega
      rw[Rd,P8 iG,Ba,Vv,<-q1];congr 1;rw[Sv];omega
     simp at hi
    ·intro cs bV;exact(hr.rows l r hl).2.1 cs (EH (ec bV))
    intro cs bV;exact hr.cH l r hl cs (EH (ec bV))
   simp at hs
  simp at hs
 ·rename_i l s i n c0 e;rw[e] at h;split at hs
  ·rename_i r hl;split at hs
   ·rename_i hc;obtain⟨rfl,gm,qB⟩:=hc;subst gm;simp only[di] at hs;subst hs;simp only[RV] at h;obtain⟨ad,h1,h2,h3,h4,h5⟩:=h;rw[h1];have ve:((r.els.drop i).take n).length=n:=aak;by_cases hn:n=0
    ·subst hn;refine⟨[],tM,aa7,?_,tM,tM,tM⟩;intro k hk w1 _;have sr:k=0:=(by simpa using hk);subst sr;cases ad with
     |none=>simp[Builtin.firstCells]
     |some q=>simp[Builtin.firstCells,loadCells,loadCellsFrom]
    rcases h5 ⟨r,hl⟩ with h6|⟨g,S,e1,rfl,e3,e4⟩
    ·omega
    obtain⟨cur,e0,cap,k1,k2,k3,k4,k5⟩:=(hr.rows l r hl).block e1;have hS:cur.size=S:=by
     unfold jl at e3;simp only[k1] at e3;simpa using e3
    have hb:i*r.sz+n*r.sz<=cur.size:=by
     rw[k2,<-Sv];exact Ri _ sf
    refine⟨(cur.toList.drop (i*r.sz)).take (n*r.sz),by rw[ve];simp;omega,by rw[ve];simp[Builtin.lenOf],?_,?_,?_,?_⟩
    ·intro k hk w1 pU;rw[ve] at hk;have JV:=Ri r.sz hk;refine run_firstCells_some (P:=K.P) w1 _ k ⟨g,i*r.sz,none⟩ n c0 _ aak (λj v hj=> ?_);rw[addr_add]
     replace hj:((cur.toList.drop (i*r.sz)).take (n*r.sz))[j]?=some v:=by
      rw[Rd] at hj;split at hj
      ·exact hj
      simp at hj
     have kG:w.cell? ⟨g,i*r.sz+j,none⟩=some v:=by
      rw[cell_of_row w g _ cur e0 (0,0) k1];rw[Rd] at hj;split at hj
      ·simpa using hj
      simp at hj
     rcases pU with rfl|rfl
     ·exact kG
     simpa using kG
    ·intro i' j cs y hi hj;rw[Rd] at hi;split at hi
     ·rename_i bI;rw[Ba] at hi;obtain⟨v,q1,q2⟩:=k5 _ j cs y hi hj;have CQ:j<r.sz:=by
       have:=(hr.rows l r hl).2.1 cs (PX hi);have:=(yY.1 hj).1;omega
      refine⟨v,?_,q2⟩;have iG:i'*r.sz+j<n*r.sz:=by
       have:=Ri r.sz (show i'+1<=n by omega);rw[Sv] at this;omega
      rw[Rd,P8 iG,Ba,Vv,<-q1];congr 1;rw[Sv];omega
     simp at hi
    ·intro cs bV;exact(hr.rows l r hl).2.1 cs (EH (ec bV))
    intro cs bV;exact hr.cH l r hl cs (EH (ec bV))
   simp at hs
  simp at hs
 simp at hs
end
end Go.Am

namespace Go.Am
open Go Go.RowKit
def zH {γ:Type} (f:Lb->γ) (l:Lb) (x y:γ):bD (bD f l x) l y=bD f l y:=by
 funext q;by_cases h:q=l
 ·subst h;simp
 simp[aq _ _ h]
def comb {R:AV->Value->Prop} {sz n:Nat} (A B:List (List AV)) (hA:A.length=n) (wO:∀cs∈A,cs.length=sz) (Ma:∀cs∈B,cs.length=sz) (olds vals rest:List Value) (ho:olds.length=n*sz) (hv:vals.length=B.length*sz)
  (h1:∀i j cs x,A[i]?=some cs->cs[j]?=some x->∃v,olds[i*sz+j]?=some v/\R x v)
  (h2:∀i j cs x,B[i]?=some cs->cs[j]?=some x->∃v,vals[i*sz+j]?=some v/\R x v) :
  ∀i j cs x,(A++B)[i]?=some cs->cs[j]?=some x->∃v,(olds++vals++rest)[i*sz+j]?=some v/\R x v:=by
 intro i j cs x hi hj;by_cases qB:i<n
 ·rw[bB sf] at hi;obtain⟨v,q1,q2⟩:=h1 i j cs x hi hj;refine⟨v,?_,q2⟩;have:i*sz+j<olds.length:=(yY.1 q1).1;rw[SS,bB this];exact q1
 rw[b_ sf,hA] at hi;obtain⟨v,q1,q2⟩:=h2 (i - n) j cs x hi hj;refine⟨v,?_,q2⟩;have h3:(i - n)*sz+j<vals.length:=(yY.1 q1).1;have h4:i*sz+j=olds.length+((i - n)*sz+j):=by
  rw[ho];have:i=n+(i - n):=sf
  rw[this,Sv];have e:n+(i - n) - n=i - n:=sf
  rw[e];omega
 rw[h4,SS,b_ sf,bB sf];rw[show olds.length+((i - n)*sz+j) - olds.length=(i - n)*sz+j by omega];exact q1
section
variable {K:Kx} {β:Lb->Option Nat} {env:Env} {H:Hp} {a:Act} {w:World}
def pV (hr:aH K β env H a w) {H':Hp} {lb:Lb} {b:Option Nat} {w':World} (gw:iU w w') (hu:H lb= .unused) (hb:∀g,b=some g->w.heap.size<=g)
  (hH:∀q,q≠lb->live H' q->live H q) (ls:List Lb) (lr:∀q∈ls,H q≠ .unused) :
  ND w w' β (bD β lb b) H H' (Im K β H) (Im K (bD β lb b) H') ls where
 im k hk hs:=⟨⟨hk.1,λq hq=>by
  by_cases e:q=lb
  ·subst e;simp only[gn];intro h;have:=hb k h;omega
  rw[aq _ _ e];exact hk.2 q (hH q e hq)⟩,Uo hs gw.size,gw.block k hs⟩
 lb q hq oX:=by
  have e:q≠lb:=λe=>lr q hq (e▸hu);refine⟨hH q e oX,aq _ _ e,λg S _ hS=> ?_⟩;unfold jl at *
  rwa[gw.block g (sS hS)]
def fR (hr:aH K β env H a w) {Hk:Hp} (hk:aH K β env Hk a w) (Hn:∀q,live Hk q->live H q) (Ho:∀q,H q≠ .unused->Hk q≠ .unused) {o:Oper} {d n m sz:Nat} {lb:Lb} (hd:d<K.N) {e:TypeId} {cap:Nat} {A news:List (List AV)} {olds vals rest:List Value}
  (h0:0<sz) (hu:H lb= .unused) (CR:Hk lb= .unused) (hA:A.length=n) (hm:news.length=m) (wO:∀cs∈A,cs.length=sz) (CS:∀cs∈news,cs.length=sz)
  (BX:∀cs∈A,∀l∈ah cs,H l≠ .unused) (FF:∀cs∈news,∀l∈ah cs,H l≠ .unused)
  (ho:olds.length=n*sz) (hv:vals.length=news.length*sz)
  (h1:∀i j cs x,A[i]?=some cs->cs[j]?=some x->∃v,olds[i*sz+j]?=some v/\RV w β H (Im K β H) x v)
  (h2:∀i j cs x,news[i]?=some cs->cs[j]?=some x->∃v,vals[i*sz+j]?=some v/\RV w β H (Im K β H) x v)
  (kI:(olds++vals++rest).length=cap*sz) (zD:cap<=maxLen) (hle:n+m<=cap)
  (gY:(execOp a.eval o).run K.P w= .ok (.value (.slice (some ⟨w.heap.size,0,none⟩) (n+m) cap)) (w.drew.alloc (.cells (olds++vals++rest).toArray e))) :
  iq K env a w o (some d) (.sl lb sz 0 (n+m)) (bD Hk lb (.live ⟨sz,A++news⟩)):=by
 have gw:iU w (w.drew.alloc (.cells (olds++vals++rest).toArray e)):=(mf w).trans (dZ w.drew _);have cX:=pV hr (H':=bD Hk lb (.live ⟨sz,A++news⟩)) (lb:=lb) (b:=some w.heap.size) gw hu tM (λq hq ⟨r,h⟩=>by rw[aq _ _ hq] at h;exact Hn q ⟨r,h⟩);have ll:∀cs∈A++news,cs.length=sz/\∀l∈ah cs,H l≠ .unused:=by
  intro cs bV;rcases QL.1 bV with h|h
  ·exact⟨wO cs h,BX cs h⟩
  exact⟨CS cs h,FF cs h⟩
 have pT:ZE (w.drew.alloc (.cells (olds++vals++rest).toArray e)) (bD β lb (some w.heap.size)) (bD Hk lb (.live ⟨sz,A++news⟩))
   (Im K (bD β lb (some w.heap.size)) (bD Hk lb (.live ⟨sz,A++news⟩))) lb ⟨sz,A++news⟩:=by
  refine⟨h0,λcs bV=>(ll cs bV).1,?_⟩;simp only[gn];refine⟨(olds++vals++rest).toArray,e,cap,heap_alloc_new w.drew _,by simp only[W2];exact kI,zD,aak,λi j cs x hi hj=> ?_⟩;obtain⟨v,q1,q2⟩:=comb A news hA wO CS olds vals rest ho hv h1 h2 i j cs x hi hj;exact⟨v,by simpa using q1,RV.mono _ _ (cX _ (λq hq=>(ll cs (PX hi)).2 q (cW _ _ _ hj q hq))) q2⟩
 have h3:=hk.OI lb CR gw (some w.heap.size) tM (λcs bV q hq=>Ho q ((ll cs bV).2 q hq)) pT;have h4:=h3.step (Below.refl _ _) (d:=some d) (x:= .sl lb sz 0 (n+m)) (v:= .slice (some ⟨w.heap.size,0,none⟩) (n+m) cap) (by simpa using hd)
  (λ_=>by
   simp only[RV];refine⟨_,_,rfl,hle,zD,tM,λ_=> .inr ⟨w.heap.size,cap*sz,tM,tM,?_,tM⟩⟩;have hh:(w.drew.alloc (.cells (olds++vals++rest).toArray e)).heap[w.heap.size]?=some (.cells (olds++vals++rest).toArray e):=heap_alloc_new w.drew _;unfold jl;rw[hh];simp only[W2,kI]) aad
 exact⟨_,_,_,_,gY,.inl rfl,h4⟩
def qU (hr:aH K β env H a w) {Hk:Hp} (hk:aH K β env Hk a w) {o:Oper} {d sz:Nat} {lb:Lb} (hd:d<K.N) (h0:0<sz) (CR:Hk lb= .unused) {ad:Option Addr}
  (gY:(execOp a.eval o).run K.P w= .ok (.value (.slice ad 0 0)) w) :
  iq K env a w o (some d) (.sl lb sz 0 0) (bD Hk lb (.live ⟨sz,[]⟩)):=by
 have h3:=hk.OI lb CR (r:=⟨sz,[]⟩) (Below.refl _ _) none tM tM ⟨h0,tM,tM⟩;have h4:=h3.step (Below.refl _ _) (d:=some d) (x:= .sl lb sz 0 0) (v:= .slice ad 0 0) (by simpa using hd)
  (λ_=>by simp only[RV];exact⟨_,0,rfl,sf,by simp[maxLen],tM,λ_=> .inl rfl⟩) aad
 exact⟨_,_,_,_,gY,.inl rfl,h4⟩
def qV {α:Type} (A N:List α) (i:Nat) (h:i+N.length<=A.length) (k:Nat):(A.take i++N++A.drop (i+N.length))[k]?=if k<i then A[k]? else if k<i+N.length then N[k - i]? else A[k]?:=by
 have ht:(A.take i).length=i:=by rw[tp];omega
 rw[SS];by_cases h1:k<i
 ·rw[P8 h1,bB sf,Rd,P8 h1]
 rw[Ev h1,b_ sf,ht];by_cases h2:k<i+N.length
 ·rw[P8 h2,bB sf]
 rw[Ev h2,b_ sf,Ba];congr 1;omega
def oY (hr:aH K β env H a w) {l:Lb} {r:Row} {g:Nat} (hl:H l= .live r) (hb:β l=some g) {i:Nat} {news:List (List AV)} {vals:List Value} (qB:i+news.length<=r.els.length)
  (CS:∀cs∈news,cs.length=r.sz) (FF:∀cs∈news,∀q∈ah cs,H q≠ .unused) (hv:vals.length=news.length*r.sz)
  (h2:∀i j cs x,news[i]?=some cs->cs[j]?=some x->∃v,vals[i*r.sz+j]?=some v/\RV w β H (Im K β H) x v) (fw:∀v∈vals,v.oneCell'=true) :
  ∃cur',(storeCells ⟨g,i*r.sz,none⟩ vals).run K.P w= .ok () (w.setRow g cur') /\
   aH K β env (bD H l (.live ⟨r.sz,r.els.take i++news++r.els.drop (i+news.length)⟩)) a (w.setRow g cur')/\jl (w.setRow g cur') g=jl w g:=by
 obtain⟨cur,e0,cap,k1,k2,k3,k4,k5⟩:=(hr.rows l r hl).block hb;have gm:0<r.sz:=(hr.rows l r hl).1;have ub:i*r.sz+vals.length<=cur.size:=by
  rw[hv,k2,<-Sv];exact Ri _ sf
 have wP:=run_storeCells_at K.P g (i*r.sz) e0 vals 0 cur w k1 (by simpa using ub) fw;simp only[kf] at wP;have kH:(cur.toList.take (i*r.sz)++vals++cur.toList.drop (i*r.sz+vals.length)).toArray.size=cur.size:=by
  simp only[W2,ko,tp,BH,JF];omega
 have hlen:(r.els.take i++news++r.els.drop (i+news.length)).length=r.els.length:=aak
 have vf:=hr.setRow l (r':=⟨r.sz,r.els.take i++news++r.els.drop (i+news.length)⟩) (cap:=cap) hl hb k1 kH rfl k2 k3 aac
  (by
   intro cs bV;rcases QL.1 bV with h|h
   ·rcases QL.1 h with h|h
    ·exact(hr.rows l r hl).2.1 cs (ec h)
    exact CS cs h
   exact(hr.rows l r hl).2.1 cs (EH h))
  (by
   intro cs bV;rcases QL.1 bV with h|h
   ·rcases QL.1 h with h|h
    ·exact hr.cH l r hl cs (ec h)
    exact FF cs h
   exact hr.cH l r hl cs (EH h))
  (by
   intro i' j cs x0 ed iX;simp only at ed;rw[qV _ _ _ qB] at ed;have jY:=qV cur.toList vals (i*r.sz) (by simpa using ub);simp only[Zl,jY];have CQ:j<r.sz:=by
    have h9:=(yY.1 iX).1;have h8:cs.length=r.sz:=by
     split at ed
     ·exact(hr.rows l r hl).2.1 cs (PX ed)
     split at ed
     ·exact CS cs (PX ed)
     exact(hr.rows l r hl).2.1 cs (PX ed)
    omega
   by_cases h1:i'<i
   ·rw[P8 h1] at ed;have:=Ri r.sz (show i'+1<=i by omega);rw[Sv] at this;rw[P8 sf];obtain⟨v,q1,q2⟩:=k5 i' j cs x0 ed iX;exact⟨v,by simpa using q1,q2⟩
   rw[Ev h1] at ed;have h3:=Ri r.sz (show i<=i' by omega);rw[Ev sf];by_cases h4:i'<i+news.length
   ·rw[P8 h4] at ed;have:=Ri r.sz (show i'+1<=i+news.length by omega);rw[Sv,Sv,XY] at this;rw[P8 (by rw[hv];omega)];obtain⟨v,q1,q2⟩:=h2 (i' - i) j cs x0 ed iX;refine⟨v,?_,q2⟩;rw[<-q1];congr 1;rw[Nat.sub_mul];omega
   rw[Ev h4] at ed;have:=Ri r.sz (show i+news.length<=i' by omega);rw[Sv] at this;rw[Ev (by rw[hv];omega)];obtain⟨v,q1,q2⟩:=k5 i' j cs x0 ed iX;exact⟨v,by simpa using q1,q2⟩)
 refine⟨_,wP,vf,?_⟩;have:jl w g=some cur.size:=by unfold jl;simp[k1]
 rw[this];exact jt k1 kH g cur.size this
def nJ {v:Value} {w1:World} {e:TypeId} (x y:Array Value) (h:x=y) :
  (Result.ok v (w1.alloc (.cells x e))).andThen (λv w'=> .ok (Next.value v) w')= .ok (.value v) (w1.alloc (.cells y e)):=by
 subst h;rfl
def ZN {m C sz:Nat} (h:m<=C):m*sz+(C - m)*sz=C*sz:=by
 rw[<-Sv];congr 1;omega
def dG (z:Array Value) (n:Nat):(Builtin.zeroCells z n).toList.length=n*z.size:=by simp[size_zeroCells]
def FG (hr : aH K β env H a w) {o : Oper} {c : Call} {s x : Operand} {s' x' : O} {st xt e : TypeId} {i : TypeInfo} {z : Value} {dx : TypeDesc} {d : Nat} (hd : d < K.N) (ho : o.op = .call c) (hc : c.callee = .builtin .append)
   (ha : c.args.toList = [s,x]) (BY : c.argTypes.toList = [st,xt]) (g_ : K.P.underlying st = some (.slice e)) (hi : K.P.info? e = some i) (hz : i.zero = some z) (mN : z.cells.size = i.size) (h0 : 0 < i.size)
   (qD : K.P.underlying xt = some dx) (hdx : dx = .string \/ ∃ e2,dx = .slice e2) (hs : co K.G s = some s') (hx : co K.G x = some x') {y : AV} {H' : Hp}
   (hy : jN i.size i.bytes d (ev env s') (ev env x') H = some (y,H')) : iq K env a w o (some d) y H' := by
 have pQ : c.args = #[s,x] := by cases hh : c.args; simp_all
 have sU : c.argTypes = #[st,xt] := by cases hh : c.argTypes; simp_all
 have fQ : (execOp a.eval o).run K.P w = ((Builtin.append_ #[st,xt] o.type #[a.eval s,a.eval x]).run K.P w).andThen λv w' => .ok (.value v) w' := by
   simp [execOp,ho,resolve,hc,pQ,sU,invoke,builtin]
 unfold jN at hy
 obtain ⟨news,hn,hy⟩ := yV.1 hy
 obtain ⟨vals,S⟩ := arX hr hx h0 hn
 have mh := hr.ev hs
 split at hy
 · simp at hy
 · rename_i fw
   have fw : ∀ cs ∈ news,AV.oJ cs := Bf fw
   have uc : ∀ v ∈ vals,v.oneCell' = true := by
     intro v hv
     obtain ⟨q,hq⟩ := Sw hv
     have EO : q < news.length * i.size := by rw [<- S.len]; exact (yY.1 hq).1
     have ER : q / i.size < news.length := Ya (by rw [Wm]; exact EO)
     have KR : q % i.size < i.size := vL _ h0
     have BZ : news[q / i.size]? = some news[q / i.size] := rX ER
     have qT := S.vd _ (vI ER)
     have EP : (news[q / i.size])[q % i.size]? = some ((news[q / i.size])[q % i.size]' sf) := rX sf
     obtain ⟨v',e1,e2⟩ := S.rv _ _ _ _ BZ EP
     have : q / i.size * i.size + q % i.size = q := by rw [Wm]; exact Z6 q i.size
     rw [this,hq] at e1
     cases e1
     exact RV.lv e2 (fw _ (vI ER) _ (vI _))
   have qW : ∀ ad : Option Addr,∀ cc,(Builtin.firstCells i.size 0 (.slice ad 0 cc)).run K.P w.drew = .ok #[] w.drew := by
     intro ad cc
     cases ad with
     | none => simp [Builtin.firstCells]
     | some q => simp [Builtin.firstCells,loadCells,loadCellsFrom]
   split at hy
   · -- nothing yet
     rename_i e1
     rw [e1] at mh
     simp only [RV] at mh
     obtain ⟨ad,mh⟩ := mh
     split at hy
     · rename_i hb
       obtain ⟨qE,nL,hu⟩ := hb
       have hb : news.length * i.bytes <= 140737488355328 /\ 0 < i.bytes := ⟨qE,nL⟩
       simp only [di,eS] at hy
       obtain ⟨rfl,rfl⟩ := hy
       by_cases tY : news.length = 0
       · have Vi : news = [] := wc tY
         subst Vi
         have zI : vals = [] := wc (by simpa using S.len)
         subst zI
         have iS := eX (ty := o.type) g_ hi qD hdx ad 0 0 0 (a.eval x) #[] S.lenOf (S.cells w (.inl rfl)) sf
         refine qU hr hr hd h0 hu (ad := ad) ?_
         rw [fQ,mh,iS]
         cases ad <;> simp [storeCells]
       · have iS := ew (ty := o.type) g_ hi hz qD hdx ad 0 0 news.length (a.eval x) vals.toArray #[] S.lenOf (S.cells w.drew (.inr rfl)) (qW ad 0) sf (by simpa using hb.1) hb.2
         have qS := grownCap_ge w (0 + news.length) 0 e
         have qC := grownCap_le_maxLen w (0 + news.length) 0 e (by
           have := fJ news.length hb.2
           simp only [maxLen]; omega)
         have := fR hr hr (λ_ h => h) (λ_ h => h) (o := o) hd (e := e) (n := 0) (m := news.length) (A := []) (news := news) (olds := []) (vals := vals)
           (rest := (Builtin.zeroCells z.cells (grownCap w (0 + news.length) 0 e - (0 + news.length))).toList) h0 hu hu rfl rfl tM S.vd tM S.eI tM S.len tM S.rv
           (cap := grownCap w (0 + news.length) 0 e) (by
             have h9 := ZN (sz := i.size) qS
             simp only [ko,Rm,S.len,dG,mN]
             simp only [bM] at h9 ⊢
             exact h9) qC qS (by
             rw [fQ,mh,iS]
             exact nJ _ _ tM)
         simpa using this
     · simp at hy
   · -- a row
     rename_i l s0 i0 n e1
     rw [e1] at mh
     simp only [RV] at mh
     obtain ⟨ad,cc,h1,h2,h3,h4,h5⟩ := mh
     split at hy
     · rename_i r hl
       split at hy
       · rename_i cP
         obtain ⟨rfl,kV,rfl,ve,hb,oK,CT,hu⟩ := cP
         simp only [di,eS] at hy
         obtain ⟨rfl,rfl⟩ := hy
         have ES : (r.els.take n).length = n := by simp; omega
         have wO : ∀ cs ∈ r.els.take n,cs.length = i.size := λcs bV => by rw [<- kV]; exact (hr.rows l r hl).2.1 cs (ec bV)
         have BX : ∀ cs ∈ r.els.take n,∀ q ∈ ah cs,H q ≠ .unused := λcs bV => hr.cH l r hl cs (ec bV)
         have wQ := hr.kill l (by rw [hl]; simp)
         have CR : bD H l .dead (l.app d) = .unused := by rw [aq _ _ (Ss CT)]; exact hu
         have Hn : ∀ q,live (bD H l .dead) q -> live H q := by
           rintro q ⟨r',h⟩
           by_cases e : q = l
           · subst e; simp at h
           · rw [aq _ _ e] at h; exact ⟨r',h⟩
         have Ho : ∀ q,H q ≠ .unused -> bD H l .dead q ≠ .unused := by
           intro q h
           by_cases e : q = l
           · subst e; simp
           · rw [aq _ _ e]; exact h
         by_cases zJ : cc = 0
         · subst zJ
           have wq : n = 0 := by omega
           subst wq
           by_cases tY : news.length = 0
           · have Vi : news = [] := wc tY
             subst Vi
             have zI : vals = [] := wc (by simpa using S.len)
             subst zI
             have iS := eX (ty := o.type) g_ hi qD hdx ad 0 0 0 (a.eval x) #[] S.lenOf (S.cells w (.inl rfl)) sf
             have := qU hr wQ (o := o) hd h0 CR (ad := ad) (by
               rw [fQ,h1,iS]
               cases ad <;> simp [storeCells])
             simpa using this
           · have iS := ew (ty := o.type) g_ hi hz qD hdx ad 0 0 news.length (a.eval x) vals.toArray #[] S.lenOf (S.cells w.drew (.inr rfl)) (qW ad 0) sf (by simpa using hb) oK
             have qS := grownCap_ge w (0 + news.length) 0 e
             have qC := grownCap_le_maxLen w (0 + news.length) 0 e (by
               have := fJ (0 + news.length) oK
               simp only [maxLen]; omega)
             have := fR hr wQ Hn Ho (o := o) hd (e := e) (n := 0) (m := news.length) (A := []) (news := news) (olds := []) (vals := vals)
               (rest := (Builtin.zeroCells z.cells (grownCap w (0 + news.length) 0 e - (0 + news.length))).toList) h0 hu CR rfl rfl tM S.vd tM S.eI tM S.len tM S.rv
               (cap := grownCap w (0 + news.length) 0 e) (by
                 have h9 := ZN (sz := i.size) qS
                 simp only [ko,Rm,S.len,dG,mN]
                 simp only [bM] at h9 ⊢
                 exact h9) qC qS (by
                 rw [fQ,h1,iS]
                 exact nJ _ _ tM)
             simpa using this
         · rcases h5 ⟨r,hl⟩ with h6 | ⟨g,Sz,g1,rfl,g3,g4⟩
           · exact absurd h6 zJ
           · obtain ⟨cur,e0,cap,k1,k2,k3,k4,k5⟩ := (hr.rows l r hl).block g1
             have hS : cur.size = Sz := by
               unfold jl at g3
               simp only [k1] at g3
               simpa using g3
             have wR : cc * i.size = cur.size := by rw [hS,<- g4]; simp
             have FH : n * i.size <= cur.size := by rw [<- wR]; exact Ri _ h2
             have JW : cap = cc := by
               rw [kV] at k2
               rw [k2] at wR
               exact (YK h0 wR).symm
             have JX : ∀ i' j cs x0,(r.els.take n)[i']? = some cs -> cs[j]? = some x0 -> ∃ v,(cur.toList.take (n * i.size))[i' * i.size + j]? = some v /\ RV w β H (Im K β H) x0 v := by
               intro i' j cs x0 ed iX
               rw [Rd] at ed
               split at ed
               · rename_i bI
                 obtain ⟨v,q1,q2⟩ := k5 i' j cs x0 ed iX
                 rw [kV] at q1
                 refine ⟨v,?_,q2⟩
                 have CQ : j < i.size := by
                   have := (hr.rows l r hl).2.1 cs (PX ed)
                   have := (yY.1 iX).1
                   omega
                 have iG : i' * i.size + j < n * i.size := by
                   have := Ri i.size (show i' + 1 <= n by omega)
                   rw [Sv] at this; omega
                 rw [Rd,P8 iG]
                 simpa using q1
               · simp at ed
             have kJ : (cur.toList.take (n * i.size)).length = n * i.size := by simp; omega
             by_cases sV : n + news.length <= cc
             · -- within the room
               have iS := eX (ty := o.type) g_ hi qD hdx (some ⟨g,0 * i.size,none⟩) n cc news.length (a.eval x) vals.toArray S.lenOf (S.cells w (.inl rfl)) sV
               have ub : n * i.size + vals.length <= cur.size := by
                 rw [S.len,<- wR,<- Sv]
                 exact Ri _ sV
               have wP := run_storeCells_at K.P g (n * i.size) e0 vals 0 cur w k1 (by simpa using ub) uc
               simp only [kf] at wP
               have kH : (cur.toList.take (n * i.size) ++ vals ++ cur.toList.drop (n * i.size + vals.length)).toArray.size = cur.size := by
                 simp only [W2,ko,tp,BH,JF]
                 omega
               have vf := hr.setRow l (r' := ⟨i.size,r.els.take n ++ news⟩) (cap := cap) hl g1 k1 kH kV.symm k2 k3 (by simp; omega)
                 (by
                   intro cs bV
                   rw [kV]
                   rcases QL.1 bV with h | h
                   · exact wO cs h
                   · exact S.vd cs h)
                 (by
                   intro cs bV
                   rcases QL.1 bV with h | h
                   · exact BX cs h
                   · exact S.eI cs h)
                 (by
                   intro i' j cs x0 ed iX
                   rw [kV]
                   obtain ⟨v,q1,q2⟩ := comb (r.els.take n) news ES wO S.vd (cur.toList.take (n * i.size)) vals (cur.toList.drop (n * i.size + vals.length)) kJ S.len JX S.rv i' j cs x0 ed iX
                   exact ⟨v,by simpa using q1,q2⟩)
               have ju := vf.relabel l (l.app d) (r := ⟨i.size,r.els.take n ++ news⟩) tM (by rw [aq _ _ (Ss CT)]; exact hu) (Lb.fR l d)
               rw [zH] at ju
               have FI := ju.step (Below.refl _ _) (d := some d) (x := .sl (l.app d) i.size 0 (n + news.length)) (v := .slice (some ⟨g,0 * i.size,none⟩) (n + news.length) cc) (by simpa using hd)
                 (λ_ => by
                   simp only [RV]
                   refine ⟨_,_,rfl,sV,h3,tM,λ_ => .inr ⟨g,cur.size,by simp [g1],tM,?_,by simpa using wR⟩⟩
                   exact jt k1 kH g cur.size (by unfold jl; simp [k1])) (by simp [AV.an])
               refine ⟨_,_,_,_,?_,.inl rfl,FI⟩
               rw [fQ,h1,iS]
               simp only [addr_add,V9,bM,wP,Result.andThen_ok]
             · -- a new block
               have iS := ew (ty := o.type) g_ hi hz qD hdx (some ⟨g,0 * i.size,none⟩) n cc news.length (a.eval x) vals.toArray (cur.toList.take (n * i.size)).toArray S.lenOf (S.cells w.drew (.inr rfl))
                 (run_firstCells_some (P := K.P) w.drew i.size n ⟨g,0 * i.size,none⟩ n cc _ kJ (λj v hj => by
                   rw [addr_add,V9,bM]
                   have : w.cell? ⟨g,j,none⟩ = some v := by
                     rw [cell_of_row w g _ cur e0 (0,0) k1]
                     rw [Rd] at hj
                     split at hj
                     · simpa using hj
                     · simp at hj
                   simpa using this)) sf hb oK
               have qS := grownCap_ge w (n + news.length) cc e
               have qC := grownCap_le_maxLen w (n + news.length) cc e (by
                 have := fJ (n + news.length) oK
                 simp only [maxLen]; omega)
               have := fR hr wQ Hn Ho (o := o) hd (e := e) (n := n) (m := news.length) (A := r.els.take n) (news := news) (olds := cur.toList.take (n * i.size)) (vals := vals)
                 (rest := (Builtin.zeroCells z.cells (grownCap w (n + news.length) cc e - (n + news.length))).toList) h0 hu CR ES rfl wO S.vd BX S.eI kJ S.len JX S.rv
                 (cap := grownCap w (n + news.length) cc e) (by
                   have h9 := ZN (sz := i.size) qS
                   simp only [ko,kJ,S.len,dG,mN]
                   rw [Sv] at h9
                   exact h9) qC qS (by
                   rw [fQ,h1,iS]
                   exact nJ _ _ tM)
               exact this
       · simp at hy
     · simp at hy
   · -- a row whose room is known
     rename_i l s0 i0 n c0 e1
     rw [e1] at mh
     simp only [RV] at mh
     obtain ⟨ad,h1,h2,h3,h4,h5⟩ := mh
     split at hy
     · rename_i r hl
       split at hy
       · rename_i cP
         obtain ⟨rfl,kV,rfl,ve,oK,CT⟩ := cP
         have ES : (r.els.take n).length = n := by simp; omega
         have wO : ∀ cs ∈ r.els.take n,cs.length = i.size := λcs bV => by rw [<- kV]; exact (hr.rows l r hl).2.1 cs (ec bV)
         have BX : ∀ cs ∈ r.els.take n,∀ q ∈ ah cs,H q ≠ .unused := λcs bV => hr.cH l r hl cs (ec bV)
         split at hy
         · rename_i sV
           split at hy
           · rename_i FJ
             simp only [di,eS] at hy
             obtain ⟨rfl,rfl⟩ := hy
             have iS := eX (ty := o.type) g_ hi qD hdx ad n c0 news.length (a.eval x) vals.toArray S.lenOf (S.cells w (.inl rfl)) sV
             by_cases zJ : c0 = 0
             · subst zJ
               have wq : n = 0 := by omega
               subst wq
               have Vi : news = [] := wc sf
               subst Vi
               have zI : vals = [] := wc (by simpa using S.len)
               subst zI
               have hH : bD H l (.live ⟨i.size,r.els.take 0 ++ [] ++ r.els.drop (0 + ([] : List (List AV)).length)⟩) = H := by
                 funext q
                 by_cases e : q = l
                 · subst e; simp only [gn,List.take_zero,List.nil_append,Rm,kf,tn,<- kV,hl]
                 · rw [aq _ _ e]
               rw [hH]
               have FI := hr.step (Below.refl _ _) (d := some d) (x := .slk l i.size 0 (0 + ([] : List (List AV)).length) 0) (v := .slice ad 0 0) (by simpa using hd)
                 (λ_ => by
                   simp only [RV]
                   exact ⟨ad,tM,tM,by simp [maxLen],tM,λ_ => .inl rfl⟩) (λ_ q hq => by simp [AV.an] at hq; subst hq; rw [hl]; simp)
               refine ⟨_,_,_,_,?_,.inl rfl,FI⟩
               rw [fQ,h1,iS]
               cases ad <;> simp [storeCells]
             · rcases h5 ⟨r,hl⟩ with h6 | ⟨g,Sz,g1,rfl,g3,g4⟩
               · exact absurd h6 zJ
               · obtain ⟨cur',w1,w2,w3⟩ := oY hr hl g1 (i := n) (news := news) (vals := vals) FJ (by rw [kV]; exact S.vd) S.eI (by rw [kV]; exact S.len) (by rw [kV]; exact S.rv) uc
                 rw [kV] at w1 w2
                 have FI := w2.step (Below.refl _ _) (d := some d) (x := .slk l i.size 0 (n + news.length) c0) (v := .slice (some ⟨g,0 * i.size,none⟩) (n + news.length) c0) (by simpa using hd)
                   (λ_ => by
                     simp only [RV]
                     exact ⟨_,rfl,sV,h3,tM,λ_ => .inr ⟨g,Sz,g1,rfl,by rw [w3]; exact g3,g4⟩⟩) (λ_ q hq => by simp [AV.an] at hq; subst hq; simp)
                 refine ⟨_,_,_,_,?_,.inl rfl,FI⟩
                 rw [fQ,h1,iS]
                 simp only [addr_add,V9,bM,w1,Result.andThen_ok]
           · simp at hy
         · rename_i sV
           split at hy
           · rename_i nM
             obtain ⟨hb,hu⟩ := nM
             simp only [di,eS] at hy
             obtain ⟨rfl,rfl⟩ := hy
             have qS := grownCap_ge w (n + news.length) c0 e
             have qC := grownCap_le_maxLen w (n + news.length) c0 e (by
               have := fJ (n + news.length) oK
               simp only [maxLen]; omega)
             have olds : ∃ olds : List Value,olds.length = n * i.size /\ (∀ i' j cs x0,(r.els.take n)[i']? = some cs -> cs[j]? = some x0 -> ∃ v,olds[i' * i.size + j]? = some v /\ RV w β H (Im K β H) x0 v) /\
                 (Builtin.firstCells i.size n (.slice ad n c0)).run K.P w.drew = .ok olds.toArray w.drew := by
               by_cases zJ : c0 = 0
               · have wq : n = 0 := by omega
                 subst wq
                 exact ⟨[],tM,tM,by simpa using qW ad c0⟩
               · rcases h5 ⟨r,hl⟩ with h6 | ⟨g,Sz,g1,rfl,g3,g4⟩
                 · exact absurd h6 zJ
                 · obtain ⟨cur,e0,cap,k1,k2,k3,k4,k5⟩ := (hr.rows l r hl).block g1
                   rw [kV] at k2
                   have FH : n * i.size <= cur.size := by rw [k2]; exact Ri _ sf
                   have kJ : (cur.toList.take (n * i.size)).length = n * i.size := by simp; omega
                   refine ⟨cur.toList.take (n * i.size),kJ,?_,?_⟩
                   · intro i' j cs x0 ed iX
                     rw [Rd] at ed
                     split at ed
                     · rename_i bI
                       obtain ⟨v,q1,q2⟩ := k5 i' j cs x0 ed iX
                       rw [kV] at q1
                       refine ⟨v,?_,q2⟩
                       have CQ : j < i.size := by
                         have := (hr.rows l r hl).2.1 cs (PX ed)
                         have := (yY.1 iX).1
                         omega
                       have iG : i' * i.size + j < n * i.size := by
                         have := Ri i.size (show i' + 1 <= n by omega)
                         rw [Sv] at this; omega
                       rw [Rd,P8 iG]
                       simpa using q1
                     · simp at ed
                   · exact run_firstCells_some (P := K.P) w.drew i.size n ⟨g,0 * i.size,none⟩ n c0 _ kJ (λj v hj => by
                       rw [addr_add,V9,bM]
                       have : w.cell? ⟨g,j,none⟩ = some v := by
                         rw [cell_of_row w g _ cur e0 (0,0) k1]
                         rw [Rd] at hj
                         split at hj
                         · simpa using hj
                         · simp at hj
                       simpa using this)
             obtain ⟨olds,CU,ET,Ih⟩ := olds
             have iS := ew (ty := o.type) g_ hi hz qD hdx ad n c0 news.length (a.eval x) vals.toArray olds.toArray S.lenOf (S.cells w.drew (.inr rfl)) Ih sf hb oK
             have := fR hr hr (λ_ h => h) (λ_ h => h) (o := o) hd (e := e) (n := n) (m := news.length) (A := r.els.take n) (news := news) (olds := olds) (vals := vals)
               (rest := (Builtin.zeroCells z.cells (grownCap w (n + news.length) c0 e - (n + news.length))).toList) h0 hu hu ES rfl wO S.vd BX S.eI CU S.len ET S.rv
               (cap := grownCap w (n + news.length) c0 e) (by
                 have h9 := ZN (sz := i.size) qS
                 simp only [ko,CU,S.len,dG,mN]
                 rw [<- Sv]
                 exact h9) qC qS (by
                 rw [fQ,h1,iS]
                 exact nJ _ _ tM)
             exact this
           · simp at hy
       · simp at hy
     · simp at hy
   · simp at hy
end
end Go.Am
