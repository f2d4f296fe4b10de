import Derived.Test.YtfinkeaikbmpgaaGreatDoorKAm4
import Derived.Laws.AppendOwn
import Derived.Laws.IdiomStrings
import Derived.Laws.BytesString
set_option linter.unusedSimpArgs false
set_option linter.unusedVariables false
set_option linter.unnecessarySimpa false
set_option linter.defProp false
/- THE ABSTRACT MACHINE, part 7: structs made, boxed, loaded from memory that nobody writes. -/
namespace Go.Am
open Go Go.RowKit
theorem lx (off:Nat):∀(l:List Value) (k:Nat) (arr:Array Value),off+k+l.length≤arr.size →
  ((l.zipIdx k).foldl (fun cs (p:Value×Nat)=>cs.setIfInBounds (off+p.2) p.1) arr).toList=arr.toList.take (off+k)++l++arr.toList.drop (off+k+l.length)
 |[],k,arr,h=>by simp
 |v::r,k,arr,h=>by
  simp only[gL] at h;simp only[List.zipIdx_cons,Bw];rw[lx off r (k+1) (arr.setIfInBounds (off+k) v) PJ];simp only[Array.toList_setIfInBounds,gL];rw[show off+(k+1)+r.length=off+k+(r.length+1) by omega,show off+(k+1)=off+k+1 by omega];have bI:off+k<arr.toList.length:=PJ
  have h1:(arr.toList.set (off+k) v).take (off+k+1)=arr.toList.take (off+k)++[v]:=by
   have hl:(arr.toList.take (off+k)).length=off+k:=(by rw[tp];omega);rw[List.take_set,List.take_succ_eq_append_getElem bI,Nc _ _ tM,hl,Gl];rfl
  have h2:(arr.toList.set (off+k) v).drop (off+k+(r.length+1))=arr.toList.drop (off+k+(r.length+1)):=by
   rw[OV tM]
  rw[h1,h2];simp
section
variable {w:World} {β:Lb→Option Nat} {H:Hp} {I:Nat→Prop}
def br.kg {x:AV} {v:Value} (h:RV w β H I x v) (hx:(∃cs,x= .agg cs)∨x.one=true):v.cells.size=x.cells.length∧br w β H I x.cells v.cells.toList:=by
 have h2:br w β H I x.cells v.cells.toList:=RV.cells h (fun _ _=>trivial) (by
  rcases hx with hx|hx
  ·exact .inl hx
  exact .inr (RV.lv h hx))
 exact⟨by rw[←br.len _ _ h2];simp,h2⟩
def AV.sL {x:AV} (h:x.sI=true):(∃cs,x= .agg cs)∨x.one=true:=by
 cases x<;>first|exact .inl ⟨_,rfl⟩|exact .inr (by simpa[AV.sI] using h)
inductive iF {α γ:Type} (R:α→γ→Prop):List α→List γ→Prop
 |nil:iF R [] []
 |cons {a:α} {b:γ} {l:List α} {m:List γ}:R a b→iF R l m→iF R (a::l) (b::m)
theorem ly (place:Nat→Option (Nat×Nat)):∀(ps:List (Nat×Value)) (qs:List (Nat×Nat×AV)) (cs dF:List AV) (cur:Array Value),
  br w β H I cs cur.toList→fg cs qs=some dF →
  iF (fun(p:Nat×Value) (q:Nat×Nat×AV)=>place p.1=some (q.1,q.2.1)∧RV w β H I q.2.2 p.2) ps qs →
  ∃cur',Instr.fill place cur ps=some cur'∧br w β H I dF cur'.toList
 |[],qs,cs,dF,cur,h,hf,ha=>by
  cases ha;simp only[fg,di] at hf;subst hf;exact⟨cur,rfl,h⟩
 |p::ps,qs,cs,dF,cur,h,hf,ha=>by
  cases ha with
  |@cons _ q _ qs hq EM=>
  obtain⟨off,sz,x⟩:=q;obtain⟨i,v⟩:=p;obtain⟨h1,h2⟩:=hq;simp only at h1 h2;simp only[fg] at hf;split at hf
  ·rename_i gm;obtain⟨h3,gm⟩:=gm;obtain⟨k1,k2⟩:=br.kg h2 (AV.sL h3);have hlen:cur.size=cs.length:=(by rw[←br.len _ _ h];simp);have H5:¬(v.cells.size≠sz||decide (off+v.cells.size>cur.size))=true:=by
    simp only[Be,dj,Xd];omega
   have wu:=lx off v.cells.toList 0 cur PJ;simp only[kf] at wu;obtain⟨cur',e1,e2⟩:=ly place ps qs _ dF (v.cells.zipIdx.foldl (fun cs (p:Value×Nat)=>cs.setIfInBounds (off+p.2) p.1) cur) (by
    rw[←Array.foldl_toList,Array.toList_zipIdx,wu];have:v.cells.toList.length=sz:=PJ;rw[this];exact br.append _ _ _ _ (br.append _ _ _ _ (br.take _ _ _ h) k2) (br.drop _ _ _ h)) hf EM
   refine⟨cur',?_,e2⟩;simp only[Instr.fill,h1];rw[cY H5];exact e1
  simp at hf
end
section
variable {K:Kx} {β:Lb→Option Nat} {env:Env} {H:Hp} {a:Act} {w:World}
def jH {P:Program} {t:TypeId} {m:Nat} (hm:u5 P t=some (some m)) (ad:Addr) (cs:List Value) (hl:cs.length=m)
  (h:∀j v,cs[j]?=some v→w.cell? (ad.add j)=some v):(loadVar t ad).run P w= .ok (.agg cs.toArray) w:=by
 have hu:(isAgg t).run P w= .ok true w∧ZM P t=some m:=by
  unfold u5 at hm;split at hm
  ·rename_i fs zj;obtain⟨s,h1,h2⟩:=bR.1 hm;cases h2;exact⟨by simp[isAgg,run_underlying zj],h1⟩
  ·rename_i n e zj;obtain⟨s,h1,h2⟩:=bR.1 hm;cases h2;exact⟨by simp[isAgg,run_underlying zj],h1⟩
  ·simp at hm
  simp at hm
 subst hl;simp[loadVar,hu.1,cp hu.2,run_loadCells_list (P:=P) w ad cs h,Result.andThen]
def jI {P:Program} {t:TypeId} (hm:u5 P t=some none) (ad:Addr) (v:Value) (h:w.cell? ad=some v):(loadVar t ad).run P w= .ok v w:=by
 have hu:(isAgg t).run P w= .ok false w:=by
  unfold u5 at hm;split at hm
  ·simp at hm
  ·simp at hm
  ·rename_i d h1 h2 hd;have wL:∀f,d≠ .struct f:=fun f e=>h1 f e;have H6:∀n e,d≠ .array n e:=fun n e q=>h2 n e q;cases d<;>simp[isAgg,run_underlying hd]
   ·exact(H6 _ _ rfl).elim
   exact(wL _ rfl).elim
  simp at hm
 simp[loadVar,hu,h]
theorem jq:∀(cs:List IV),ah (cs.map IV.dQ)=[]
 |[]=>by simp[ah]
 |x::r=>by
  simp only[o2,ah,jq r,rI];cases x<;>simp[IV.dQ,AV.an]
theorem mM {w:World} {I:Nat→Prop}:∀(n:Nat) (cs:List IV) (b o:Nat),bK w I cs b o→bK w I (cs.take n) b o
 |0,_,_,_,_=>by simp[bK]
 |n+1,[],_,_,_=>by simp[bK]
 |n+1,x::r,b,o,h=>by
  simp only[bK] at h;simp only[Cj,bK];exact⟨h.1,mM n r b (o+1) h.2⟩
def zz (hr:aH K β env H a w) {o:Oper} {t:TypeId} {x:Operand} {x':O} {m:Option Nat} (ho:o.op= .load t x) (hm:u5 K.P t=some m) (hx:co K.G x=some x') {y:AV}
  (hy:af (.load m x') env=some y):aJ K β H a w o y:=by
 have h:=hr.ev hx;simp only[af] at hy;split at hy
 ·rename_i cs e;rw[e] at h;simp only[RV] at h;obtain⟨b,of,h1,h2,h3,h4⟩:=h;obtain⟨vs,k1,k2,k3⟩:=br.pS (β:=β) (H:=H) cs b of h4;have run:∀v,(loadVar t ⟨b,of,none⟩).run K.P w= .ok v w→(execOp a.eval o).run K.P w= .ok (.value v) w:=by
   intro v hv;simp[execOp,ho,h1,Instr.loadAt,Instr.sureAddr,hv]
  cases m with
  |none=>
   simp only[bR] at hy;obtain⟨z,hz,rfl⟩:=hy;obtain⟨v,e1,e2⟩:=br.get _ _ 0 (z.dQ) k1 (by simp[hz]);refine aJ.same (run v (jI hm _ _ (by simpa using k3 0 v e1))) e2 ?_;cases z<;>simp[IV.dQ,AV.an]
  |some k=>
  simp only at hy;split at hy
  ·rename_i hk;simp only[di] at hy;subst hy;refine aJ.same (run (.agg (vs.take k).toArray) (jH hm _ _ PJ (fun j v hj=> ?_))) ?_ ?_
   ·rw[oe] at hj;split at hj
    ·rw[addr_add];exact k3 j v hj
    simp at hj
   ·simp only[RV];exact⟨_,rfl,by rw[JD];exact br.take _ _ _ k1⟩
   intro l hl;simp only[AV.an,jq] at hl;simp at hl
  simp at hy
 simp at hy
def aH.fresh (hr:aH K β env H a w):Im K β H w.heap.size:=by
 refine⟨.inr hr.frame.size,fun l hl hb=> ?_⟩;obtain⟨r,lz⟩:=hl;obtain⟨_,_,h3⟩:=hr.rows l r lz;simp only[hb] at h3;obtain⟨cur,e,cap,h4,_⟩:=h3;have:=(vN.1 h4).1;omega
def dZ (w:World) (o:Obj):iU w (w.alloc o):=(Below.refl _ _).alloc (eM _) o
def mf (w:World):iU w w.drew:=(Below.refl _ _).drew
def nD (w:World) (c:Array Value) (e:TypeId) (j:Nat):(w.alloc (.cells c e)).cell? ⟨w.heap.size,j,none⟩=c[j]?:=by
 simp
def CC (hr:aH K β env H a w) {o:Oper} {t:TypeId} {x:Operand} {x':O} (ho:o.op= .box t x) (hx:co K.G x=some x') {y:AV}
  (hy:af (.oC x') env=some y):aJ K β H a w o y:=by
 have h:=hr.ev hx;simp only[af,bR] at hy;obtain⟨ys,h1,rfl⟩:=hy;have fw:(∃cs,ev env x'= .agg cs)∨(ev env x').one=true:=by
  cases hc:ev env x'<;>simp[hc,AV.cells,qO,AV.iv] at h1<;>first|exact .inl ⟨_,rfl⟩|exact .inr rfl
 obtain⟨k1,k2⟩:=br.kg h fw;have hg:=dZ w (.cells (a.eval x).cells t);refine⟨.pointer (some ⟨w.heap.size,0,none⟩),w.alloc (.cells (a.eval x).cells t),?_,hg,?_,Pv⟩
 ·simp[execOp,ho,Instr.box,newVar,newRow]
 simp only[RV];refine⟨_,0,rfl,hr.fresh,N7,?_⟩;refine iD _ _ _ _ _ h1 (br.mono _ _ (hg.nz β H _ _) k2) (fun j v hj=> ?_);rw[bM,nD];simpa using hj
theorem gX:∀(l:List Value) (xs:List AV),YJ l=some xs→∀(w:World) (β:Lb→Option Nat) (H:Hp) (I:Nat→Prop),br w β H I xs l
 |[],xs,h,w,β,H,I=>by simp[YJ] at h;subst h;simp[br]
 |v::r,xs,h,w,β,H,I=>by
  simp only[YJ,dJ,bR] at h;obtain⟨x,h1,s,h2,rfl⟩:=h;simp only[br];exact⟨v,r,rfl,BL h1 _ _ _ _,gX r s h2 w β H I⟩
theorem nE (z:Array Value) (zs:List AV) (w:World) (β:Lb→Option Nat) (H:Hp) (I:Nat→Prop) (h:br w β H I zs z.toList) (hz:0<z.size):∀n:Nat,
  br w β H I ((List.replicate n zs).flatten) ((Array.range (n*z.size)).map (fun i=>z[i%z.size]!)).toList
 |0=>by simp[br]
 |n+1=>by
  have ih:=nE z zs w β H I h hz n;have e1:(List.replicate (n+1) zs).flatten=(List.replicate n zs).flatten++zs:=by
   rw[List.replicate_succ'];simp
  have e2:((Array.range ((n+1)*z.size)).map (fun i=>z[i%z.size]!)).toList=((Array.range (n*z.size)).map (fun i=>z[i%z.size]!)).toList++z.toList:=by
   simp only[Nz,tH];rw[uQ,M8,List.range_add,BG];congr 1;rw[Nt];apply List.ext_getElem
   ·simp
   intro i h1 h2;simp at h1 h2;simp[O7 h1,h1]
  rw[e1,e2];exact br.append _ _ _ _ ih h
theorem kQ (hr:aH K β env H a w) (place:Nat→Option (Nat×Nat)):∀(ps:List (Nat×Operand)) (xs:List O) (qs:List (Nat×Nat×O)),cos K.G (ps.map (·.2))=some xs →
  qs.length=ps.length→(∀(i:Nat) (p:Nat×Operand) (x:O) (q:Nat×Nat×O),ps[i]?=some p→xs[i]?=some x→qs[i]?=some q→q.2.2=x∧place p.1=some (q.1,q.2.1)) →
  iF (fun(p:Nat×Value) (q:Nat×Nat×AV)=>place p.1=some (q.1,q.2.1)∧RV w β H (Im K β H) q.2.2 p.2)
   (ps.map fun p=>(p.1,a.eval p.2)) (qs.map fun q=>(q.1,q.2.1,ev env q.2.2))
 |[],xs,qs,h,hl,hp=>by
  have:qs=[]:=wc (by simpa using hl);subst this;exact .nil
 |p::ps,xs,qs,h,hl,hp=>by
  cases qs with
  |nil=>simp at hl
  |cons q qs=>
  simp only[o2,cos,dJ,bR] at h;obtain⟨y,h1,s,h2,rfl⟩:=h;obtain⟨k1,k2⟩:=hp 0 p y q N7 N7 N7;simp only[o2];refine .cons ⟨k2,?_⟩ (kQ hr place ps s qs h2 (by simpa using hl)
   (fun i p' x' q' g1 g2 g3=>hp (i+1) p' x' q' (by simpa using g1) (by simpa using g2) (by simpa using g3)))
  simp only;rw[k1];exact hr.ev h1
def u_ (ys:List IV) (h:∀y∈ys,y.cells=[y]) (hn:ys≠[]):(zx ys).cells=ys:=by
 cases ys with
 |nil=>exact absurd rfl hn
 |cons y r=>
 cases r with
 |nil=>simpa[zx] using h y N7
 |cons z r=>simp[zx,IV.cells]
theorem oW:∀(cs:List AV) (ys:List IV),qO cs=some ys→∀y∈ys,y.cells=[y]
 |[],ys,h=>by simp[qO] at h;subst h;simp
 |x::r,ys,h=>by
  simp only[qO,dJ,bR] at h;obtain⟨y,h1,s,h2,rfl⟩:=h;intro z hz;simp at hz;rcases hz with rfl|hz
  ·exact wK h1
  exact oW r s h2 z hz
theorem jr {w:World} {I:Nat→Prop} {sz:Nat} (gm:0<sz):∀(n:Nat) (ys:List IV) (b o:Nat),ys.length=n*sz→(∀y∈ys,y.cells=[y])→bK w I ys b o →
  bH w I (chunks sz n ys) b o sz∧(chunks sz n ys).length=n
 |0,ys,b,o,_,_,_=>by simp[chunks,bH]
 |n+1,ys,b,o,hl,hc,h=>by
  have kR:ys.length=n*sz+sz:=by rw[hl,uQ];omega
  have ih:=jr gm n (ys.drop sz) b (o+sz) PJ (fun y hy=>hc y (EH hy)) (il _ _ _ _ h);have bI:(ys.take sz).length=sz:=PJ
  have CD:(zx (ys.take sz)).cells=ys.take sz:=u_ _ (fun y hy=>hc y (ec hy)) (by intro e;rw[e] at bI;simp at bI;omega);simp only[chunks,bH,gL];refine⟨⟨?_,ih.1⟩,by rw[ih.2]⟩;rw[eH,CD];exact⟨bI.symm,mM _ _ _ _ h⟩
def CE (hr:aH K β env H a w) {o:Oper} {t e:TypeId} {n:Nat} {ps:Array (Nat×Operand)} {i:TypeInfo} {z:Value} {zs:List AV} {xs:List O} (ho:o.op= .buildSlice t n ps)
   (ht:K.P.underlying t=some (.slice e)) (hi:K.P.info? e=some i) (hz:i.zero=some z) (mN:z.cells.size=i.size) (h0:0<i.size) (hn:n*i.size≤2^24)
   (nF:YJ z.cells.toList=some zs) (sM:cos K.G (ps.toList.map (·.2))=some xs) {y:AV}
   (hy:af (.lits n i.size zs ((ps.toList.map (·.1)).zip xs)) env=some y):aJ K β H a w o y:=by
 simp only[af] at hy
 split at hy
 · split at hy
   · rename_i wq
     obtain⟨rfl,H7⟩:=wq
     simp only[di] at hy
     subst hy
     have BR:xs.length=ps.toList.length:=by
       have:=br.len _ _ (iE hr _ _ sM)
       simp at this
       simpa using this.symm
     have KF:ps.toList=[]:=by
       have h1:((ps.toList.map (·.1)).zip xs)=[]:=by simpa using H7
       have h2:((ps.toList.map (·.1)).zip xs).length=0:=by rw[h1];rfl
       rw[List.length_zip,bA,BR,Nat.min_self] at h2
       exact ye.1 h2
     have H8:ps=#[]:=by simpa using KF
     subst H8
     refine⟨.slice (some ⟨w.heap.size,0,none⟩) 0 0,w.alloc (.cells #[] e),?_,dZ w _,PT,Pv⟩
     have Ft:=cp (P:=K.P) (t:=e) (s:=i.size) (by simp[ZM,hi]) w
     simp[execOp,ho,Instr.buildSlice,run_underlying ht,Ft,Instr.fill,newRow,show Array.range 0=#[] from rfl]
   simp at hy
 rename_i Vi
 simp only[dJ,bR] at hy
 obtain⟨cs,h1,ys,h2,rfl⟩:=hy
 have wq:n≠0:=fun e=>Vi (by simp[e])
 have u7:=gX _ _ nF w β H (Im K β H)
 have hzero:=nE z.cells zs w β H (Im K β H) u7 tM n
 have BR:xs.length=ps.toList.length:=by
   have:=br.len _ _ (iE hr _ _ sM)
   simp at this
   simpa using this.symm
 have dN:=kQ hr (fun j=>some (j*i.size,i.size)) ps.toList xs (((ps.toList.map (·.1)).zip xs).map fun p=>(p.1*i.size,i.size,p.2)) sM
   (by simp at BR;simp[BR])
   (by
     intro j p x q g1 g2 g3
     simp only[cn,N',bR] at g3
     obtain⟨⟨u,v⟩,⟨⟨p',e1,e2⟩,e3⟩,rfl⟩:=g3
     simp only at e1 e2 e3
     rw[g1] at e1;cases e1
     rw[g2] at e3;cases e3
     exact⟨rfl,by simp[e2]⟩)
 obtain⟨cur',f1,f2⟩:=ly (fun j=>some (j*i.size,i.size)) _ _ _ cs _ hzero (by simpa[Nt,O1] using h1) dN
 have hlen:cs.length=n*i.size:=by
   have e1:=br.len _ _ hzero
   have e2:∀(qs:List (Nat×Nat×AV)) (c c':List AV),fg c qs=some c'→c'.length=c.length:=by
     intro qs
     induction qs with
     |nil=>intro c c' h;simp[fg] at h;rw[h]
     |cons q qs ih=>
     intro c c' h
     obtain⟨off,sz,x⟩:=q
     simp only[fg] at h
     split at h
     · rename_i hh
       obtain⟨_,hh⟩:=hh
       rw[ih _ _ h]
       simp
       omega
     simp at h
   rw[e2 _ _ _ h1,←e1]
   simp[mN]
 have hg:=dZ w (.cells cur' e)
 have H9:ys.length=n*i.size:=by rw[tX _ _ h2,hlen]
 have kS:bK (w.alloc (.cells cur' e)) (Im K β H) ys w.heap.size 0:=
   iD _ _ _ _ _ h2 (br.mono _ _ (hg.nz β H _ _) f2) (fun j v hj=>by rw[bM,nD];simpa using hj)
 have H_:=jr h0 n ys w.heap.size 0 H9 (oW _ _ h2) kS
 refine⟨.slice (some ⟨w.heap.size,0,none⟩) n n,w.alloc (.cells cur' e),?_,hg,?_,Pv⟩
 · have qQ:Instr.fill (fun j=>some (j*i.size,i.size)) ((Array.range (n*i.size)).map (z.cells[·%z.cells.size]!)) (ps.toList.map fun p=>(p.1,a.eval p.2))=some cur':=by
     rw[←mN]
     rw[←mN] at f1
     exact f1
   have CF:¬n*i.size=0:=by rw[kr];exact Vi
   have Ft:=cp (P:=K.P) (t:=e) (s:=i.size) (by simp[ZM,hi]) w
   simp only[execOp,ho,Instr.buildSlice,Sem.run_bind,run_underlying ht,Result.andThen_ok,Ft,Sem.run_ite,CF,nX,zeroValue,typeInfo,run_program,hi,hz,
     Nz,show ¬n*i.size>2^24 by omega,Sem.run_pure,Result.andThen,qQ]
   simp[newRow,qQ]
 simp only[RV,NN]
 refine⟨_,n,by rw[H_.2],by rw[H_.2];exact eM _,?_,.inr ⟨w.heap.size,0,i.size,rfl,hr.fresh,N7,h0,H_.1⟩⟩
 have:n≤n*i.size:=fJ n h0
 simp only[maxLen];omega
theorem nG (hr:aH K β env H a w) (pl:List (Nat×Nat)):∀(ps:List (Nat×Operand)) (xs:List O) (qs:List (Nat×Nat×O)),cos K.G (ps.map (·.2))=some xs →
  kF pl (ps.map (·.1)) xs=some qs →
  iF (fun(p:Nat×Value) (q:Nat×Nat×AV)=>pl.toArray[p.1]?=some (q.1,q.2.1)∧RV w β H (Im K β H) q.2.2 p.2)
   (ps.map fun p=>(p.1,a.eval p.2)) (qs.map fun q=>(q.1,q.2.1,ev env q.2.2))
 |[],xs,qs,h,hb=>by
  simp[cos] at h;subst h;simp[kF] at hb;subst hb;exact .nil
 |p::ps,xs,qs,h,hb=>by
  simp only[o2,cos,dJ,bR] at h;obtain⟨y,h1,s,h2,rfl⟩:=h;simp only[o2,kF,dJ,bR] at hb;obtain⟨q,e1,r,e2,rfl⟩:=hb;simp only[o2];exact .cons ⟨by simpa using e1,hr.ev h1⟩ (nG hr pl ps s r h2 e2)
def Fu (hr:aH K β env H a w) {o:Oper} {t:TypeId} {fs:Array Field} {ps:Array (Nat×Operand)} {i:TypeInfo} {z:Value} {zs:List AV} {xs:List O} {pl:List (Nat×Nat)}
   {qs:List (Nat×Nat×O)} (ho:o.op= .build t ps)
   (ht:K.P.underlying t=some (.struct fs)) (hi:K.P.info? t=some i) (hz:i.zero=some z) (BS:fs.toList.mapM (fun f=>(K.P.info? f.type).map fun i=>(f.offset,i.size))=some pl)
   (nF:YJ z.cells.toList=some zs) (sM:cos K.G (ps.toList.map (·.2))=some xs) (EM:kF pl (ps.toList.map (·.1)) xs=some qs) {y:AV}
   (hy:af (.sg zs qs) env=some y):aJ K β H a w o y:=by
 simp only[af,bR] at hy
 obtain⟨cs,h1,rfl⟩:=hy
 obtain⟨cur',f1,f2⟩:=ly (β:=β) (H:=H) (I:=Im K β H) (w:=w) (fun j=>pl.toArray[j]?) _ _ _ cs z.cells (gX _ _ nF w β H _) h1 (nG hr pl _ _ _ sM EM)
 refine aJ.same (v:= .agg cur') ?_ ⟨cur'.toList,N7,f2⟩ ?_
 · have hb:K.P.built t (ps.map fun(i,x)=>(i,a.eval x)).toList=some cur':=by
     simp only[Program.built,hi,ht,hz,BS]
     simpa using f1
   simp only[execOp,ho,Sem.run_bind,run_build w t _ cur' hb,Result.andThen_ok,Sem.run_pure]
 have tY:∀(l:List Value) (xs:List AV),YJ l=some xs→ah xs=[]:=by
   intro l
   induction l with
   |nil=>intro xs h;simp[YJ] at h;subst h;rfl
   |cons v r ih=>
   intro xs h
   simp only[YJ,dJ,bR] at h
   obtain⟨x,h1,s,h2,rfl⟩:=h
   simp[ah,sE h1,ih s h2]
 have KG:∀(ids:List Nat) (xs:List O) (qs:List (Nat×Nat×O)),kF pl ids xs=some qs→∀q∈qs,q.2.2∈xs:=by
   intro ids
   induction ids with
   |nil=>intro xs qs h;cases xs<;>simp[kF] at h;subst h;simp
   |cons j js ih=>
   intro xs qs h
   cases xs with
   |nil=>simp[kF] at h
   |cons x xs=>
   simp only[kF,dJ,bR] at h
   obtain⟨p,e1,r,e2,rfl⟩:=h
   intro q hq
   simp at hq
   rcases hq with rfl|hq
   · simp
   exact Nk _ (ih xs r e2 q hq)
 have sK:∀x∈xs,∀l∈(ev env x).an,H l≠ .unused:=by
   intro x hx l hl
   refine iV hr _ _ sM l ?_
   obtain⟨k,hk⟩:=yl hx
   exact cW _ k _ (by simp[hk]) l hl
 have lA:∀(l m:List AV),ah (l++m)=ah l++ah m:=by
   intro l m
   induction l with
   |nil=>rfl
   |cons x r ih=>simp[ah,ih]
 have Rx:∀(l:List AV) (n:Nat),(∀q∈ah (l.take n),q∈ah l)∧(∀q∈ah (l.drop n),q∈ah l):=by
   intro l n
   have:=lA (l.take n) (l.drop n)
   rw[tO] at this
   rw[this]
   exact⟨fun q hq=>eR.2 (.inl hq),fun q hq=>eR.2 (.inr hq)⟩
 have hf:∀(qs:List (Nat×Nat×AV)) (c c':List AV),fg c qs=some c'→(∀l∈ah c,H l≠ .unused)→(∀q∈qs,∀l∈q.2.2.an,H l≠ .unused)→∀l∈ah c',H l≠ .unused:=by
   intro qs
   induction qs with
   |nil=>intro c c' h h1 _;simp[fg] at h;subst h;exact h1
   |cons q qs ih=>
   intro c c' h h1 h2
   obtain⟨off,sz,x⟩:=q
   simp only[fg] at h
   split at h
   · refine ih _ _ h ?_ (fun q hq=>h2 q (by simp[hq]))
     intro l hl
     rw[lA,lA,eR,eR] at hl
     rcases hl with(hl|hl)|hl
     · exact h1 l ((Rx c off).1 l hl)
     · have:=h2 (off,sz,x) N7 l
       refine this ?_
       cases x<;>simp[AV.cells,ah] at hl<;>simp[AV.an] at hl ⊢<;>exact hl
     exact h1 l ((Rx c (off+sz)).2 l hl)
   simp at h
 simp only[AV.an]
 refine hf _ _ _ h1 (by rw[tY _ _ nF];simp) ?_
 intro q hq
 simp only[pb] at hq
 obtain⟨q0,KH,rfl⟩:=hq
 exact sK _ (KG _ _ _ EM q0 KH)
def CG (hr:aH K β env H a w) {o:Oper} {t:TypeId} {x:Operand} {f:Nat} {fs:Array Field} {fd:Field} {x':O} {m:Option Nat} (ho:o.op= .field t x f)
  (ht:K.P.underlying t=some (.struct fs)) (hf:fs[f]?=some fd) (hm:u5 K.P fd.type=some m) (hx:co K.G x=some x') {y:AV}
  (hy:af (.pN x' fd.offset m) env=some y):aJ K β H a w o y:=by
 have h:=hr.ev hx;have Hi:=hr.eo hx;simp only[af] at hy;split at hy
 ·rename_i cs e;rw[e] at h Hi;simp only[RV] at h;obtain⟨vs,h1,h2⟩:=h;have run:∀v,(part fd.type vs.toArray fd.offset).run K.P w= .ok v w→(execOp a.eval o).run K.P w= .ok (.value v) w:=by
   intro v hv;simp[execOp,ho,Instr.field,run_underlying ht,hf,h1,asAgg,hv,Result.andThen]
  cases m with
  |none=>
   simp only at hy;obtain⟨v,k1,k2⟩:=br.get _ _ _ _ h2 hy;have zA:(isAgg fd.type).run K.P w= .ok false w:=by
    unfold u5 at hm;split at hm
    ·simp at hm
    ·simp at hm
    ·rename_i d h1 h2 hd;cases d<;>simp[isAgg,run_underlying hd]
     ·exact(h2 _ _ rfl).elim
     exact(h1 _ rfl).elim
    simp at hm
   refine aJ.same (run v ?_) k2 (fun l hl=>Hi l (by simpa[AV.an] using cW _ _ _ hy l hl));simp[part,zA,k1]
  |some k=>
  simp only at hy;split at hy
  ·rename_i hk;simp only[di] at hy;subst hy;have zA:(isAgg fd.type).run K.P w= .ok true w∧ZM K.P fd.type=some k:=by
    unfold u5 at hm;split at hm
    ·rename_i fs zj;obtain⟨s,h1,h2⟩:=bR.1 hm;cases h2;exact⟨by simp[isAgg,run_underlying zj],h1⟩
    ·rename_i n e zj;obtain⟨s,h1,h2⟩:=bR.1 hm;cases h2;exact⟨by simp[isAgg,run_underlying zj],h1⟩
    ·simp at hm
    simp at hm
   refine aJ.same (run (.agg ((vs.drop fd.offset).take k).toArray) ?_) ⟨_,rfl,br.take _ _ _ (br.drop _ _ _ h2)⟩ ?_
   ·simp[part,zA.1,cp zA.2,Result.andThen,List.extract]
   intro l hl;simp only[AV.an] at hl Hi;refine Hi l ?_;have lA:∀(l m:List AV),ah (l++m)=ah l++ah m:=by
    intro l m;induction l with
    |nil=>rfl
    |cons x r ih=>simp[ah,ih]
   have e1:=lA (cs.take fd.offset) (cs.drop fd.offset);rw[tO] at e1;have e2:=lA ((cs.drop fd.offset).take k) ((cs.drop fd.offset).drop k);rw[tO] at e2;rw[e1,e2];exact eR.2 (.inr (eR.2 (.inl hl)))
  simp at hy
 simp at hy
theorem tZ {P:Program}:∀(fs:List Field) (ks:List Kd) (n d:Nat) (xs ys:List AV) (vs us:List Value) (b:Bool),eu P n fs=some ks→eqs ks xs ys=some b →
  br w β H (Im K β H) xs (vs.drop n)→br w β H (Im K β H) ys (us.drop n) →
  (Op.eqFields (d+1) vs.toArray us.toArray fs).run P w= .ok b w
 |[],ks,n,d,xs,ys,vs,us,b,hp,he,hx,hy=>by
  simp[eu] at hp;subst hp;cases xs<;>cases ys<;>simp[eqs] at he;subst he;simp[Op.eqFields]
 |f::fs,ks,n,d,xs,ys,vs,us,b,hp,he,hx,hy=>by
  simp only[eu] at hp;split at hp
  ·rename_i hh;simp only[de,sd,ne_eq,yt] at hh;obtain⟨h1,h2⟩:=hh;obtain⟨k,Hj,rfl,BT,hk⟩:∃k Hj,ks=k::Hj∧eu P (n+1) fs=some Hj∧((k= .s∧P.underlying f.type=some .string)∨(k= .b∧P.underlying f.type=some .bool)∨(k= .i∧∃j,P.underlying f.type=some (.int j))):=by
    split at hp
    ·obtain⟨s,q1,q2⟩:=bR.1 hp;exact⟨_,s,q2.symm,q1,.inl ⟨rfl,by assumption⟩⟩
    ·obtain⟨s,q1,q2⟩:=bR.1 hp;exact⟨_,s,q2.symm,q1,.inr (.inl ⟨rfl,by assumption⟩)⟩
    ·obtain⟨s,q1,q2⟩:=bR.1 hp;exact⟨_,s,q2.symm,q1,.inr (.inr ⟨rfl,_,by assumption⟩)⟩
    simp at hp
   cases xs with
   |nil=>simp[eqs] at he
   |cons x xs=>
   cases ys with
   |nil=>simp[eqs] at he
   |cons y ys=>
   simp only[eqs,dJ,bR] at he;obtain⟨b1,e1,b2,e2,rfl⟩:=he;simp only[br] at hx hy;obtain⟨v,Hh,hv,rx,sM⟩:=hx;obtain⟨u,KI,hu,ry,sn⟩:=hy;have gv:vs[n]?=some v:=(by rw[←Oz,hv];rfl);have gu:us[n]?=some u:=(by rw[←Oz,hu];rfl);have dv:vs.drop (n+1)=Hh:=(by rw[←rY,hv];rfl);have du:us.drop (n+1)=KI:=(by rw[←rY,hu];rfl);have ih:=tZ (P:=P) fs Hj (n+1) d xs ys vs us b2 BT e2 (by rw[dv];exact sM) (by rw[du];exact sn);have zA:(isAgg f.type).run P w= .ok false w:=by
    rcases hk with⟨_,hk⟩|⟨_,hk⟩|⟨_,j,hk⟩<;>simp[isAgg,run_underlying hk]
   have pv:(part f.type vs.toArray f.offset).run P w= .ok v w:=(by simp[part,zA,h2,gv]);have pu:(part f.type us.toArray f.offset).run P w= .ok u w:=(by simp[part,zA,h2,gu]);have heq:(Op.equalIn (d+1) f.type v u).run P w= .ok b1 w:=by
    rcases hk with⟨rfl,hk⟩|⟨rfl,hk⟩|⟨rfl,j,hk⟩<;>cases x<;>cases y<;>simp[JP] at e1<;>simp only[RV] at rx ry<;>subst rx<;>subst ry
    ·rw[run_equalIn_string w d f.type _ _ hk];simp[ByteArray.toList_mk,←e1]
    ·rw[run_equalIn_bool' w d f.type _ _ hk];simp[←e1]
    obtain⟨rfl,e1⟩:=e1;rw[run_equalIn_int w d f.type _ _ _ _ hk];simp[←e1]
   simp only[Op.eqFields,ne_eq,h1,Na,ku,Sem.run_bind,pv,pu,heq,Result.andThen_ok,Sem.run_ite,ih];cases b1<;>simp
  simp at hp
def iW {op:BinOp} {n:Bool} (h:jG op=some n):(op= .eql∧n=false)∨(op= .neq∧n=true):=by
 cases op<;>simp[jG] at h<;>subst h<;>simp
def CH (hr:aH K β env H a w) {o:Oper} {op:BinOp} {t t2:TypeId} {x y:Operand} {x' y':O} {ks:List Kd} {n:Bool} (ho:o.op= .binOp op t x y t2) (hn:jG op=some n)
  (hks:jU K.P t=some ks) (hx:co K.G x=some x') (hy:co K.G y=some y') {z:AV} (hz:af (.pM n ks x' y') env=some z):aJ K β H a w o z:=by
 have h:=hr.ev hx;have h2:=hr.ev hy;unfold jU at hks;split at hks
 ·rename_i fs zj;split at hks
  ·rename_i hc;simp only[de,D0] at hc;simp only[af] at hz;split at hz
   ·rename_i xs ys e1 e2;rw[e1] at h;rw[e2] at h2;simp only[RV] at h h2;obtain⟨vs,h3,h4⟩:=h;obtain⟨us,h5,h6⟩:=h2;obtain⟨b,hb,rfl⟩:=bR.1 hz;have KJ:K.P.underlying t=some (.struct (K.P.fieldsOf t)):=(by simp[Program.fieldsOf,zj]);have KL:(K.P.fieldsOf t).toList=fs.toList:=(by simp[Program.fieldsOf,zj]);have hq:(Op.equalIn 10000 t (.agg vs.toArray) (.agg us.toArray)).run K.P w= .ok b w:=by
     rw[show(10000:Nat)=9998+1+1 from rfl,run_equalIn_struct w _ t _ _ KJ hc.1,KL];exact tZ fs.toList ks 0 9998 xs ys vs us b hks hb (by simpa using h4) (by simpa using h6)
    refine aJ.same (v:= .bool (n ^^ b)) ?_ PT Pv;rcases iW hn with⟨rfl,rfl⟩|⟨rfl,rfl⟩
    ·simp only[execOp,ho,h3,h5,Sem.run_bind,run_eqGuard_agg w _ t x y _ _ hc.2,Result.andThen_ok,run_eql_struct,hq];simp
    simp only[execOp,ho,h3,h5,Sem.run_bind,run_eqGuard_agg w _ t x y _ _ hc.2,Result.andThen_ok,run_neq_struct,hq];simp
   simp at hz
  simp at hks
 simp at hks
def Fv (hr:aH K β env H a w) {o:Oper} {op:BinOp} {t t2:TypeId} {x y:Operand} {x' y':O} {n:Bool} (ho:o.op= .binOp op t x y t2) (hn:jG op=some n)
  (ht:K.P.underlying t=some .bool) (hx:co K.G x=some x') (hy:co K.G y=some y') {z:AV} (hz:af (.eqb n x' y') env=some z):aJ K β H a w o z:=by
 have h:=hr.ev hx;have h2:=hr.ev hy;simp only[af] at hz;split at hz
 ·rename_i p q e1 e2;rw[e1] at h;rw[e2] at h2;simp only[RV,di] at h h2 hz;subst hz;refine aJ.same (v:= .bool (n ^^ (p==q))) ?_ PT Pv;have hq:(Op.equal t (.bool p) (.bool q)).run K.P w= .ok (p==q) w:=run_equalIn_bool' w 9999 t p q ht;rcases iW hn with⟨rfl,rfl⟩|⟨rfl,rfl⟩
  ·simp[execOp,ho,h,h2,eqGuard,binOp,hq]
  simp[execOp,ho,h,h2,eqGuard,binOp,hq]
 simp at hz
def ab5 (d:Nat) {P:Program} {t e:TypeId} (ht:P.underlying t=some (.pointer e)) (q:Option Addr):(Op.equalIn (d+1) t (.pointer none) (.pointer q)).run P w= .ok q.isNone w:=by
 simp[Op.equalIn,run_underlying ht]
def aj1 (d:Nat) {P:Program} {t e:TypeId} (ht:P.underlying t=some (.pointer e)) (q:Addr):(Op.equalIn (d+1) t (.pointer (some q)) (.pointer none)).run P w= .ok false w:=by
 simp[Op.equalIn,run_underlying ht]
def sQ (d:Nat) {P:Program} {t:TypeId} {ms:Array (String×TypeId)} (ht:P.underlying t=some (.interface ms)):(Op.equalIn (d+1) t .nilIface .nilIface).run P w= .ok true w:=by
 simp[Op.equalIn,run_underlying ht]
def sR (d:Nat) {P:Program} {t u:TypeId} {v:Value} {ms:Array (String×TypeId)} (ht:P.underlying t=some (.interface ms)):(Op.equalIn (d+1) t (.iface u v) .nilIface).run P w= .ok false w:=by
 simp[Op.equalIn,run_underlying ht]
def Fw (hr:aH K β env H a w) {o:Oper} {op:BinOp} {t t2 e:TypeId} {x y:Operand} {x' y':O} {n:Bool} (ho:o.op= .binOp op t x y t2) (hn:jG op=some n)
  (ht:K.P.underlying t=some (.pointer e)) (hx:co K.G x=some x') (hy:co K.G y=some y') {z:AV} (hz:af (.zu n x' y') env=some z):aJ K β H a w o z:=by
 have h:=hr.ev hx;have h2:=hr.ev hy;simp only[af,bR] at hz;obtain⟨b,hb,rfl⟩:=hz;have key:∀p q,a.eval x= .pointer p→a.eval y= .pointer q→(Op.equal t (.pointer p) (.pointer q)).run K.P w= .ok b w→aJ K β H a w o (.bool (n ^^ b)):=by
  intro p q h3 h4 h5;refine aJ.same (v:= .bool (n ^^ b)) ?_ PT Pv;rcases iW hn with⟨rfl,rfl⟩|⟨rfl,rfl⟩
  ·simp[execOp,ho,h3,h4,eqGuard,binOp,h5]
  simp[execOp,ho,h3,h4,eqGuard,binOp,h5]
 have wM:∀q,(Op.equal t (.pointer none) (.pointer q)).run K.P w= .ok q.isNone w:=by
  intro q;exact ab5 9999 ht q
 have zB:∀q,(Op.equal t (.pointer (some q)) (.pointer none)).run K.P w= .ok false w:=by
  intro q;exact aj1 9999 ht q
 cases e1:ev env x'<;>cases e2:ev env y'<;>rw[e1] at h<;>rw[e2] at h2<;>rw[e1,e2] at hb<;>simp[JQ] at hb<;>simp only[RV] at h h2<;>subst hb
 ·exact key _ _ h h2 (wM _)
 ·obtain⟨q,h2,_⟩:=h2;exact key _ _ h h2 (wM _)
 ·obtain⟨q,q2,h2,_⟩:=h2;exact key _ _ h h2 (wM _)
 ·obtain⟨q,h,_⟩:=h;exact key _ _ h h2 (zB _)
 obtain⟨q,q2,h,_⟩:=h;exact key _ _ h h2 (zB _)
def Fx (hr:aH K β env H a w) {o:Oper} {op:BinOp} {t t2:TypeId} {ms:Array (String×TypeId)} {x y:Operand} {x' y':O} {n:Bool} (ho:o.op= .binOp op t x y t2) (hn:jG op=some n)
  (ht:K.P.underlying t=some (.interface ms)) (hc:sF y=true) (hx:co K.G x=some x') {z:AV} (hz:af (.zv n x' y') env=some z):aJ K β H a w o z:=by
 have h:=hr.ev hx;have hy:y= .const .nilIface:=by
  cases y<;>simp[sF] at hc;rename_i v;cases v<;>simp at hc;rfl
 subst hy;simp only[af] at hz;split at hz
 ·rename_i e1;rw[e1] at h;simp only[RV,di] at h hz;subst hz;refine aJ.same (v:= .bool (n ^^ true)) ?_ PT Pv;have hq:(Op.equal t .nilIface .nilIface).run K.P w= .ok true w:=sQ 9999 ht;rcases iW hn with⟨rfl,rfl⟩|⟨rfl,rfl⟩
  ·simp[execOp,ho,h,show a.eval (.const .nilIface)= .nilIface from rfl,eqGuard,binOp,hq]
  simp[execOp,ho,h,show a.eval (.const .nilIface)= .nilIface from rfl,eqGuard,binOp,hq]
 ·rename_i t' x0 e1;rw[e1] at h;simp only[RV,di] at h hz;subst hz;obtain⟨u,h,_⟩:=h;refine aJ.same (v:= .bool (n ^^ false)) ?_ PT Pv;have hq:(Op.equal t (.iface t' u) .nilIface).run K.P w= .ok false w:=sR 9999 ht;rcases iW hn with⟨rfl,rfl⟩|⟨rfl,rfl⟩
  ·simp[execOp,ho,h,show a.eval (.const .nilIface)= .nilIface from rfl,eqGuard,binOp,hq]
  simp[execOp,ho,h,show a.eval (.const .nilIface)= .nilIface from rfl,eqGuard,binOp,hq]
 simp at hz
end

def Ia (s:List UInt8):List IV:=s.map fun c=> .int .u8 (c.toNat:Int)
theorem qR {w:World} {I:Nat→Prop} (b:Nat):∀(s:List UInt8) (o:Nat),(∀j c,s[j]?=some c→w.cell? ⟨b,o+j,none⟩=some (.int .u8 (c.toNat:Int)))→bH w I (Ia s) b o 1
 |[],o,_=>by simp[Ia,bH]
 |c::r,o,h=>by
  simp only[Ia,o2,bH,fL];refine⟨⟨trivial,_,by simpa using h 0 c rfl,rfl⟩,qR b r (o+1) fun j d hj=> ?_⟩;have:=h (j+1) d (by simpa using hj);rw[←this];congr 2;omega
section
variable {K:Kx} {β:Lb→Option Nat} {env:Env} {H:Hp} {a:Act} {w:World}
def Fy (hr:aH K β env H a w) {o:Oper} {s d e:TypeId} {x:Operand} {x':O} (ho:o.op= .convert s d x) (hs:K.P.underlying s=some .string) (hd:K.P.underlying d=some (.slice e)) (he:K.P.underlying e=some (.int .u8))
  (hx:co K.G x=some x') {y:AV} (hy:af (.zg x') env=some y):aJ K β H a w o y:=by
 have h:=hr.ev hx;simp only[af] at hy;split at hy
 ·rename_i t e1;split at hy
  ·rename_i hlen;rw[e1] at h;simp only[RV,NN,di] at h hy;subst hy;have gY:=run_bytes_of_string (P:=K.P) w s d e ⟨t.toArray⟩ hs hd he;have qS:=grownCap_ge w t.length 0 e;have qC:=grownCap_le_maxLen w t.length 0 e (by simp only[maxLen];omega);have gm:(⟨t.toArray⟩:ByteArray).size=t.length:=(by simp[ByteArray.size]);rw[gm] at gY;have kG:∀j c,t[j]?=some c→(w.drew.alloc (.cells (bytesRow ⟨t.toArray⟩ (grownCap w t.length 0 e)) e ((bytesRow ⟨t.toArray⟩ (grownCap w t.length 0 e)).size,(bytesRow ⟨t.toArray⟩ (grownCap w t.length 0 e)).size+1))).cell? ⟨w.heap.size,0+j,none⟩=some (.int .u8 (c.toNat:Int)):=by
    intro j c hj;have h1:=World.cell?_alloc_mark w.drew (bytesRow ⟨t.toArray⟩ (grownCap w t.length 0 e)) e ((bytesRow ⟨t.toArray⟩ (grownCap w t.length 0 e)).size,(bytesRow ⟨t.toArray⟩ (grownCap w t.length 0 e)).size+1) j;have h2:w.drew.heap.size=w.heap.size:=rfl;rw[h2] at h1;rw[bM,h1];have zk:=(bd.1 hj).1;unfold bytesRow;rw[MT (by simpa using zk)];simp[hj]
   refine⟨.slice (some ⟨w.heap.size,0,none⟩) t.length (grownCap w t.length 0 e),_,?_,(mf w).trans (dZ w.drew (.cells (bytesRow ⟨t.toArray⟩ (grownCap w t.length 0 e)) e ((bytesRow ⟨t.toArray⟩ (grownCap w t.length 0 e)).size,(bytesRow ⟨t.toArray⟩ (grownCap w t.length 0 e)).size+1))),?_,Pv⟩
   ·simp only[execOp,ho,h,Sem.run_bind,gY,Result.andThen,Sem.run_pure]
   simp only[RV,NN];exact⟨_,_,by rw[bA],by rw[bA];exact qS,qC,.inr ⟨w.heap.size,0,1,rfl,hr.fresh,N7,Pr,qR _ t 0 kG⟩⟩
  simp at hy
 simp at hy
theorem mO {w:World} {I:Nat→Prop} {b sz:Nat}:∀(xs:List IV) (s:List UInt8) (o:Nat),jW xs=some s→bH w I xs b o sz→xs=[]∨sz=1 →
  ∃ns:List Int,ns.length=xs.length∧ns.map (fun n=>UInt8.ofNat n.toNat)=s∧∀j n,ns[j]?=some n→w.cell? ⟨b,o+j,none⟩=some (.int .u8 n)
 |[],s,o,h,_,_=>by simp[jW] at h;subst h;exact⟨[],rfl,rfl,N7⟩
 |x::r,s,o,h,he,hz=>by
  have ln:sz=1:=by simpa using hz
  subst ln;cases x with
  |int k n=>
   cases k<;>simp only[jW,reduceCtorEq,bR] at h;obtain⟨s',h1,rfl⟩:=h;simp only[bH,fL] at he;obtain⟨⟨_,v,hv,rfl⟩,CI⟩:=he;obtain⟨ns,e1,e2,e3⟩:=mO r s' (o+1) h1 CI (.inr rfl);refine⟨n::ns,by simp[e1],by simp[e2],fun j m hj=> ?_⟩;cases j with
   |zero=>simp at hj;subst hj;exact hv
   |succ j=>
   have:=e3 j m (by simpa using hj);rw[←this];congr 2;omega
  |_=>simp[jW] at h
theorem fold_push:∀(ns:List Int) (r:ByteArray),ns.foldl (fun r n=>r.push (UInt8.ofNat n.toNat)) r=⟨r.data++(ns.map fun n=>UInt8.ofNat n.toNat).toArray⟩
 |[],r=>by simp
 |n::ns,r=>by
  simp only[Bw];rw[fold_push ns];simp[ByteArray.push]
def Fz (hr:aH K β env H a w) {o:Oper} {s d e:TypeId} {x:Operand} {x':O} (ho:o.op= .convert s d x) (hs:K.P.underlying s=some (.slice e)) (he:K.P.underlying e=some (.int .u8)) (hd:K.P.underlying d=some .string)
  (hx:co K.G x=some x') {y:AV} (hy:af (.wm x') env=some y):aJ K β H a w o y:=by
 simp only[af] at hy;have h:=hr.ev hx;have key:∀(ad:Option Addr) (n c:Nat) (t:List UInt8),a.eval x= .slice ad n c→(convert s d (.slice ad n c)).run K.P w= .ok (.string ⟨t.toArray⟩) w→aJ K β H a w o (.str t):=by
  intro ad n c t h1 h2;exact aJ.same (v:= .string ⟨t.toArray⟩) (by simp only[execOp,ho,h1,Sem.run_bind,h2,Result.andThen,Sem.run_pure]) (by simp[RV,NN]) Pv
 unfold sJ at hy;split at hy
 ·rename_i xs e1;rw[e1] at h;simp only[RV,NN] at h;obtain⟨t,ht,rfl⟩:=bR.1 hy;obtain⟨ad,c,h1,hn,hc,BU⟩:=h;refine key ad xs.length c t h1 ?_;cases ad with
  |none=>
   rw[run_convert_bytes_string w s d e none _ c hs he hd];rcases BU with h0|⟨b,o,sz,h2,_⟩
   ·have:xs=[]:=ye.1 h0;subst this;simp[jW] at ht;subst ht;simp[Conv.bytesToString];rfl
   cases h2
  |some ad=>
  rw[run_convert_bytes_string w s d e (some ad) _ c hs he hd];have np:∃ns:List Int,ns.length=xs.length∧ns.map (fun n=>UInt8.ofNat n.toNat)=t∧∀j n,ns[j]?=some n→w.cell? (ad.add j)=some (.int .u8 n):=by
   rcases BU with h0|⟨b,o,sz,h2,_,_,gm,ll⟩
   ·have:xs=[]:=ye.1 h0;subst this;simp[jW] at ht;subst ht;exact⟨[],rfl,rfl,N7⟩
   cases h2;have hz:xs=[]∨sz=1:=by
    cases xs with
    |nil=>exact .inl rfl
    |cons x r=>
    right;cases x with
    |int k n=>simp only[bH,fL] at ll;exact ll.1.1
    |_=>simp[jW] at ht
   obtain⟨ns,e1,e2,e3⟩:=mO xs t o ht ll hz;refine⟨ns,e1,e2,fun j n hj=> ?_⟩;have:=e3 j n hj;have CJ:(⟨b,o,none⟩:Addr).add j=⟨b,o+j,none⟩:=(by unfold Addr.add;split<;>simp_all);rw[←this,CJ]
  obtain⟨ns,e1,e2,e3⟩:=np;have hl:=run_loadCells_list (P:=K.P) w ad (ns.map (Value.int .u8)) (fun j v hj=>by
   rw[cn] at hj;obtain⟨n,hn,rfl⟩:=bR.1 hj;exact e3 j n hn)
  rw[bA,e1] at hl;rw[run_bytesToString w ad xs.length c ns hl,fold_push,e2];simp[show ByteArray.empty.data=#[] from rfl]
 ·rename_i e1;rw[e1] at h;simp only[RV] at h;obtain⟨ad,h1⟩:=h;simp only[di] at hy;subst hy;refine key ad 0 0 [] h1 ?_;rw[run_convert_bytes_string w s d e ad 0 0 hs he hd];cases ad with
  |none=>simp[Conv.bytesToString];rfl
  |some ad=>
  have hl:=run_loadCells_list (P:=K.P) w ad ([].map (Value.int .u8)) (fun j v hj=>by simp at hj);rw[run_bytesToString w ad 0 0 [] hl];rfl
 simp at hy
end

def bD {γ:Type} (f:Lb→γ) (l:Lb) (x:γ):Lb→γ:=fun l'=>if l'=l then x else f l'
@[simp] theorem gn {γ:Type} (f:Lb→γ) (l:Lb) (x:γ):bD f l x l=x:=by simp[bD]
theorem aq {γ:Type} (f:Lb→γ) {l l':Lb} (x:γ) (h:l'≠l):bD f l x l'=f l':=by simp[bD,h]
section
variable {K:Kx} {β:Lb→Option Nat} {env:Env} {H:Hp} {a:Act} {w:World}
def aH.YR (hr:aH K β env H a w) {l:Lb} {g:Nat} (hl:live H l) (hb:β l=some g):g<w.heap.size:=by
 obtain⟨r,lz⟩:=hl;obtain⟨_,_,h3⟩:=hr.rows l r lz;simp only[hb] at h3;obtain⟨cur,e,cap,h4,_⟩:=h3;exact(vN.1 h4).1
def sS {w:World} {g S:Nat} (h:jl w g=some S):g<w.heap.size:=by
 unfold jl at h;cases hg:w.heap[g]? with
 |none=>simp[hg] at h
 |some o=>exact(vN.1 hg).1
def aH.kill (hr:aH K β env H a w) (l:Lb) (hu:H l≠ .unused):aH K β env (bD H l .dead) a w:=by
 have aK:∀l',live (bD H l .dead) l'→live H l'∧l'≠l:=by
   intro l' ⟨r,h⟩
   by_cases e:l'=l
   · subst e;simp at h
   rw[aq _ _ e] at h;exact⟨⟨r,h⟩,e⟩
 have cX:∀ls,ND w w β β H (bD H l .dead) (Im K β H) (Im K β (bD H l .dead)) ls:=fun ls=>
   { im := fun k hk hs => ⟨⟨hk.1,fun l' kR => hk.2 l' (aK l' kR).1⟩,hs,rfl⟩
     lb:=fun l' _ kR=>⟨(aK l' kR).1,rfl,fun _ _ _ h=>h⟩}
 refine⟨hr.defers,hr.size,fun n=>RV.mono _ _ (cX _) (hr.N8 n),?_,fun l' g h=>hr.own l' g (aK l' h).1,fun l1 l2 g h1 h2=>hr.inj l1 l2 g (aK l1 h1).1 (aK l2 h2).1,?_,?_,hr.frame,?_,?_,fun l' g h=>hr.fr l' g (aK l' h).1⟩
 · intro l' r h
   have Vi:=(aK l' ⟨r,h⟩).2
   rw[aq _ _ Vi] at h
   obtain⟨h1,h2,h3⟩:=hr.rows l' r h
   refine⟨h1,h2,?_⟩
   cases hb:β l' with
   |none=>simpa[hb] using h3
   |some g=>
   simp only[hb] at h3 ⊢
   obtain⟨cur,e,cap,e1,e2,e3,e4,e5⟩:=h3
   exact⟨cur,e,cap,e1,e2,e3,e4,fun i j cs x hi hj=>let⟨v,k1,k2⟩:=e5 i j cs x hi hj;⟨v,k1,RV.mono _ _ (cX _) k2⟩⟩
 · intro n l' kR
   by_cases e:l'=l
   · subst e;simp
   rw[aq _ _ e];exact hr.eI n l' kR
 · intro l1 r h cs bV l' kR
   have Vi:=(aK l1 ⟨r,h⟩).2
   rw[aq _ _ Vi] at h
   by_cases e:l'=l
   · subst e;simp
   rw[aq _ _ e];exact hr.cH l1 r h cs bV l' kR
 · intro g cs hg
   obtain⟨h1,h2,h3⟩:=hr.W5 g cs hg
   exact⟨((cX []).im g h1 h2).1,h2,da.mono (cX []).toW4 h1 h2 h3⟩
 intro l' kR
 obtain⟨h1,h2⟩:=hr.gA l' kR
 refine⟨?_,fun h=>h2 (aK l' h).1⟩
 by_cases e:l'=l
 · subst e;simp
 rw[aq _ _ e];exact h1
def aH.OI (hr:aH K β env H a w) (l:Lb) (hu:H l= .unused) {r:Row} {w':World} (gw:iU w w') (b:Option Nat)
   (hb:∀g,b=some g→w.heap.size≤g) (hm:∀cs∈r.els,∀l'∈ah cs,H l'≠ .unused)
   (pT:ZE w' (bD β l b) (bD H l (.live r)) (Im K (bD β l b) (bD H l (.live r))) l r):aH K (bD β l b) env (bD H l (.live r)) a w':=by
 have aK:∀l',live (bD H l (.live r)) l'→l'≠l→live H l':=by
   intro l' ⟨r',h⟩ e
   rw[aq _ _ e] at h;exact⟨r',h⟩
 have cX:∀ls,(∀l'∈ls,H l'≠ .unused)→ND w w' β (bD β l b) H (bD H l (.live r)) (Im K β H) (Im K (bD β l b) (bD H l (.live r))) ls:=fun ls lr=>
   { im := fun k hk hs => ⟨⟨hk.1,fun l' kR => by
       by_cases e:l'=l
       · subst e
         simp only[gn]
         intro KM
         have:=hb k KM
         omega
       rw[aq _ _ e];exact hk.2 l' (aK l' kR e)⟩,Eb hs gw.size,gw.block k hs⟩
     lb:=fun l' CK kR=>by
       have e:l'≠l:=fun e=>lr l' CK (e▸hu)
       refine⟨aK l' kR e,aq _ _ e,fun g S _ hS=> ?_⟩
       unfold jl at *
       rwa[gw.block g (sS hS)]}
 have hold:∀l' r',l'≠l→H l'= .live r'→ZE w' (bD β l b) (bD H l (.live r)) (Im K (bD β l b) (bD H l (.live r))) l' r':=by
   intro l' r' e h
   obtain⟨h1,h2,h3⟩:=hr.rows l' r' h
   refine⟨h1,h2,?_⟩
   rw[aq _ _ e]
   cases zC:β l' with
   |none=>simpa[zC] using h3
   |some g=>
   simp only[zC] at h3 ⊢
   obtain⟨cur,e0,cap,e1,e2,e3,e4,e5⟩:=h3
   refine⟨cur,e0,cap,(gw.block g (vN.1 e1).1).trans e1,e2,e3,e4,fun i j cs x hi hj=> ?_⟩
   obtain⟨v,k1,k2⟩:=e5 i j cs x hi hj
   exact⟨v,k1,RV.mono _ _ (cX _ (fun q hq=>hr.cH l' r' h cs (dc hi) q (cW _ _ _ hj q hq))) k2⟩
 refine⟨hr.defers,hr.size,fun n=>RV.mono _ _ (cX _ (hr.eI n)) (hr.N8 n),?_,?_,?_,?_,?_,hr.frame.wD gw,?_,?_,?_⟩
 · intro l' r' h
   by_cases e:l'=l
   · subst e
     simp at h;subst h
     exact pT
   rw[aq _ _ e] at h
   exact hold l' r' e h
 · intro l' g h hg
   by_cases e:l'=l
   · subst e
     simp at hg
     exact .inr (D' hr.frame.size (hb g hg))
   rw[aq _ _ e] at hg
   exact hr.own l' g (aK l' h e) hg
 · intro l1 l2 g h1 h2 g1 g2
   by_cases e1:l1=l
   · by_cases e2:l2=l
     · rw[e1,e2]
     subst e1
     simp at g1
     rw[aq _ _ e2] at g2
     have:=hb g g1
     have:=hr.YR (aK l2 h2 e2) g2
     omega
   rw[aq _ _ e1] at g1
   by_cases e2:l2=l
   · subst e2
     simp at g2
     have:=hb g g2
     have:=hr.YR (aK l1 h1 e1) g1
     omega
   rw[aq _ _ e2] at g2
   exact hr.inj l1 l2 g (aK l1 h1 e1) (aK l2 h2 e2) g1 g2
 · intro n l' kR
   by_cases e:l'=l
   · subst e;simp
   rw[aq _ _ e];exact hr.eI n l' kR
 · intro l1 r1 h cs bV l' kR
   by_cases e:l'=l
   · subst e;simp
   rw[aq _ _ e]
   by_cases e1:l1=l
   · subst e1
     simp at h;subst h
     exact hm cs bV l' kR
   rw[aq _ _ e1] at h
   exact hr.cH l1 r1 h cs bV l' kR
 · intro g cs hg
   obtain⟨h1,h2,h3⟩:=hr.W5 g cs hg
   exact⟨((cX [] N7).im g h1 h2).1,Eb h2 gw.size,da.mono (cX [] N7).toW4 h1 h2 h3⟩
 · intro l' kR
   obtain⟨h1,h2⟩:=hr.gA l' kR
   have e:l'≠l:=fun e=>h1 (e▸hu)
   refine⟨by rw[aq _ _ e];exact h1,fun h=> ?_⟩
   rw[aq _ _ e];exact h2 (aK l' h e)
 intro l' g h hf hg
 by_cases e:l'=l
 · subst e
   simp at hg
   exact D' hr.frame.size (hb g hg)
 rw[aq _ _ e] at hg
 exact hr.fr l' g (aK l' h e) hf hg
def aH.relabel (hr:aH K β env H a w) (l l':Lb) {r:Row} (hl:H l= .live r) (hu:H l'= .unused) (hf:l'.fresh=true→l.fresh=true):aH K (bD β l' (β l)) env (bD (bD H l .dead) l' (.live r)) a w:=by
 have Vi:l≠l':=fun e=>by rw[e,hu] at hl;cases hl
 have aK:∀q,live (bD (bD H l .dead) l' (.live r)) q→q≠l'→live H q∧q≠l:=by
   intro q ⟨r',h⟩ e
   rw[aq _ _ e] at h
   by_cases e2:q=l
   · subst e2;simp at h
   rw[aq _ _ e2] at h;exact⟨⟨r',h⟩,e2⟩
 have cX:∀ls,(∀q∈ls,H q≠ .unused)→ND w w β (bD β l' (β l)) H (bD (bD H l .dead) l' (.live r)) (Im K β H) (Im K (bD β l' (β l)) (bD (bD H l .dead) l' (.live r))) ls:=fun ls lr=>
   { im := fun k hk hs => ⟨⟨hk.1,fun q hq => by
       by_cases e:q=l'
       · subst e
         simp only[gn]
         exact hk.2 l ⟨r,hl⟩
       rw[aq _ _ e];exact hk.2 q (aK q hq e).1⟩,hs,rfl⟩
     lb:=fun q hq oX=>by
       have e:q≠l':=fun e=>lr q hq (e▸hu)
       exact⟨(aK q oX e).1,aq _ _ e,fun _ _ _ h=>h⟩}
 have hold:∀q r',H q= .live r'→∀(b:Option Nat),b=β q→0<r'.sz∧(∀cs∈r'.els,cs.length=r'.sz) ∧
     match b with
     |none=>r'.els=[]
     |some g=>∃cur e cap,w.heap[g]?=some (.cells cur e (0,0))∧cur.size=cap*r'.sz∧cap≤maxLen∧r'.els.length≤cap ∧
         ∀i j cs x,r'.els[i]?=some cs→cs[j]?=some x→∃v,cur[i*r'.sz+j]?=some v∧RV w (bD β l' (β l)) (bD (bD H l .dead) l' (.live r)) (Im K (bD β l' (β l)) (bD (bD H l .dead) l' (.live r))) x v:=by
   intro q r' h b hb
   subst hb
   obtain⟨h1,h2,h3⟩:=hr.rows q r' h
   refine⟨h1,h2,?_⟩
   cases zC:β q with
   |none=>simpa[zC] using h3
   |some g=>
   simp only[zC] at h3 ⊢
   obtain⟨cur,e0,cap,e1,e2,e3,e4,e5⟩:=h3
   refine⟨cur,e0,cap,e1,e2,e3,e4,fun i j cs x hi hj=> ?_⟩
   obtain⟨v,k1,k2⟩:=e5 i j cs x hi hj
   exact⟨v,k1,RV.mono _ _ (cX _ (fun p hp=>hr.cH q r' h cs (dc hi) p (cW _ _ _ hj p hp))) k2⟩
 refine⟨hr.defers,hr.size,fun n=>RV.mono _ _ (cX _ (hr.eI n)) (hr.N8 n),?_,?_,?_,?_,?_,hr.frame,?_,?_,?_⟩
 · intro q r' h
   by_cases e:q=l'
   · subst e
     simp at h;subst h
     exact hold l r hl _ N7
   rw[aq _ _ e] at h
   by_cases e2:q=l
   · subst e2;simp at h
   rw[aq _ _ e2] at h
   exact hold q r' h _ (aq _ _ e)
 · intro q g h hg
   by_cases e:q=l'
   · subst e
     simp at hg
     exact hr.own l g ⟨r,hl⟩ hg
   rw[aq _ _ e] at hg
   exact hr.own q g (aK q h e).1 hg
 · intro l1 l2 g h1 h2 g1 g2
   by_cases e1:l1=l'
   · by_cases e2:l2=l'
     · rw[e1,e2]
     subst e1
     simp at g1
     rw[aq _ _ e2] at g2
     exact absurd (hr.inj l2 l g (aK l2 h2 e2).1 ⟨r,hl⟩ g2 g1) (aK l2 h2 e2).2
   rw[aq _ _ e1] at g1
   by_cases e2:l2=l'
   · subst e2
     simp at g2
     exact absurd (hr.inj l1 l g (aK l1 h1 e1).1 ⟨r,hl⟩ g1 g2) (aK l1 h1 e1).2
   rw[aq _ _ e2] at g2
   exact hr.inj l1 l2 g (aK l1 h1 e1).1 (aK l2 h2 e2).1 g1 g2
 · intro n q hq
   by_cases e:q=l'
   · subst e;simp
   rw[aq _ _ e]
   by_cases e2:q=l
   · subst e2;simp
   rw[aq _ _ e2];exact hr.eI n q hq
 · intro l1 r1 h cs bV q hq
   by_cases e:q=l'
   · subst e;simp
   rw[aq _ _ e]
   by_cases e2:q=l
   · subst e2;simp
   rw[aq _ _ e2]
   by_cases e1:l1=l'
   · subst e1
     simp at h;subst h
     exact hr.cH l r hl cs bV q hq
   rw[aq _ _ e1] at h
   by_cases e3:l1=l
   · subst e3;simp at h
   rw[aq _ _ e3] at h
   exact hr.cH l1 r1 h cs bV q hq
 · intro g cs hg
   obtain⟨h1,h2,h3⟩:=hr.W5 g cs hg
   exact⟨((cX [] N7).im g h1 h2).1,h2,da.mono (cX [] N7).toW4 h1 h2 h3⟩
 · intro q hq
   obtain⟨h1,h2⟩:=hr.gA q hq
   have e:q≠l':=fun e=>h1 (e▸hu)
   refine⟨?_,fun h=> ?_⟩
   · rw[aq _ _ e]
     by_cases e2:q=l
     · subst e2;simp
     rw[aq _ _ e2];exact h1
   rw[aq _ _ e];exact h2 (aK q h e).1
 intro q g h hq hg
 by_cases e:q=l'
 · subst e
   simp at hg
   exact hr.fr l g ⟨r,hl⟩ (hf hq) hg
 rw[aq _ _ e] at hg
 exact hr.fr q g (aK q h e).1 hq hg
def jt {w:World} {g:Nat} {cur cur':Array Value} {e:TypeId} {fr:Nat×Nat} (hg:w.heap[g]?=some (.cells cur e fr)) (hs:cur'.size=cur.size) (k S:Nat) (h:jl w k=some S) :
  jl (w.setRow g cur') k=some S:=by
 by_cases e:k=g
 ·subst e;unfold jl at *;rw[setRow_heap w k cur cur' _ fr hg];simp only[hg] at h;simp only[hs];exact h
 unfold jl at *
 rwa[setRow_other w g k cur' e]
def aH.setRow (hr:aH K β env H a w) (l:Lb) {r r':Row} {g:Nat} {cur cur':Array Value} {e:TypeId} {cap:Nat} (hl:H l= .live r) (hb:β l=some g)
   (hg:w.heap[g]?=some (.cells cur e (0,0))) (hs:cur'.size=cur.size) (gm:r'.sz=r.sz) (zD:cur.size=cap*r.sz) (qC:cap≤maxLen) (hlen:r'.els.length≤cap)
   (bV:∀cs∈r'.els,cs.length=r.sz) (hm:∀cs∈r'.els,∀l'∈ah cs,H l'≠ .unused)
   (hc:∀i j cs x,r'.els[i]?=some cs→cs[j]?=some x→∃v,cur'[i*r.sz+j]?=some v∧RV w β H (Im K β H) x v) :
   aH K β env (bD H l (.live r')) a (w.setRow g cur'):=by
 have aK:∀q,live (bD H l (.live r')) q↔live H q:=by
   intro q
   by_cases e:q=l
   · subst e;simp[live,hl]
   simp[live,aq _ _ e]
 have EN:∀k,Im K β (bD H l (.live r')) k↔Im K β H k:=by
   intro k
   simp only[Im,aK]
 have cX:∀ls,ND w (w.setRow g cur') β β H (bD H l (.live r')) (Im K β H) (Im K β (bD H l (.live r'))) ls:=fun ls=>
   { im := fun k hk FA => by
       have Vi:k≠g:=fun e=>hk.2 l ⟨r,hl⟩ (e▸hb)
       exact⟨(EN k).2 hk,by simpa[World.setRow] using FA,setRow_other w g k cur' Vi⟩
     lb:=fun q _ hq=>⟨(aK q).1 hq,rfl,fun g' S _ h=>jt hg hs g' S h⟩}
 refine⟨hr.defers,hr.size,fun n=>RV.mono _ _ (cX _) (hr.N8 n),?_,fun q g' h=>hr.own q g' ((aK q).1 h),fun l1 l2 g' h1 h2=>hr.inj l1 l2 g' ((aK l1).1 h1) ((aK l2).1 h2),?_,?_,?_,?_,?_,fun q g' h=>hr.fr q g' ((aK q).1 h)⟩
 · intro q r1 h
   by_cases e1:q=l
   · subst e1
     simp at h;subst h
     refine⟨by rw[gm];exact(hr.rows q r hl).1,by rw[gm];exact bV,?_⟩
     simp only[hb]
     refine⟨cur',e,cap,setRow_heap w g cur cur' e (0,0) hg,by rw[hs,zD,gm],qC,hlen,fun i j cs x hi hj=> ?_⟩
     obtain⟨v,k1,k2⟩:=hc i j cs x hi hj
     exact⟨v,by rw[gm];exact k1,RV.mono _ _ (cX _) k2⟩
   rw[aq _ _ e1] at h
   obtain⟨h1,h2,h3⟩:=hr.rows q r1 h
   refine⟨h1,h2,?_⟩
   cases zC:β q with
   |none=>simpa[zC] using h3
   |some g'=>
   simp only[zC] at h3 ⊢
   have Vi:g'≠g:=fun e=>e1 (hr.inj q l g ⟨r1,h⟩ ⟨r,hl⟩ (e▸zC) hb)
   obtain⟨Ib,e0,Ic,k1,k2,k3,k4,k5⟩:=h3
   refine⟨Ib,e0,Ic,(setRow_other w g g' cur' Vi).trans k1,k2,k3,k4,fun i j cs x hi hj=> ?_⟩
   obtain⟨v,j1,j2⟩:=k5 i j cs x hi hj
   exact⟨v,j1,RV.mono _ _ (cX _) j2⟩
 · intro n q hq
   by_cases e1:q=l
   · subst e1;simp
   rw[aq _ _ e1];exact hr.eI n q hq
 · intro l1 r1 h cs FB q hq
   by_cases e1:q=l
   · subst e1;simp
   rw[aq _ _ e1]
   by_cases e2:l1=l
   · subst e2
     simp at h;subst h
     exact hm cs FB q hq
   rw[aq _ _ e2] at h
   exact hr.cH l1 r1 h cs FB q hq
 · refine⟨hr.frame.os,hr.frame.tape,hr.frame.output,by simpa[World.setRow] using hr.frame.size,fun k hk hd=> ?_,fun k S hS=>jt hg hs k S (hr.frame.bs k S hS)⟩
   have Vi:k≠g:=by
     intro e1
     subst e1
     rcases hr.own l k ⟨r,hl⟩ hb with h1|h1
     · exact hd h1
     omega
   rw[setRow_other w g k cur' Vi]
   exact hr.frame.block k hk hd
 · intro k cs hk
   obtain⟨h1,h2,h3⟩:=hr.W5 k cs hk
   exact⟨((cX []).im k h1 h2).1,((cX []).im k h1 h2).2.1,da.mono (cX []).toW4 h1 h2 h3⟩
 intro q hq
 obtain⟨h1,h2⟩:=hr.gA q hq
 refine⟨?_,fun h=>h2 ((aK q).1 h)⟩
 by_cases e1:q=l
 · subst e1;simp
 rw[aq _ _ e1];exact h1
end
end Go.Am
