import Derived.WalkKit
set_option linter.unusedSimpArgs false
set_option linter.unusedVariables false
set_option linter.unnecessarySimpa false
set_option linter.defProp false
/- THE ABSTRACT MACHINE, part 1: abstract values, labelled rows, and what they say of a world. -/
namespace Go.Am
open Go Go.RowKit
def di:=@Option.some.injEq
def bR:=@Option.map_eq_some_iff
def dJ:=@Option.bind_eq_some_iff
def bS:=@List.getElem?_eq_getElem
def eS:=@Prod.mk.injEq
def de:=@Bool.and_eq_true
def bd:=@List.getElem?_eq_some_iff
def dc:=@List.mem_of_getElem?
def eQ:=@Option.bind_some
def eM:=@Nat.le_refl
def fj:=@Bool.not_false
def cY:=@if_neg
def eR:=@List.mem_append
def dU:=@List.mem_cons
def nY:=@Array.getD_eq_getD_getElem?
def eE:=@if_pos
def oe:=@List.getElem?_take
def eN:=@List.take_of_length_le
def dj:=@decide_eq_true_eq
def ib:=@Bool.not_true
def jy:=@Bool.false_eq_true
def py:=@Nat.mul_le_mul_right
def bT:=@Option.map_some
def bY:=@List.mem_singleton
def ko:=@List.length_append
def gL:=@List.length_cons
def kt:=@or_false
def wc:=@List.eq_nil_of_length_eq_zero
def ku:=@if_true
def vN:=@Array.getElem?_eq_some_iff
def b_:=@List.getElem?_append_right
def uQ:=@Nat.add_mul
def o2:=@List.map_cons
def nX:=@if_false
def eG:=@Int.natCast_nonneg
def yn:=@List.cons.injEq
def bX:=@Int.toNat_natCast
def pb:=@List.mem_map
def bB:=@List.getElem?_append_left
def ec:=@List.mem_of_mem_take
def yq:=@List.all_eq_true
def e7:=@List.not_mem_nil
def tO:=@List.take_append_drop
def tn:=@List.drop_zero
def bM:=@Nat.zero_add
def cn:=@List.getElem?_map
def yl:=@List.getElem?_of_mem
def zf:=@List.getD_eq_getElem?_getD
def ye:=@List.length_eq_zero_iff
def yp:=@List.map_congr_left
def tp:=@List.length_take
def yo:=@List.append_assoc
def Ba:=@List.getElem?_drop
def fJ:=@Nat.le_mul_of_pos_right
def ff:=@Array.getElem?_eq_getElem
def va:=@List.take_length
def Bb:=@Bool.eq_iff_iff
def yf:=@List.take_add_one
def ze:=@Nat.add_assoc
def rI:=@List.append_nil
def yg:=@List.length_nil
def Bf:=@Classical.byContradiction
def D_:=@Array.getElem?_toList
def dV:=@List.getElem?_eq_none
def Eb:=@Nat.lt_of_lt_of_le
def D5:=@decide_eq_false_iff_not
def yr:=@List.getElem?_cons_zero
def EG:=@Option.getD_some
def EH:=@List.mem_of_mem_drop
def yt:=@beq_iff_eq
def tk:=@true_and
def D':=@Nat.le_trans
def EJ:=@List.isPrefixOf_iff_prefix
def A7:=@List.drop_succ_cons
def Be:=@Bool.or_eq_true
def bA:=@List.length_map
def Gj:=@UInt8.le_iff_toNat_le
def BI:=@List.eq_of_mem_replicate
def Gz:=@Array.getElem?_setIfInBounds
def yd:=@Ne.symm
def D0:=@Bool.not_eq_true'
def Cj:=@List.take_succ_cons
def GF:=@List.mem_map_of_mem
def A8:=@beq_eq_false_iff_ne
def MS:=@List.length_replicate
def EK:=@List.drop_eq_getElem_cons
def zd:=@Nat.zero_le
def I7:=@List.contains_eq_mem
def Bc:=@List.flatMap_cons
def JF:=@Array.length_toList
def mb:=@List.append_eq_nil_iff
def I2:=@Nat.zero_mul
def nc:=@Nat.add_sub_cancel
def He:=@Option.isSome_iff_exists
def vI:=@List.getElem_mem
def MZ:=@Array.getElem?_replicate
def D7:=@List.map_nil
def M0:=@List.length_pos_iff
def Bw:=@List.foldl_cons
def Nb:=@List.size_toArray
def GH:=@Bool.false_and
def Nj:=@List.singleton_append
def GB:=@congrArg
def Nk:=@List.mem_cons_of_mem
def BH:=@List.length_drop
def Nl:=@Array.mem_toList_iff
def Ou:=@decide_eq_decide
def EI:=@Bool.or_eq_false_iff
def MT:=@Array.getElem?_append_left
def M4:=@Bool.true_and
def D9:=@List.mem_or_eq_of_mem_set
def A6:=@List.mem_filter
def M7:=@UInt8.toNat_inj
def kf:=@Nat.add_zero
def Nt:=@List.map_map
def kr:=@Nat.mul_comm
def JG:=@List.mem_range
def JO:=@List.drop_drop
def JE:=@List.getElem?_replicate
def M_:=@List.drop_eq_nil_of_le
def Ls:=@List.drop_of_length_le
def Nz:=@Array.toList_map
def NA:=@Array.all_eq_true_iff_forall_mem
def NH:=@UInt8.lt_iff_toNat_lt
def NO:=@List.takeWhile_append_dropWhile
def Gl:=@Nat.sub_self
def Bd:=@List.getElem?_set_ne
def NP:=@Nat.div_lt_of_lt_mul
def ov:=@Nat.min_eq_left
def M6:=@List.eq_nil_iff_forall_not_mem
def jk:=@List.pairwise_append
def Jb:=@List.nodup_cons
def A_:=@decide_true
def Mv:=@Option.toList_some
def fe:=@List.ext_getElem?
def N':=@List.getElem?_zip_eq_some
def N_:=@Nat.le_of_eq
def NS:=@Nat.sub_zero
def Ke:=@List.flatMap_nil
def M1:=@Int.eq_ofNat_of_zero_le
def GA:=@List.getElem?_cons_succ
def Oz:=@List.head?_drop
def OD:=@Option.some.inj
def OG:=@ByteArray.data_extract
def M8:=@Nat.one_mul
def A9:=@List.getElem?_set_self
def OH:=@Nat.mul_one
def Nc:=@List.set_append_right
def rY:=@List.tail_drop
def OJ:=@List.getElem?_toArray
def Lh:=@decide_eq_true
def NL:=@List.eq_nil_or_concat
def sd:=@bne_iff_ne
def se:=@Nat.add_le_add_right
def Oc:=@and_true
def OT:=@ByteArray.ext
def N4:=@Bool.false_or
def tG:=@List.flatMap_append
def Mt:=@Option.isSome_none
def tH:=@Array.toList_range
def Oa:=@Nat.add_comm
def Mu:=@List.pairwise_cons
def XG:=@decide_false
def O1:=@Function.comp_def
def Na:=@not_false_eq_true
def O6:=@Option.getD_none
def O7:=@Nat.mod_eq_of_lt
def Ob:=@List.mem_flatMap
def O8:=@List.isEmpty_iff
def BG:=@List.map_append
def vL:=@Nat.mod_lt
def O_:=@Nat.div_add_mod
def Pc:=@Int.natCast_mul
def NT:=@List.length_set
def Pf:=@UInt8.toNat.inj
def Ph:=@List.count_cons
def Ea:=@decide_eq_false
def Pe:=@eq_iff_iff
def Pj:=@Nat.le_max_left
def OM:=@dif_pos
def yW:=@List.getElem?_mapIdx
def JC:=@List.getElem?_set
def OL:=@Bool.and_eq_false_iff
def Xd:=@not_or
def Xf:=@List.isSuffixOf_iff_suffix
def qA:=@Bool.eq_false_iff
def pz:=@List.length_mapIdx
def Oe:=@List.foldlM_cons
def ON:=@Classical.choose_spec
def O0:=@List.mapIdx_append
def Pl:=@beq_self_eq_true
def Nr:=@List.take_left'
def A5:=@and_self
def zp:=@List.filter_cons
def E4:=@Decidable.byContradiction
def Gk:=@List.drop_append_of_le_length
def GG:=@List.flatMap_def
def JD:=@List.map_take
def M3:=@List.filter_cons_of_neg
def mc:=@List.filter_eq_nil_iff
def MX:=@List.set_eq_take_append_cons_drop
def MY:=@List.findIdx?_eq_some_iff_getElem
def D8:=@List.filter_append
def Nn:=@List.sum_cons
def ou:=@List.takeWhile_cons
def ow:=@List.getElem?_eq_none_iff
def Np:=@List.findIdx?_eq_none_iff
def Ns:=@List.drop_left'
def N2:=@List.find?_eq_none
def Ny:=@List.map_drop
def pI:=@List.take_append_of_le_length
def pJ:=@List.find?_eq_some_iff_append
def NV:=@Option.bind_eq_bind
def N0:=@Option.isSome_some
def N1:=@List.filter_filter
def N3:=@Nat.eq_of_mul_eq_mul_right
def N5:=@Nat.mul_assoc
def Nw:=@List.foldl_append
def Nx:=@List.filter_congr
def N6:=@List.any_eq_false
def Nh:=@List.map_set
def Of:=@List.drop_length
def O':=@List.any_eq_true
def Ov:=@List.filter_cons_of_pos
def OC:=@exists_eq_left'
def OA:=@ge_iff_le
def sc:=@List.foldl_nil
def sf:=@List.getLast?_concat
def NU:=@List.mem_of_getLast?
def OU:=@Bool.and_true
def OV:=@List.drop_set_of_lt
def OZ:=@Nat.pow_succ
def Nu:=@gt_iff_lt
def Pb:=@Nat.min_le_left
def Pd:=@List.set_append
def vU:=@List.filter_nil
def OK:=@List.take_zero
def Ni:=@Bool.and_false
def Nv:=@List.mem_range'_1
def NK:=@ite_false
def Om:=@List.range'_succ
def OQ:=@List.range_eq_range'
def OR:=@List.count_le_length
def OS:=@ite_true
def OW:=@List.filter_eq_self
def OX:=@List.replicate_zero
def OY:=@List.replicate_succ
def O2:=@Int.le_refl
def la:=@List.getElem?_range
def Pk:=@Bool.and_self
def tM {p:Prop} (h:p:=by omega):p:=h
def N7 {p:Prop} (h:p:=by simp):p:=h
def Pq {p:Prop} (h:p:=by simp only;omega):p:=h
def Pr {p:Prop} (h:p:=by decide):p:=h
def PD {p:Prop} (h:p:=by repeat' constructor):p:=h
def PJ {p:Prop} (h:p:=by simp;omega):p:=h
def P3 {p:Prop} (h:p:=by decide +kernel):p:=h
def Qd {p:Prop} (h:p:=by simp[Builtin.lenOf]):p:=h
def Qu {p:Prop} (h:p:=by simp[List.isPrefixOf]):p:=h
inductive Lb where
 |loc (n:Nat)
 |par (n:Nat)
 |gen (n:Nat)
 |nest (l:Lb) (i j:Nat)
 deriving DecidableEq
def Lb.fresh:Lb→Bool
 | .loc _=>true
 | .nest l _ _=>l.fresh
 |_=>false
def Qc {p:Prop} (h:p:=by simp[Lb.fresh]):p:=h
def Lb.entry:Lb→Bool
 | .par _=>true
 |_=>false
def Lb.Og {l:Lb} (h:l.entry=true):l.fresh=false:=by
 cases l<;>simp_all[Lb.entry,Lb.fresh]
def Lb.iQ:Lb→Lb
 | .nest l _ j=> .nest l 0 j
 |l=>l
def P' {p:Prop} (h:p:=by simp[Lb.iQ]):p:=h
def aj' (n:Nat):(Lb.loc n).iQ= .loc n:=rfl
def pL (n:Nat):(Lb.par n).iQ= .par n:=rfl
def acG (n:Nat):(Lb.gen n).iQ= .gen n:=rfl
def qJ (l:Lb) (i j:Nat):(Lb.nest l i j).iQ= .nest l 0 j:=rfl
def Lb.app (l:Lb) (d:Nat):Lb:=if l.fresh then .loc d else .gen d
def PO {p:Prop} (h:p:=by simp[Lb.app,Lb.fresh]):p:=h
def Lb.fR (l:Lb) (d:Nat) (h:(l.app d).fresh=true):l.fresh=true:=by
 unfold Lb.app at h;split at h
 ·assumption
 simp[Lb.fresh] at h
inductive IV where
 |bool (b:Bool)
 |int (k:IntKind) (n:Int)
 |str (s:List UInt8)
 |list (xs:List IV)
 |agg (cs:List IV)
 |ifc (t:Nat)
def IV.cells:IV→List IV
 | .agg cs=>cs
 |x=>[x]
def PX {p:Prop} (h:p:=by simp[IV.cells]):p:=h
inductive AV where
 |any
 |un
 |bool (b:Bool)
 |int (k:IntKind) (n:Int)
 |str (s:List UInt8)
 |list (xs:List IV)
 |nil0
 |jK
 |iT
 |agg (cs:List AV)
 |gf (cs:List AV)
 |sl (l:Lb) (sz i n:Nat)
 |slk (l:Lb) (sz i n c:Nat)
 |ptr (l:Lb) (sz i j:Nat)
 |lptr (cs:List IV)
 |fn (f:Nat) (first cap:List AV)
 |ifc (t:Nat) (x:AV)
 |mis (es:List (Int×List UInt8))
def IV.dQ:IV→AV
 | .bool b=> .bool b
 | .int k n=> .int k n
 | .str s=> .str s
 | .list xs=> .list xs
 | .agg _=> .any
 | .ifc t=> .ifc t .any
def IV.av:IV→AV
 | .agg cs=> .agg (cs.map IV.dQ)
 |x=>x.dQ
structure Row where
 sz:Nat
 els:List (List AV)
inductive Slot where
 |unused
 |dead
 |live (r:Row)
abbrev Hp:=Lb→Slot
abbrev Env:=Nat→AV
def live (H:Hp) (l:Lb):Prop:=∃r,H l= .live r
def jl (w:World) (k:Nat):Option Nat:=
 match w.heap[k]? with
 |some (.cells c _ _)=>some c.size
 |_=>none
def Cr (w:World) (Im:Nat→Prop) (n:Nat) (els:Nat→Nat→Nat→Prop) (v:Value):Prop:=
 ∃a c,v= .slice a n c∧n≤c∧c≤maxLen ∧
  (n=0∨∃b o sz,a=some ⟨b,o,none⟩∧Im b∧b<w.heap.size∧0<sz∧els b o sz)
mutual
def NN (w:World) (Im:Nat→Prop):IV→Value→Prop
 | .bool b,v=>v= .bool b
 | .int k n,v=>v= .int k n
 | .str s,v=>v= .string ⟨s.toArray⟩
 | .list xs,v=>Cr w Im xs.length (fun b o sz=>bH w Im xs b o sz) v
 | .agg _,_=>False
 | .ifc t,v=>∃u,v= .iface t u
def bK (w:World) (Im:Nat→Prop):List IV→Nat→Nat→Prop
 |[],_,_=>True
 |x::r,b,o=>(∃v,w.cell? ⟨b,o,none⟩=some v∧NN w Im x v)∧bK w Im r b (o+1)
def fL (w:World) (Im:Nat→Prop):IV→Nat→Nat→Nat→Prop
 | .agg cs,b,o,sz=>sz=cs.length∧bK w Im cs b o
 | .bool x,b,o,sz=>sz=1∧∃v,w.cell? ⟨b,o,none⟩=some v∧v= .bool x
 | .int k n,b,o,sz=>sz=1∧∃v,w.cell? ⟨b,o,none⟩=some v∧v= .int k n
 | .str s,b,o,sz=>sz=1∧∃v,w.cell? ⟨b,o,none⟩=some v∧v= .string ⟨s.toArray⟩
 | .list xs,b,o,sz=>sz=1∧∃v,w.cell? ⟨b,o,none⟩=some v∧Cr w Im xs.length (fun b o sz=>bH w Im xs b o sz) v
 | .ifc t,b,o,sz=>sz=1∧∃v,w.cell? ⟨b,o,none⟩=some v∧∃u,v= .iface t u
def bH (w:World) (Im:Nat→Prop):List IV→Nat→Nat→Nat→Prop
 |[],_,_,_=>True
 |x::r,b,o,sz=>fL w Im x b o sz∧bH w Im r b (o+sz) sz
end
def eH (w:World) (Im:Nat→Prop) (x:IV) (b o sz:Nat):fL w Im x b o sz↔sz=x.cells.length∧bK w Im x.cells b o:=by
 cases x<;>simp[fL,IV.cells,bK,NN]
structure W4 (w w':World) (Im kA:Nat→Prop):Prop where
 im:∀k,Im k→k<w.heap.size→kA k∧k<w'.heap.size∧w'.heap[k]?=w.heap[k]?
def Cr.mono {w w':World} {Im kA:Nat→Prop} (h:W4 w w' Im kA) {n:Nat} {e e':Nat→Nat→Nat→Prop}
  (he:∀b o sz,Im b→b<w.heap.size→e b o sz→e' b o sz) {v:Value} (hv:Cr w Im n e v):Cr w' kA n e' v:=by
 obtain⟨a,c,h1,h2,h3,h4⟩:=hv;refine⟨a,c,h1,h2,h3,h4.imp id ?_⟩;rintro⟨b,o,sz,e1,e2,e3,e4,e5⟩;obtain⟨k1,k2,_⟩:=h.im b e2 e3;exact⟨b,o,sz,e1,k1,k2,e4,he _ _ _ e2 e3 e5⟩
def gK {w w':World} {b o:Nat} (h:w'.heap[b]?=w.heap[b]?):w'.cell? ⟨b,o,none⟩=w.cell? ⟨b,o,none⟩:=
 World.cell?_of_block (w:=w) (a:=⟨b,o,none⟩) h
mutual
theorem NN.mono {w w':World} {Im kA:Nat→Prop} (h:W4 w w' Im kA):∀(x:IV) (v:Value),NN w Im x v→NN w' kA x v
 | .bool b,v,hv=>by simpa[NN] using hv
 | .int k n,v,hv=>by simpa[NN] using hv
 | .str s,v,hv=>by simpa[NN] using hv
 | .list xs,v,hv=>by
  simp only[NN] at hv ⊢;exact Cr.mono h (fun b o sz hb hs he=>bH.mono h xs b o sz hb hs he) hv
 | .agg _,v,hv=>by simp[NN] at hv
 | .ifc t,v,hv=>by simpa[NN] using hv
theorem bK.mono {w w':World} {Im kA:Nat→Prop} (h:W4 w w' Im kA):∀(xs:List IV) (b o:Nat),Im b→b<w.heap.size→bK w Im xs b o→bK w' kA xs b o
 |[],_,_,_,_,_=>by simp[bK]
 |x::r,b,o,hb,hs,hv=>by
  simp only[bK] at hv ⊢;obtain⟨⟨v,h1,h2⟩,h3⟩:=hv;obtain⟨_,_,k3⟩:=h.im b hb hs;exact⟨⟨v,(gK k3).trans h1,NN.mono h x v h2⟩,bK.mono h r b (o+1) hb hs h3⟩
theorem fL.mono {w w':World} {Im kA:Nat→Prop} (h:W4 w w' Im kA):∀(x:IV) (b o sz:Nat),Im b→b<w.heap.size→fL w Im x b o sz→fL w' kA x b o sz
 | .agg cs,b,o,sz,hb,hs,hv=>by
  simp only[fL] at hv ⊢;exact⟨hv.1,bK.mono h cs b o hb hs hv.2⟩
 | .bool x,b,o,sz,hb,hs,hv=>by
  simp only[fL] at hv ⊢;obtain⟨h0,v,h1,h2⟩:=hv;exact⟨h0,v,(gK (h.im b hb hs).2.2).trans h1,h2⟩
 | .int k n,b,o,sz,hb,hs,hv=>by
  simp only[fL] at hv ⊢;obtain⟨h0,v,h1,h2⟩:=hv;exact⟨h0,v,(gK (h.im b hb hs).2.2).trans h1,h2⟩
 | .str s,b,o,sz,hb,hs,hv=>by
  simp only[fL] at hv ⊢;obtain⟨h0,v,h1,h2⟩:=hv;exact⟨h0,v,(gK (h.im b hb hs).2.2).trans h1,h2⟩
 | .ifc t,b,o,sz,hb,hs,hv=>by
  simp only[fL] at hv ⊢;obtain⟨h0,v,h1,h2⟩:=hv;exact⟨h0,v,(gK (h.im b hb hs).2.2).trans h1,h2⟩
 | .list xs,b,o,sz,hb,hs,hv=>by
  simp only[fL] at hv ⊢;obtain⟨h0,v,h1,h2⟩:=hv;exact⟨h0,v,(gK (h.im b hb hs).2.2).trans h1,Cr.mono h (fun b o sz hb hs he=>bH.mono h xs b o sz hb hs he) h2⟩
theorem bH.mono {w w':World} {Im kA:Nat→Prop} (h:W4 w w' Im kA):∀(xs:List IV) (b o sz:Nat),Im b→b<w.heap.size→bH w Im xs b o sz→bH w' kA xs b o sz
 |[],_,_,_,_,_,_=>by simp[bH]
 |x::r,b,o,sz,hb,hs,hv=>by
  simp only[bH] at hv ⊢;exact⟨fL.mono h x b o sz hb hs hv.1,bH.mono h r b (o+sz) sz hb hs hv.2⟩
end
def aok (w:World) (Im:Nat→Prop) (es:List (Int×List UInt8)) (v:Value):Prop:=
 ∃r xs c,v= .map (some r)∧Im r∧r<w.heap.size∧w.heap[r]?=some (.map xs c)∧xs.toList.map (fun e=>(e.key,e.val))=es.map fun p=>(Value.int .i64 p.1,Value.string ⟨p.2.toArray⟩)
def aok.mono {w w':World} {Im kA:Nat→Prop} (h:W4 w w' Im kA) {es:List (Int×List UInt8)} {v:Value} (hv:aok w Im es v):aok w' kA es v:=by
 obtain⟨r,xs,c,h1,h2,h3,h4,h5⟩:=hv;obtain⟨k1,k2,k3⟩:=h.im r h2 h3;exact⟨r,xs,c,h1,k1,k2,k3.trans h4,h5⟩
def zq (w:World) (β:Lb→Option Nat) (l:Lb) (sz i c:Nat) (a:Option Addr):Prop:=
 c=0∨∃g S,β l=some g∧a=some ⟨g,i*sz,none⟩∧jl w g=some S∧(i+c)*sz=S
mutual
def RV (w:World) (β:Lb→Option Nat) (H:Hp) (Im:Nat→Prop):AV→Value→Prop
 | .any,_=>True
 | .un,v=>v=undef
 | .bool b,v=>v= .bool b
 | .int k n,v=>v= .int k n
 | .str s,v=>v= .string ⟨s.toArray⟩
 | .list xs,v=>NN w Im (.list xs) v
 | .nil0,v=>∃a,v= .slice a 0 0
 | .jK,v=>v= .pointer none
 | .iT,v=>v= .nilIface
 | .agg cs,v=>∃vs:List Value,v= .agg vs.toArray∧br w β H Im cs vs
 | .gf cs,v=>∃vs:List Value,v= .tuple vs.toArray∧br w β H Im cs vs
 | .sl l sz i n,v=>∃a c,v= .slice a n c∧n≤c∧c≤maxLen∧(0<n→a.isSome=true)∧(live H l→zq w β l sz i c a)
 | .slk l sz i n c,v=>∃a,v= .slice a n c∧n≤c∧c≤maxLen∧(0<c→a.isSome=true)∧(live H l→zq w β l sz i c a)
 | .ptr l sz i j,v=>∃a,v= .pointer (some a)∧(live H l→∃g,β l=some g∧a=⟨g,i*sz+j,none⟩)
 | .lptr cs,v=>∃b o,v= .pointer (some ⟨b,o,none⟩)∧Im b∧b<w.heap.size∧bK w Im cs b o
 | .fn f fs cs,v=>∃vs us:List Value,v= .func (.func f) vs.toArray us.toArray∧br w β H Im fs vs∧br w β H Im cs us
 | .ifc t x,v=>∃u,v= .iface t u∧RV w β H Im x u
 | .mis es,v=>aok w Im es v
def br (w:World) (β:Lb→Option Nat) (H:Hp) (Im:Nat→Prop):List AV→List Value→Prop
 |[],vs=>vs=[]
 |x::r,vs=>∃v us,vs=v::us∧RV w β H Im x v∧br w β H Im r us
end
def PT {p:Prop} (h:p:=by simp[RV]):p:=h
def QK {p:Prop} (h:p:=by simp[br]):p:=h
mutual
def AV.an:AV→List Lb
 | .sl l _ _ _=>[l]
 | .slk l _ _ _ _=>[l]
 | .ptr l _ _ _=>[l]
 | .agg cs=>ah cs
 | .gf cs=>ah cs
 | .fn _ fs cs=>ah fs++ah cs
 | .ifc _ x=>x.an
 |_=>[]
def ah:List AV→List Lb
 |[]=>[]
 |x::r=>x.an++ah r
end
def Pv {p:Prop} (h:p:=by simp[AV.an]):p:=h
def PC {p:Prop} (h:p:=by simp[ah,AV.an]):p:=h
def PK {p:Prop} (h:p:=by simp[AV.an,ah]):p:=h
structure ND (w w':World) (β β':Lb→Option Nat) (H H':Hp) (Im kA:Nat→Prop) (ls:List Lb):Prop extends W4 w w' Im kA where
 lb:∀l∈ls,live H' l→live H l∧β' l=β l∧∀g S,β l=some g→jl w g=some S→jl w' g=some S
def ND.sub {w w':World} {β β':Lb→Option Nat} {H H':Hp} {Im kA:Nat→Prop} {ls E':List Lb} (h:ND w w' β β' H H' Im kA ls) (hs:∀l∈E',l∈ls) :
 ND w w' β β' H H' Im kA E':=⟨h.toW4,fun l hl=>h.lb l (hs l hl)⟩
mutual
theorem RV.mono {w w':World} {β β':Lb→Option Nat} {H H':Hp} {Im kA:Nat→Prop}:∀(x:AV) (v:Value),ND w w' β β' H H' Im kA x.an→RV w β H Im x v→RV w' β' H' kA x v
 | .any,_,_,_=>by simp[RV]
 | .un,_,_,hv=>by simpa[RV] using hv
 | .bool _,_,_,hv=>by simpa[RV] using hv
 | .int _ _,_,_,hv=>by simpa[RV] using hv
 | .str _,_,_,hv=>by simpa[RV] using hv
 | .nil0,_,_,hv=>by simpa[RV] using hv
 | .jK,_,_,hv=>by simpa[RV] using hv
 | .iT,_,_,hv=>by simpa[RV] using hv
 | .list xs,v,h,hv=>by simp only[RV] at hv ⊢;exact NN.mono h.toW4 _ _ hv
 | .agg cs,v,h,hv=>by
  simp only[RV] at hv ⊢;obtain⟨vs,rfl,h1⟩:=hv;exact⟨vs,rfl,br.mono cs vs (by simpa[AV.an] using h) h1⟩
 | .gf cs,v,h,hv=>by
  simp only[RV] at hv ⊢;obtain⟨vs,rfl,h1⟩:=hv;exact⟨vs,rfl,br.mono cs vs (by simpa[AV.an] using h) h1⟩
 | .sl l sz i n,v,h,hv=>by
  simp only[RV] at hv ⊢;obtain⟨a,c,h1,h2,h3,h4,h5⟩:=hv;refine⟨a,c,h1,h2,h3,h4,fun hl=> ?_⟩;obtain⟨k1,k2,k3⟩:=h.lb l Pv hl;rcases h5 k1 with h6|⟨g,S,e1,e2,e3,e4⟩
  ·exact .inl h6
  exact .inr ⟨g,S,k2.trans e1,e2,k3 g S e1 e3,e4⟩
 | .slk l sz i n c,v,h,hv=>by
  simp only[RV] at hv ⊢;obtain⟨a,h1,h2,h3,h4,h5⟩:=hv;refine⟨a,h1,h2,h3,h4,fun hl=> ?_⟩;obtain⟨k1,k2,k3⟩:=h.lb l Pv hl;rcases h5 k1 with h6|⟨g,S,e1,e2,e3,e4⟩
  ·exact .inl h6
  exact .inr ⟨g,S,k2.trans e1,e2,k3 g S e1 e3,e4⟩
 | .ptr l sz i j,v,h,hv=>by
  simp only[RV] at hv ⊢;obtain⟨a,h1,h2⟩:=hv;refine⟨a,h1,fun hl=> ?_⟩;obtain⟨k1,k2,k3⟩:=h.lb l Pv hl;obtain⟨g,e1,e2⟩:=h2 k1;exact⟨g,k2.trans e1,e2⟩
 | .lptr cs,v,h,hv=>by
  simp only[RV] at hv ⊢;obtain⟨b,o,h1,h2,h3,h4⟩:=hv;obtain⟨k1,k2,_⟩:=h.im b h2 h3;exact⟨b,o,h1,k1,k2,bK.mono h.toW4 cs b o h2 h3 h4⟩
 | .fn f fs cs,v,h,hv=>by
  simp only[RV] at hv ⊢;obtain⟨vs,us,rfl,h1,h2⟩:=hv;exact⟨vs,us,rfl,br.mono fs vs (h.sub (by simp[AV.an];intro l hl;exact .inl hl)) h1,br.mono cs us (h.sub (by simp[AV.an];intro l hl;exact .inr hl)) h2⟩
 | .ifc t x,v,h,hv=>by
  simp only[RV] at hv ⊢;obtain⟨u,rfl,h1⟩:=hv;exact⟨u,rfl,RV.mono x u (by simpa[AV.an] using h) h1⟩
 | .mis es,v,h,hv=>by simp only[RV] at hv ⊢;exact aok.mono h.toW4 hv
theorem br.mono {w w':World} {β β':Lb→Option Nat} {H H':Hp} {Im kA:Nat→Prop}:∀(xs:List AV) (vs:List Value),ND w w' β β' H H' Im kA (ah xs)→br w β H Im xs vs→br w' β' H' kA xs vs
 |[],_,_,hv=>by simpa[br] using hv
 |x::r,vs,h,hv=>by
  simp only[br] at hv ⊢;obtain⟨v,us,rfl,h1,h2⟩:=hv;exact⟨v,us,rfl,RV.mono x v (h.sub (by simp[ah];intro l hl;exact .inl hl)) h1,br.mono r us (h.sub (by simp[ah];intro l hl;exact .inr hl)) h2⟩
end
def ZE (w:World) (β:Lb→Option Nat) (H:Hp) (Im:Nat→Prop) (l:Lb) (r:Row):Prop:=
 0<r.sz∧(∀cs∈r.els,cs.length=r.sz) ∧
 match β l with
 |none=>r.els=[]
 |some g=>∃cur e cap,w.heap[g]?=some (.cells cur e (0,0))∧cur.size=cap*r.sz∧cap≤maxLen∧r.els.length≤cap ∧
  ∀i j cs x,r.els[i]?=some cs→cs[j]?=some x→∃v,cur[i*r.sz+j]?=some v∧RV w β H Im x v
def da (w:World) (Im:Nat→Prop) (cs:List IV) (g:Nat):Prop:=bK w Im cs g 0∧jl w g=some cs.length
def da.mono {w w':World} {Im kA:Nat→Prop} (h:W4 w w' Im kA) {cs:List IV} {g:Nat} (hb:Im g) (hs:g<w.heap.size) (hg:da w Im cs g):da w' kA cs g:=
 ⟨bK.mono h cs g 0 hb hs hg.1,by unfold jl;rw[(h.im g hb hs).2.2];exact hg.2⟩
end Go.Am

namespace Go.Am
open Go Go.RowKit
inductive O where
 |t (n:Nat)
 |c (x:AV)
def ev (env:Env):O→AV
 | .t n=>env n
 | .c x=>x
inductive Kd where
 |b|i|s
 deriving DecidableEq
inductive U7 where
 |iC (x:O)
 |pick (c a b:O)
 |wj (a:O) (off:Nat)
 |Vc (x i:O) (sz:Nat)
 |lj (x i:O)
 |len (x:O)
 |lens (x:O)
 |zr (x:O) (lo hi mx:Option O) (sz:Nat)
 |ZL (x:O) (lo hi:Option O)
 |bin (op:BinOp) (x y:O)
 |eqb (neg:Bool) (x y:O)
 |zu (neg:Bool) (x y:O)
 |zv (neg:Bool) (x y:O)
 |pM (neg:Bool) (ks:List Kd) (x y:O)
 |not (x:O)
 |neg (x:O)
 |max (x y:O)
 |min (x y:O)
 |ext (x:O) (i:Nat)
 |sg (z:List AV) (ps:List (Nat×Nat×O))
 |pN (x:O) (off:Nat) (m:Option Nat)
 |lits (n sz:Nat) (z:List AV) (ps:List (Nat×O))
 |oC (x:O)
 |dp (x:O)
 |stuck
 |zw (f:Nat) (cap:List O)
 |qK (k:IntKind) (x:O)
 |YJ (x:O)
 |zg (x:O)
 |wm (x:O)
 |pO (t:Nat) (x:O)
 |load (m:Option Nat) (a:O)
 |box (x:O)
 |new (cs:List AV)
 |tU (n c:O) (sz bytes:Nat) (z:List AV)
 |store (m:Nat) (a x:O)
 |app (s x:O) (sz bytes:Nat)
 |qL (s x:O) (sz:Nat)
 |call (f:Nat) (args:List O)
 |fM (x:O) (args:List O)
 |BJ (neg:Bool) (x:O)
 |wC (x i:O) (n sz:Nat)
 |cap (x:O)
 |si (x:O) (sz:Nat) (z:List AV)
 |kE (f:Nat) (args:List O)
 |oD (x:O) (n sz:Nat)
 |oE (s x:O) (sz bytes:Nat)
 |pP (s n:O) (sz bytes:Nat) (z:List AV)
 |zh (f:Nat) (first cs:List O)
 |gG (sz:Nat) (z:List AV) (ps:List (Nat×O))
 |qM (es:List (Int×List UInt8))
 |sy (x i:O)
structure bh where
 d:Option Nat
 g:Option (Nat×Bool)
 i:U7
abbrev aQ (k:Nat) (i:U7):bh:=⟨some k,none,i⟩
abbrev MR (k j:Nat):bh:=⟨some k,none, .iC (.t j)⟩
abbrev fm (k j:Nat):bh:=⟨some k,none, .load none (.t j)⟩
abbrev ep (k j n:Nat):bh:=⟨some k,none, .wj (.t j) n⟩
abbrev gg (i:U7):bh:=⟨none,none,i⟩
abbrev dW (k j:Nat) (i:U7):bh:=⟨some k,some (j,true),i⟩
abbrev iR (k j:Nat) (i:U7):bh:=⟨some k,some (j,false),i⟩
abbrev jS (n:Int):O:= .c (.int .i64 n)
abbrev me (n:Bool):O:= .c (.bool n)
abbrev et (k:Nat) (b:BinOp) (i j:Nat):bh:=⟨some k,none, .bin b (.t i) (.t j)⟩
abbrev eY (k:Nat) (b:BinOp) (i:Nat) (c:Int):bh:=⟨some k,none, .bin b (.t i) (.c (.int .i64 c))⟩
abbrev gz (k n j:Nat):bh:=⟨some k,none, .load (some n) (.t j)⟩
abbrev jL (k i j n:Nat):bh:=⟨some k,none, .Vc (.t i) (.t j) n⟩
abbrev jT (k i j:Nat):bh:=⟨some k,none, .pick (.t i) (.t j) (.c (.bool false))⟩
abbrev sj (k i j:Nat):bh:=⟨some k,none, .pick (.t i) (.c (.bool true)) (.t j)⟩
abbrev gH (k:Nat) (c:Int):bh:=⟨some k,none, .iC (.c (.int .i64 c))⟩
abbrev jM (k:Nat) (c:Bool):bh:=⟨some k,none, .iC (.c (.bool c))⟩
abbrev ox (k j n:Nat):bh:=⟨some k,none, .ext (.t j) n⟩
abbrev oy (k j:Nat):bh:=⟨some k,none, .len (.t j)⟩
abbrev oF (k j:Nat):bh:=⟨some k,none, .lens (.t j)⟩
abbrev sB (k j:Nat):bh:=⟨some k,none, .not (.t j)⟩
abbrev zzX (k j:Nat):bh:=⟨some k,none, .box (.t j)⟩
abbrev zi (k:Nat):bh:=⟨some k,none, .iC (.c .nil0)⟩
abbrev cU (k g j:Nat):bh:=⟨some k,some (g,true), .iC (.t j)⟩
abbrev gV (k g j:Nat):bh:=⟨some k,some (g,false), .iC (.t j)⟩
abbrev jm (k g j:Nat):bh:=⟨some k,some (g,true), .load none (.t j)⟩
abbrev oG (k g j:Nat):bh:=⟨some k,some (g,false), .load none (.t j)⟩
abbrev Wb (k g j n:Nat):bh:=⟨some k,some (g,true), .wj (.t j) n⟩
abbrev oH (k g j n:Nat):bh:=⟨some k,some (g,false), .wj (.t j) n⟩
structure Kx where
 P:Program
 G:Nat→Option (List IV)
 w0:World
 A:Nat→Prop
 D:Nat→Prop
 N:Nat
 H0:Hp
 β0:Lb→Option Nat
def Im (K:Kx) (β:Lb→Option Nat) (H:Hp) (k:Nat):Prop:=(K.A k∨K.w0.heap.size≤k)∧∀l,live H l→β l≠some k
structure Hf (D:Nat→Prop) (w0 w:World):Prop where
 os:w.os=w0.os
 tape:w.tape=w0.tape
 output:w.output=w0.output
 size:w0.heap.size≤w.heap.size
 block:∀k,k<w0.heap.size→¬D k→w.heap[k]?=w0.heap[k]?
 bs:∀k S,jl w0 k=some S→jl w k=some S
structure aH (K:Kx) (β:Lb→Option Nat) (env:Env) (H:Hp) (a:Act) (w:World):Prop where
 defers:a.defers=[]
 size:a.tmps.size=K.N
 N8:∀n,RV w β H (Im K β H) (env n) (a.tmps.getD n undef)
 rows:∀l r,H l= .live r→ZE w β H (Im K β H) l r
 own:∀l g,live H l→β l=some g→(K.D g∨K.w0.heap.size≤g)
 inj:∀l l' g,live H l→live H l'→β l=some g→β l'=some g→l=l'
 eI:∀n,∀l∈(env n).an,H l≠ .unused
 cH:∀l r,H l= .live r→∀cs∈r.els,∀l'∈ah cs,H l'≠ .unused
 frame:Hf K.D K.w0 w
 W5:∀g cs,K.G g=some cs→Im K β H g∧g<w.heap.size∧da w (Im K β H) cs g
 gA:∀l,live K.H0 l→H l≠ .unused∧(live H l→β l=K.β0 l)
 fr:∀l g,live H l→l.fresh=true→β l=some g→K.w0.heap.size≤g
def put (env:Env) (d:Nat) (x:AV):Env:=fun n=>if n=d then x else env n
def cV (env:Env):Option Nat→AV→Env
 |some d,x=>put env d x
 |none,_=>env
abbrev iU (w w':World):Prop:=Below w.heap.size w w'
def iU.nz {w w':World} (h:iU w w') (β:Lb→Option Nat) (H:Hp) (I:Nat→Prop) (ls:List Lb):ND w w' β β H H I I ls where
 im k hk hs:=⟨hk,Eb hs h.size,h.block k hs⟩
 lb l _ hl:=⟨hl,rfl,fun g S _ hS=>by
  unfold jl at *;have:g<w.heap.size:=by
   cases hg:w.heap[g]? with
   |none=>simp[hg] at hS
   |some o=>exact(vN.1 hg).1
  rwa[h.block g this]⟩
def ZE.wD {w w':World} (h:iU w w') {β:Lb→Option Nat} {H:Hp} {I:Nat→Prop} {l:Lb} {r:Row} (hr:ZE w β H I l r):ZE w' β H I l r:=by
 obtain⟨h1,h2,h3⟩:=hr;refine⟨h1,h2,?_⟩;cases hb:β l with
 |none=>simpa[hb] using h3
 |some g=>
 simp only[hb] at h3 ⊢;obtain⟨cur,e,cap,e1,e2,e3,e4,e5⟩:=h3;have hg:g<w.heap.size:=(vN.1 e1).1;refine⟨cur,e,cap,(h.block g hg).trans e1,e2,e3,e4,fun i j cs x hi hj=> ?_⟩;obtain⟨v,k1,k2⟩:=e5 i j cs x hi hj;exact⟨v,k1,RV.mono x v (h.nz _ _ _ _) k2⟩
def Hf.wD {D:Nat→Prop} {w0 w w':World} (h:Hf D w0 w) (g:iU w w'):Hf D w0 w':=
 ⟨g.os.trans h.os,g.tape.trans h.tape,g.output.trans h.output,D' h.size g.size,
   fun k hk hd => (g.block k (Eb hk h.size)).trans (h.block k hk hd),fun k S hS => by
     have h1:=h.bs k S hS
     unfold jl at h1 ⊢
     have:k<w.heap.size:=by
       cases hg:w.heap[k]? with
       |none=>simp[hg] at h1
       |some o=>exact(vN.1 hg).1
     rwa[g.block k this]⟩
def qN (t:Array Value) (d n:Nat) (v:Value):(t.setIfInBounds d v).getD n undef=if n=d∧d<t.size then v else t.getD n undef:=by
 simp only[nY,Gz];by_cases h:d=n
 ·subst h;by_cases h2:d<t.size
  ·simp[h2]
  simp[h2,Array.getElem?_eq_none (Nat.le_of_not_lt h2)]
 simp[h,yd h,eq_comm]
def aH.step {K:Kx} {β:Lb→Option Nat} {env:Env} {H:Hp} {a:Act} {w w':World} (h:aH K β env H a w) (g:iU w w')
  {d:Option Nat} {x:AV} {v:Value} (hd:∀n,d=some n→n<K.N) (hx:d.isSome=true→RV w' β H (Im K β H) x v) (hm:d.isSome=true→∀l∈x.an,H l≠ .unused):aH K β (cV env d x) H (a.put d v) w' where
 defers:=by cases d<;>simp[Act.put,h.defers]
 size:=by cases d<;>simp[Act.put,h.size]
 N8 n:=by
  have ho:=RV.mono (env n) (a.tmps.getD n undef) (g.nz β H (Im K β H) _) (h.N8 n);cases d with
  |none=>simpa[cV,Act.put] using ho
  |some d=>
  simp only[cV,Act.put,put,qN];by_cases e:n=d
  ·subst e;have:=hd n rfl;rw[←h.size] at this;simpa[this] using hx rfl
  simpa[e] using ho
 rows l r hl:=(h.rows l r hl).wD g
 own:=h.own
 inj:=h.inj
 eI n:=by
  cases d with
  |none=>exact h.eI n
  |some d=>
  simp only[cV,put];split
  ·exact hm rfl
  exact h.eI n
 cH:=h.cH
 frame:=h.frame.wD g
 W5 k cs hk:=by
  obtain⟨h1,h2,h3⟩:=h.W5 k cs hk;exact⟨h1,Eb h2 g.size,da.mono (g.nz β H (Im K β H) []).toW4 h1 h2 h3⟩
 gA:=h.gA
 fr:=h.fr
def EL:Value→Option AV
 | .bool b=>some (.bool b)
 | .int k n=>some (.int k n)
 | .string s=>some (.str s.data.toList)
 | .slice none 0 0=>some .nil0
 | .pointer none=>some .jK
 | .nilIface=>some .iT
 |_=>none
def BK:List Value→Option (List AV)
 |[]=>some []
 |v::r=>(EL v).bind fun x=>(BK r).map fun s=>x::s
def cv:Value→Option AV
 | .agg a=>(BK a.toList).map .agg
 |v=>EL v
def co (G:Nat→Option (List IV)):Operand→Option O
 | .tmp t=>some (.t t)
 | .const v=>(cv v).map .c
 | .func f=>some (.c (.fn f [] []))
 | .global g=>(G g).map fun cs=> .c (.lptr cs)
def tV {v:Value} {x:AV} (h:EL v=some x):x.an=[]:=by
 unfold EL at h;split at h<;>simp at h<;>subst h<;>simp[AV.an]
def wE {v:Value} {x:AV} (h:EL v=some x) (w:World) (β:Lb→Option Nat) (H:Hp) (I:Nat→Prop):RV w β H I x v:=by
 unfold EL at h;split at h<;>simp at h<;>subst h<;>simp[RV]
theorem tW:∀(l:List Value) (xs:List AV),BK l=some xs→ah xs=[]
 |[],xs,h=>by simp[BK] at h;subst h;rfl
 |v::r,xs,h=>by
  simp only[BK,dJ,bR] at h;obtain⟨x,h1,s,h2,rfl⟩:=h;simp[ah,tV h1,tW r s h2]
theorem wF (w:World) (β:Lb→Option Nat) (H:Hp) (I:Nat→Prop):∀(l:List Value) (xs:List AV),BK l=some xs→br w β H I xs l
 |[],xs,h=>by simp[BK] at h;subst h;simp[br]
 |v::r,xs,h=>by
  simp only[BK,dJ,bR] at h;obtain⟨x,h1,s,h2,rfl⟩:=h;simp only[br];exact⟨v,r,rfl,wE h1 _ _ _ _,wF w β H I r s h2⟩
def sE {v:Value} {x:AV} (h:cv v=some x):x.an=[]:=by
 unfold cv at h;split at h
 ·obtain⟨cs,h1,rfl⟩:=bR.1 h;simp[AV.an,tW _ _ h1]
 exact tV h
def BL {v:Value} {x:AV} (h:cv v=some x) (w:World) (β:Lb→Option Nat) (H:Hp) (I:Nat→Prop):RV w β H I x v:=by
 unfold cv at h;split at h
 ·rename_i a;obtain⟨cs,h1,rfl⟩:=bR.1 h;simp only[RV];exact⟨a.toList,N7,wF w β H I _ _ h1⟩
 exact wE h _ _ _ _
def aH.ev {K:Kx} {β:Lb→Option Nat} {env:Env} {H:Hp} {a:Act} {w:World} (h:aH K β env H a w) {x:Operand} {o:O} (hx:co K.G x=some o) :
  RV w β H (Im K β H) (ev env o) (a.eval x):=by
 cases x with
 |tmp t=>simp[co] at hx;subst hx;exact h.N8 t
 |const v=>
  simp only[co,bR] at hx;obtain⟨y,h1,rfl⟩:=hx;exact BL h1 _ _ _ _
 |func f=>simp[co] at hx;subst hx;simp[Am.ev,RV,br,Act.eval]
 |global g=>
 simp only[co,bR] at hx;obtain⟨cs,h1,rfl⟩:=hx;obtain⟨h2,h3,h4⟩:=h.W5 g cs h1;exact⟨g,0,rfl,h2,h3,h4.1⟩
def aH.eo {K:Kx} {β:Lb→Option Nat} {env:Env} {H:Hp} {a:Act} {w:World} (h:aH K β env H a w) {x:Operand} {o:O} (hx:co K.G x=some o) :
  ∀l∈(Am.ev env o).an,H l≠ .unused:=by
 cases x with
 |tmp t=>simp[co] at hx;subst hx;exact h.eI t
 |const v=>
  simp only[co,bR] at hx;obtain⟨y,h1,rfl⟩:=hx;simp[Am.ev,sE h1]
 |func f=>simp[co] at hx;subst hx;simp[Am.ev,AV.an,ah]
 |global g=>
 simp only[co,bR] at hx;obtain⟨cs,h1,rfl⟩:=hx;simp[Am.ev,AV.an]

def ZM (P:Program) (t:TypeId):Option Nat:=(P.info? t).map (·.size)
def u5 (P:Program) (t:TypeId):Option (Option Nat):=
 match P.underlying t with
 |some (.struct _)|some (.array _ _)=>(ZM P t).map some
 |some _=>some none
 |none=>none
def cos (G:Nat→Option (List IV)):List Operand→Option (List O)
 |[]=>some []
 |x::r=>(co G x).bind fun y=>(cos G r).map fun s=>y::s
def WG (G:Nat→Option (List IV)):Option Operand→Option (Option O)
 |none=>some none
 |some x=>(co G x).map some
def AV.iv:AV→Option IV
 | .bool b=>some (.bool b)
 | .int k n=>some (.int k n)
 | .str s=>some (.str s)
 | .list xs=>some (.list xs)
 | .nil0=>some (.list [])
 | .ifc t _=>some (.ifc t)
 |_=>none
def qO:List AV→Option (List IV)
 |[]=>some []
 |x::r=>x.iv.bind fun y=>(qO r).map fun s=>y::s
def AV.cells:AV→List AV
 | .agg cs=>cs
 |x=>[x]
def YJ (l:List Value):Option (List AV):=
 match l with
 |[]=>some []
 |v::r=>(cv v).bind fun x=>(YJ r).map fun s=>x::s
def eu (P:Program):Nat→List Field→Option (List Kd)
 |_,[]=>some []
 |n,f::r=>if f.name != "_"&&f.offset==n then
   match P.underlying f.type with
   |some .string=>(eu P (n+1) r).map fun s=> .s::s
   |some .bool=>(eu P (n+1) r).map fun s=> .b::s
   |some (.int _)=>(eu P (n+1) r).map fun s=> .i::s
   |_=>none
  else none
def jU (P:Program) (t:TypeId):Option (List Kd):=
 match P.underlying t with
 |some (.struct fs)=>if !P.stoodInHeld t&& !P.eqGuardType P.depth t then eu P 0 fs.toList else none
 |_=>none
def jG:BinOp→Option Bool
 | .eql=>some false
 | .neq=>some true
 |_=>none
def sF:Operand→Bool
 | .const .nilIface=>true
 |_=>false
def kF (pl:List (Nat×Nat)):List Nat→List O→Option (List (Nat×Nat×O))
 |j::js,x::xs=>(pl[j]?).bind fun p=>(kF pl js xs).map fun r=>(p.1,p.2,x)::r
 |[],[]=>some []
 |_,_=>none
def E_ (P:Program) (xt:TypeId):Bool:=match P.underlying xt with|some .string|some (.slice _)=>true|_=>false
def fU (P:Program) (f:Nat):Bool:=(P.funcs[f]?).any (fun fn=>fn.body.isSome&&fn.name != "runtime.NumGoroutine")
def sG:Operand→Bool
 | .const (.slice none 0 0)=>true
 |_=>false
def wG (P:Program) (G:Nat→Option (List IV)) (o:Oper):Option U7:=
 match o.op with
 | .move x| .assign x=>(co G x).map .iC
 | .pick c a b=>(co G c).bind fun c=>(co G a).bind fun a=>(co G b).map fun b=> .pick c a b
 | .fieldAddr t x f=>
  match P.underlying t with
  |some (.struct fs)=>fs[f]?.bind fun fd=>(ZM P fd.type).bind fun s=>if s=0 then none else(co G x).map fun x=> .wj x fd.offset
  |_=>none
 | .indexAddr t x i=>
  match P.underlying t with
  |some (.slice e)=>(ZM P e).bind fun s=>(co G x).bind fun x=>(co G i).map fun i=> .Vc x i s
  |some (.array n e)=>(ZM P e).bind fun s=>(co G x).bind fun x=>(co G i).map fun i=> .wC x i n s
  |_=>none
 | .index t x i=>
  match P.underlying t with
  |some .string=>(co G x).bind fun x=>(co G i).map fun i=> .lj x i
  |_=>none
 | .slice t x lo hi mx=>
  match P.underlying t with
  |some (.slice e)=>(ZM P e).bind fun s=>(co G x).bind fun x=>(WG G lo).bind fun lo=>(WG G hi).bind fun hi=>(WG G mx).map fun mx=> .zr x lo hi mx s
  |some .string=>if mx.isSome then none else(co G x).bind fun x=>(WG G lo).bind fun lo=>(WG G hi).map fun hi=> .ZL x lo hi
  |some (.array n e)=>if lo.isNone&&hi.isNone&&mx.isNone then(ZM P e).bind fun s=>if s=0 then none else(co G x).map fun x=> .oD x n s else none
  |_=>none
 | .makeSlice t n c=>
  match P.underlying t with
  |some (.slice e)=>match P.info? e with
   |some i=>match i.zero with
    |some z=>if z.cells.size=i.size∧0<i.size∧0<i.bytes then(YJ z.cells.toList).bind fun zs=>(co G n).bind fun n=>(co G c).map fun c=> .tU n c i.size i.bytes zs else none
    |none=>none
   |none=>none
  |_=>none
 | .binOp op t x y _=>
  match P.underlying t with
  |some (.int _)|some .string=>(co G x).bind fun x=>(co G y).map fun y=> .bin op x y
  |some .bool=>(jG op).bind fun n=>(co G x).bind fun x=>(co G y).map fun y=> .eqb n x y
  |some (.pointer _)=>(jG op).bind fun n=>(co G x).bind fun x=>(co G y).map fun y=> .zu n x y
  |some (.interface _)=>if sF y then(jG op).bind fun n=>(co G x).bind fun x=>(co G y).map fun y=> .zv n x y else none
  |some (.struct _)=>(jU P t).bind fun ks=>(jG op).bind fun n=>(co G x).bind fun x=>(co G y).map fun y=> .pM n ks x y
  |some (.slice _)=>if sG y then(jG op).bind fun n=>(co G x).map fun x=> .BJ n x else none
  |_=>none
 | .unOp .not _ x=>(co G x).map .not
 | .unOp .neg _ x=>(co G x).map .neg
 | .extract x i=>(co G x).map fun x=> .ext x i
 | .nilCheck x=>(co G x).map .dp
 | .box _ x=>(co G x).map .box
 | .makeFunc (.func f) first cap=>if first.isEmpty then(cos G cap.toList).map fun c=> .zw f c else(cos G first.toList).bind fun q=>(cos G cap.toList).map fun c=> .zh f q c
 | .load t x=>(u5 P t).bind fun m=>(co G x).map fun x=> .load m x
 | .alloc t=>match P.info? t with
  |some i=>match i.zero with
   |some z=>if z.cells.size=i.size then(YJ z.cells.toList).map .new else none
   |none=>none
  |none=>none
 | .store t x y=>(ZM P t).bind fun s=>(co G x).bind fun x=>(co G y).map fun y=> .store s x y
 | .convert s d x=>
  match P.underlying s,P.underlying d with
  |some (.int _),some (.int k)=>(co G x).map fun x=> .qK k x
  |some .string,some .string=>(co G x).map .YJ
  |some .string,some (.slice e)=>match P.underlying e with
   |some (.int .u8)=>(co G x).map .zg
   |_=>none
  |some (.slice e),some .string=>match P.underlying e with
   |some (.int .u8)=>(co G x).map .wm
   |_=>none
  |_,_=>none
 | .makeInterface t x=>
  match P.underlying t with
  |some (.interface _)=>none
  |some _=>(co G x).map fun x=> .pO t x
  |none=>none
 | .lookup t x i ok=>if ok then none else match P.underlying t with
  |some (.map k e)=>match P.underlying k,(P.info? e).bind (·.zero) with
   |some (.int _),some (.string z)=>if z.data.toList=[] then(co G x).bind fun x=>(co G i).map fun i=> .sy x i else none
   |_,_=>none
  |_=>none
 | .field t x f=>
  match P.underlying t with
  |some (.struct fs)=>fs[f]?.bind fun fd=>(u5 P fd.type).bind fun m=>(co G x).map fun x=> .pN x fd.offset m
  |_=>none
 | .buildSlice t n ps=>
  match P.underlying t with
  |some (.slice e)=>match P.info? e with
   |some i=>match i.zero with
    |some z=>if z.cells.size=i.size∧0<i.size∧n*i.size≤2^24 then(YJ z.cells.toList).bind fun zs=>(cos G (ps.toList.map (·.2))).map fun xs=> .lits n i.size zs ((ps.toList.map (·.1)).zip xs) else none
    |none=>none
   |none=>none
  |_=>none
 | .build t ps=>
  match P.info? t,P.underlying t with
  |some it,some (.struct fields)=>match it.zero,fields.toList.mapM (fun f=>(P.info? f.type).map fun i=>(f.offset,i.size)) with
   |some z,some places=>(YJ z.cells.toList).bind fun zs=>(cos G (ps.toList.map (·.2))).bind fun xs=>(kF places (ps.toList.map (·.1)) xs).map fun qs=> .sg zs qs
   |_,_=>none
  |_,_=>none
 | .call c=>
  match c.callee with
  | .builtin .len=>match c.args.toList,c.argTypes[0]?.bind P.underlying with
   |[x],some .string=>(co G x).map .lens
   |[x],some (.slice _)=>(co G x).map .len
   |_,_=>none
  | .builtin .max=>match c.args.toList with
   |[x,y]=>(co G x).bind fun x=>(co G y).map fun y=> .max x y
   |_=>none
  | .builtin .min=>match c.args.toList with
   |[x,y]=>(co G x).bind fun x=>(co G y).map fun y=> .min x y
   |_=>none
  | .builtin .append=>match c.args.toList,c.argTypes.toList with
   |[s,x],[st,xt]=>match P.underlying st with
    |some (.slice e)=>match P.info? e with
     |some i=>if(i.zero.map (·.cells.size))==some i.size&&decide (0<i.size)&&E_ P xt then
      (co G s).bind fun s=>(co G x).map fun x=> .app s x i.size i.bytes else match P.underlying xt,i.zero with
       |some (.int _),some z=>if z.cells.size=i.size∧0<i.size∧0<i.bytes then(YJ z.cells.toList).bind fun zs=>(co G s).bind fun s=>(co G x).map fun x=> .pP s x i.size i.bytes zs else none
       |_,_=>none
     |none=>none
    |_=>none
   |_,_=>none
  | .builtin .cap=>match c.args.toList,c.argTypes[0]?.bind P.underlying with
   |[x],some (.slice _)=>(co G x).map .cap
   |_,_=>none
  | .builtin .copy=>match c.args.toList,c.argTypes.toList with
   |[d,x],[dt,_]=>match P.underlying dt with
    |some (.slice e)=>(ZM P e).bind fun s=>if s=0 then none else(co G d).bind fun d=>(co G x).map fun x=> .qL d x s
    |_=>none
   |_,_=>none
  | .builtin .clear=>match c.args.toList,c.argTypes[0]?.bind P.underlying with
   |[x],some (.slice e)=>match P.info? e with
    |some i=>match i.zero with
     |some z=>if z.cells.size=i.size∧0<i.size then(YJ z.cells.toList).bind fun zs=>(co G x).map fun x=> .si x i.size zs else none
     |none=>none
    |none=>none
   |_,_=>none
  | .builtin _=>none
  | .invoke _ _=>none
  | .value (.func f)=>if fU P f then(cos G c.args.toList).map fun xs=> .call f xs else(cos G c.args.toList).map fun xs=> .kE f xs
  | .value f=>(co G f).bind fun y=>(cos G c.args.toList).map fun xs=> .fM y xs
 |_=>none
def comp (P:Program) (G:Nat→Option (List IV)) (o:Oper):Option U7:=match wG P G o with
 |some i=>some i
 |none=>some .stuck
open Classical in
noncomputable def bnd (env:Env) (o:Option O) (HX mx:Nat):Option Nat:=
 match o with
 |none=>some HX
 |some x=>match ev env x with
  | .int _ v=>if 0≤v∧v.toNat≤mx then some v.toNat else none
  |_=>none
def KB (xs:List IV):Prop:=∀y∈xs,∀z∈y.cells,∀cs,z≠ .agg cs
def jV (sz:Nat) (xs:List IV):Prop:=∀x∈xs,x.cells.length=sz
def dk (op:BinOp) (x y:AV):Option AV:=
 match x,y with
 | .int k a,.int k' b=>if k=k' then match op with
   | .add=>some (.int k (k.wrap (a+b)))
   | .sub=>some (.int k (k.wrap (a - b)))
   | .mul=>some (.int k (k.wrap (a*b)))
   | .quo=>if b=0 then none else some (.int k (k.wrap (a.tdiv b)))
   | .rem=>if b=0 then none else some (.int k (a.tmod b))
   | .eql=>some (.bool (a==b))
   | .neq=>some (.bool (a !=b))
   | .lss=>some (.bool (a<b))
   | .leq=>some (.bool (a≤b))
   | .gtr=>some (.bool (a>b))
   | .geq=>some (.bool (a≥b))
   | .shr=>if 0≤b then some (.int k (a/2^min b.toNat k.bits)) else none
   |_=>none
  else none
 | .str a,.str b=>match op with
   | .add=>if a.length+b.length≤9223372036854775807 then some (.str (a++b)) else none
   | .eql=>some (.bool (a==b))
   | .neq=>some (.bool !(a==b))
   | .lss=>some (.bool (Op.bytesLess a b))
   | .leq=>some (.bool (Op.bytesLess a b||a==b))
   | .gtr=>some (.bool !(Op.bytesLess a b||a==b))
   | .geq=>some (.bool !(Op.bytesLess a b))
   |_=>none
 |_,_=>none
def JP:Kd→AV→AV→Option Bool
 | .b,.bool a,.bool b=>some (a==b)
 | .i,.int k a,.int k' b=>if k=k' then some (a==b) else none
 | .s,.str a,.str b=>some (a==b)
 |_,_,_=>none
def eqs:List Kd→List AV→List AV→Option Bool
 |[],[],[]=>some true
 |k::ks,x::r,y::s=>(JP k x y).bind fun a=>(eqs ks r s).map fun b=>a&&b
 |_,_,_=>none
def JQ:AV→AV→Option Bool
 | .jK,.jK=>some true
 | .jK,.ptr ..=>some false
 | .jK,.lptr ..=>some false
 | .ptr ..,.jK=>some false
 | .lptr ..,.jK=>some false
 |_,_=>none
noncomputable def nB (env:Env) (lo hi mx:Option O) (n:Nat):Option (Nat×Nat×Option Nat):=
 match mx with
 |none=>(bnd env hi n n).bind fun h=>(bnd env lo 0 h).map fun l=>(l,h,none)
 |some m=>if hi.isNone then none else(bnd env (some m) 0 n).bind fun m=>(bnd env hi 0 m).bind fun h=>(bnd env lo 0 h).map fun l=>(l,h,some m)
noncomputable def sH (env:Env) (lo hi mx:Option O) (n c:Nat):Option (Nat×Nat×Option Nat):=
 match mx with
 |none=>(bnd env hi n c).bind fun h=>(bnd env lo 0 h).map fun l=>(l,h,none)
 |some m=>if hi.isNone then none else(bnd env (some m) 0 c).bind fun m=>(bnd env hi 0 m).bind fun h=>(bnd env lo 0 h).map fun l=>(l,h,some m)
open Classical in
noncomputable def Cs (env:Env) (x:AV) (lo hi mx:Option O) (sz:Nat):Option AV:=
 match x with
 | .nil0=>(nB env lo hi mx 0).map fun _=> .nil0
 | .list xs=>if jV sz xs then(nB env lo hi mx xs.length).map fun b=>if b.2.2=some b.1 then .nil0 else .list ((xs.take b.2.1).drop b.1) else none
 | .sl lb s i n=>if s=sz then(nB env lo hi mx n).bind fun b=>if b.2.2.isSome then none else some (.sl lb s (i+b.1) (b.2.1 - b.1)) else none
 | .slk lb s i n c=>if s=sz then(sH env lo hi mx n c).bind fun b=>if b.2.2.isSome then some .any else some (.slk lb s (i+b.1) (b.2.1 - b.1) (c - b.1)) else none
 |_=>none
def AV.one:AV→Bool
 | .any| .un| .agg _| .gf _=>false
 |_=>true
def AV.sI:AV→Bool
 | .agg cs=>cs.all AV.one
 |x=>x.one
def fg:List AV→List (Nat×Nat×AV)→Option (List AV)
 |cs,[]=>some cs
 |cs,(off,sz,x)::r=>if x.sI=true∧x.cells.length=sz∧off+sz≤cs.length then fg (cs.take off++x.cells++cs.drop (off+sz)) r else none
def zx:List IV→IV
 |[y]=>y
 |ys=> .agg ys
def chunks (sz:Nat):Nat→List IV→List IV
 |0,_=>[]
 |n+1,ys=>zx (ys.take sz)::chunks sz n (ys.drop sz)
def jW:List IV→Option (List UInt8)
 |[]=>some []
 | .int .u8 n::r=>(jW r).map (UInt8.ofNat n.toNat::·)
 |_=>none
def sJ:AV→Option AV
 | .list xs=>(jW xs).map .str
 | .nil0=>some (.str [])
 |_=>none
open Classical in
noncomputable def af (i:U7) (env:Env):Option AV:=
 match i with
 | .iC x=>some (ev env x)
 | .pick c a b=>match ev env c with
  | .bool t=>some (if t then ev env a else ev env b)
  |_=>none
 | .wj a off=>match ev env a with
  | .ptr l sz i j=>some (.ptr l sz i (j+off))
  | .lptr cs=>some (.lptr (cs.drop off))
  |_=>none
 | .Vc x i sz=>match ev env x,ev env i with
  | .list xs,.int _ n=>if 0≤n then match xs[n.toNat]? with
    |some y=>if jV sz xs then some (.lptr y.cells) else none
    |none=>none
   else none
  | .sl l s i0 m,.int _ n=>if 0≤n∧n.toNat<m∧s=sz then some (.ptr l s (i0+n.toNat) 0) else none
  |_,_=>none
 | .lj x i=>match ev env x,ev env i with
  | .str s,.int _ n=>if 0≤n then match s[n.toNat]? with
    |some c=>some (.int .u8 c.toNat)
    |none=>none
   else none
  |_,_=>none
 | .lens x=>match ev env x with
  | .str s=>some (.int .i64 s.length)
  |_=>none
 | .len x=>match ev env x with
  | .list xs=>some (.int .i64 xs.length)
  | .nil0=>some (.int .i64 0)
  | .sl _ _ _ n=>some (.int .i64 n)
  | .slk _ _ _ n _=>some (.int .i64 n)
  |_=>none
 | .zr x lo hi mx sz=>Cs env (ev env x) lo hi mx sz
 | .ZL x lo hi=>match ev env x with
  | .str s=>(bnd env hi s.length s.length).bind fun h=>(bnd env lo 0 h).map fun l=> .str ((s.take h).drop l)
  |_=>none
 | .bin op x y=>dk op (ev env x) (ev env y)
 | .eqb neg x y=>match ev env x,ev env y with
  | .bool a,.bool b=>some (.bool (neg ^^ (a==b)))
  |_,_=>none
 | .zu neg x y=>(JQ (ev env x) (ev env y)).map fun b=> .bool (neg ^^ b)
 | .zv neg x _=>match ev env x with
  | .iT=>some (.bool (neg ^^ true))
  | .ifc _ _=>some (.bool (neg ^^ false))
  |_=>none
 | .pM neg ks x y=>match ev env x,ev env y with
  | .agg xs,.agg ys=>(eqs ks xs ys).map fun b=> .bool (neg ^^ b)
  |_,_=>none
 | .not x=>match ev env x with
  | .bool b=>some (.bool !b)
  |_=>none
 | .neg x=>match ev env x with
  | .int k n=>some (.int k (k.wrap (0 - n)))
  |_=>none
 | .max x y=>match ev env x,ev env y with
  | .int k a,.int k' b=>if k=k' then some (.int k (if b>a then b else a)) else none
  |_,_=>none
 | .min x y=>match ev env x,ev env y with
  | .int k a,.int k' b=>if k=k' then some (.int k (if b<a then b else a)) else none
  |_,_=>none
 | .ext x i=>match ev env x with
  | .gf cs=>cs[i]?
  |_=>none
 | .dp x=>match ev env x with
  | .ptr l sz i j=>some (.ptr l sz i j)
  | .lptr cs=>some (.lptr cs)
  | .fn f a b=>some (.fn f a b)
  |_=>none
 | .zw f cap=>some (.fn f [] (cap.map (ev env)))
 | .zh f q cap=>some (.fn f (q.map (ev env)) (cap.map (ev env)))
 | .qK k x=>match ev env x with
  | .int _ n=>some (.int k (k.wrap n))
  |_=>none
 | .YJ x=>match ev env x with
  | .str s=>some (.str s)
  |_=>none
 | .pO t x=>some (.ifc t (ev env x))
 | .sg z ps=>(fg z (ps.map fun p=>(p.1,p.2.1,ev env p.2.2))).map .agg
 | .pN x off m=>match ev env x with
  | .agg cs=>match m with
   |none=>cs[off]?
   |some k=>if off+k≤cs.length then some (.agg ((cs.drop off).take k)) else none
  |_=>none
 | .oC x=>(qO (ev env x).cells).map .lptr
 | .lits n sz z ps=>if sz*n=0 then(if n=0∧ps.isEmpty=true then some .nil0 else none) else(fg ((List.replicate n z).flatten) (ps.map fun p=>(p.1*sz,sz,ev env p.2))).bind fun cs=>(qO cs).map fun ys=>
   .list (chunks sz n ys)
 | .load m a=>match ev env a with
  | .lptr cs=>match m with
   |none=>cs[0]?.map IV.dQ
   |some k=>if k≤cs.length then some (.agg ((cs.take k).map IV.dQ)) else none
  |_=>none
 | .zg x=>match ev env x with
  | .str s=>if s.length≤140737488355328 then some (.list (s.map fun c=> .int .u8 c.toNat)) else none
  |_=>none
 | .wm x=>sJ (ev env x)
 | .wC x i n sz=>match ev env x,ev env i with
  | .ptr l s a j,.int _ m=>if 0≤m∧m.toNat<n then some (.ptr l s a (j+m.toNat*sz)) else none
  | .lptr cs,.int _ m=>if 0≤m∧m.toNat<n then some (.lptr (cs.drop (m.toNat*sz))) else none
  |_,_=>none
 | .oD x n sz=>match ev env x with
  | .lptr cs=>if cs.length=n*sz∧n≤maxLen∧(∀y∈cs,y.cells=[y]) then some (.list (chunks sz n cs)) else none
  |_=>none
 | .oE s x sz bytes=>match ev env s,ev env x with
  | .nil0,.list xs=>if jV sz xs∧KB xs∧xs.length*bytes≤140737488355328∧0<bytes∧0<sz then some (.list xs) else none
  | .nil0,.nil0=>if 0<sz then some (.list []) else none
  |_,_=>none
 | .qM es=>some (.mis es)
 | .sy x i=>match ev env x,ev env i with
  | .mis es,.int .i64 n=>some (.str ((es.lookup n).getD []))
  |_,_=>none
 |_=>none
end Go.Am
