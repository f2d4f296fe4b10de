import Derived.WalkKit
set_option linter.all false
/- THE ABSTRACT MACHINE, part 1: abstract values, labelled rows, and what they say of a world. -/
namespace Go.Am
open Go Go.RowKit
def di:=@Option.some.injEq
def jF:=@Option.map_eq_some_iff
def yV:=@Option.bind_eq_some_iff
def rX:=@List.getElem?_eq_getElem
def eS:=@Prod.mk.injEq
def QH:=@Bool.and_eq_true
def yY:=@List.getElem?_eq_some_iff
def PX:=@List.mem_of_getElem?
def EF:=@Option.bind_some
def PW:=@Nat.le_refl
def QI:=@Bool.not_false
def Ev:=@if_neg
def QL:=@List.mem_append
def PY:=@List.mem_cons
def nY:=@Array.getD_eq_getD_getElem?
def P8:=@if_pos
def Rd:=@List.getElem?_take
def P5:=@List.take_of_length_le
def dj:=@decide_eq_true_eq
def QK:=@Bool.not_true
def jy:=@Bool.false_eq_true
def Ri:=@Nat.mul_le_mul_right
def bT:=@Option.map_some
def bY:=@List.mem_singleton
def ko:=@List.length_append
def gL:=@List.length_cons
def QV:=@or_false
def wc:=@List.eq_nil_of_length_eq_zero
def Rc:=@if_true
def Rv:=@Array.getElem?_eq_some_iff
def b_:=@List.getElem?_append_right
def Sv:=@Nat.add_mul
def Rj:=@List.map_cons
def nX:=@if_false
def QJ:=@Int.natCast_nonneg
def Q5:=@List.cons.injEq
def Qj:=@Int.toNat_natCast
def pb:=@List.mem_map
def bB:=@List.getElem?_append_left
def ec:=@List.mem_of_mem_take
def Rh:=@List.all_eq_true
def QN:=@List.not_mem_nil
def tO:=@List.take_append_drop
def tn:=@List.drop_zero
def bM:=@Nat.zero_add
def cn:=@List.getElem?_map
def Sw:=@List.getElem?_of_mem
def zf:=@List.getD_eq_getElem?_getD
def Rg:=@List.length_eq_zero_iff
def SW:=@List.map_congr_left
def tp:=@List.length_take
def SS:=@List.append_assoc
def Ba:=@List.getElem?_drop
def fJ:=@Nat.le_mul_of_pos_right
def ff:=@Array.getElem?_eq_getElem
def Rk:=@List.take_length
def SZ:=@Bool.eq_iff_iff
def Ro:=@List.take_add_one
def ze:=@Nat.add_assoc
def SU:=@List.append_nil
def Rm:=@List.length_nil
def Bf:=@Classical.byContradiction
def Vv:=@Array.getElem?_toList
def dV:=@List.getElem?_eq_none
def Uo:=@Nat.lt_of_lt_of_le
def Tt:=@decide_eq_false_iff_not
def RA:=@List.getElem?_cons_zero
def EG:=@Option.getD_some
def EH:=@List.mem_of_mem_drop
def S':=@beq_iff_eq
def Su:=@true_and
def U':=@Nat.le_trans
def EJ:=@List.isPrefixOf_iff_prefix
def SX:=@List.drop_succ_cons
def Tu:=@Bool.or_eq_true
def G_:=@List.length_map
def U_:=@UInt8.le_iff_toNat_le
def BI:=@List.eq_of_mem_replicate
def V':=@Array.getElem?_setIfInBounds
def Ss:=@Ne.symm
def Ve:=@Bool.not_eq_true'
def Cj:=@List.take_succ_cons
def V_:=@List.mem_map_of_mem
def SV:=@beq_eq_false_iff_ne
def VC:=@List.length_replicate
def EK:=@List.drop_eq_getElem_cons
def zd:=@Nat.zero_le
def Wn:=@List.contains_eq_mem
def VQ:=@List.flatMap_cons
def JF:=@Array.length_toList
def mb:=@List.append_eq_nil_iff
def V9:=@Nat.zero_mul
def nc:=@Nat.add_sub_cancel
def He:=@Option.isSome_iff_exists
def vI:=@List.getElem_mem
def WJ:=@Array.getElem?_replicate
def Ww:=@List.map_nil
def V0:=@List.length_pos_iff
def Bw:=@List.foldl_cons
def W2:=@List.size_toArray
def VD:=@Bool.false_and
def V6:=@List.singleton_append
def VZ:=@congrArg
def Nk:=@List.mem_cons_of_mem
def BH:=@List.length_drop
def Xb:=@Array.mem_toList_iff
def Xn:=@decide_eq_decide
def EI:=@Bool.or_eq_false_iff
def Wz:=@Array.getElem?_append_left
def Vn:=@Bool.true_and
def Vg:=@List.mem_or_eq_of_mem_set
def WO:=@List.mem_filter
def WX:=@UInt8.toNat_inj
def kf:=@Nat.add_zero
def WC:=@List.map_map
def Wm:=@Nat.mul_comm
def JG:=@List.mem_range
def W6:=@List.drop_drop
def JE:=@List.getElem?_replicate
def ZS:=@of_decide_eq_true
def W0:=@List.drop_eq_nil_of_le
def Wv:=@List.drop_of_length_le
def X5:=@Array.toList_map
def NA:=@Array.all_eq_true_iff_forall_mem
def Zm:=@List.length_singleton
def X':=@UInt8.lt_iff_toNat_lt
def Vf:=@List.takeWhile_append_dropWhile
def Gl:=@Nat.sub_self
def Bd:=@List.getElem?_set_ne
def Ya:=@Nat.div_lt_of_lt_mul
def ov:=@Nat.min_eq_left
def M6:=@List.eq_nil_iff_forall_not_mem
def jk:=@List.pairwise_append
def WQ:=@List.nodup_cons
def Ts:=@decide_true
def Wx:=@Option.toList_some
def fe:=@List.ext_getElem?
def N7:=@List.flatten_cons
def N':=@List.getElem?_zip_eq_some
def Y':=@Nat.le_of_eq
def Xa:=@Nat.sub_zero
def Xk:=@List.flatMap_nil
def Wu:=@Int.eq_ofNat_of_zero_le
def GA:=@List.getElem?_cons_succ
def Xw:=@List.head?_drop
def Xy:=@Option.some.inj
def Zj:=@ByteArray.data_extract
def XY:=@Nat.one_mul
def Wj:=@List.getElem?_set_self
def Zk:=@Nat.mul_one
def Vq:=@List.set_append_right
def rY:=@List.tail_drop
def Zl:=@List.getElem?_toArray
def Wa:=@List.dropWhile_suffix
def VI:=@decide_eq_true
def Zt:=@List.eq_nil_or_concat
def sd:=@bne_iff_ne
def se:=@Nat.add_le_add_right
def Za:=@and_true
def Zy:=@ByteArray.ext
def Xt:=@List.all_cons
def YZ:=@Bool.false_or
def Vk:=@List.dropWhile_cons
def ZB:=@List.length_reverse
def tG:=@List.flatMap_append
def V8:=@Option.isSome_none
def tH:=@Array.toList_range
def Y_:=@Nat.add_comm
def XB:=@List.pairwise_cons
def Yl:=@List.mem_cons_self
def XG:=@decide_false
def ZK:=@Function.comp_def
def XM:=@not_false_eq_true
def ZU:=@Option.getD_none
def ZV:=@Nat.mod_eq_of_lt
def ZZ:=@List.mem_flatMap
def Z0:=@List.isEmpty_iff
def X8:=@List.all_reverse
def BG:=@List.map_append
def vL:=@Nat.mod_lt
def Z6:=@Nat.div_add_mod
def Yb:=@UInt8.toNat.inj
def Uy:=@decide_eq_false
def Yy:=@dif_pos
def yW:=@List.getElem?_mapIdx
def Wt:=@List.drop_suffix
def JC:=@List.getElem?_set
def X6:=@Option.bind_none
def X9:=@Bool.and_eq_false_iff
def WN:=@List.suffix_refl
def Xd:=@not_or
def Xf:=@List.isSuffixOf_iff_suffix
def Xl:=@List.head?_dropWhile_not
def Xm:=@List.all_takeWhile
def qA:=@Bool.eq_false_iff
def Yh:=@Option.map_none
def XH:=@List.getLast?_eq_some_getLast
def Yu:=@List.reverse_append
def XJ:=@List.IsSuffix.trans
def XN:=@List.dropLast_concat_getLast
def pz:=@List.length_mapIdx
def Y4:=@List.append_eq_append_iff
def Xj:=@List.foldlM_cons
def Zq:=@Classical.choose_spec
def ZD:=@bne_eq_false_iff_eq
def Ym:=@List.suffix_append
def YG:=@UInt8.toNat_ofNat'
def YE:=@List.mapIdx_append
def Xh:=@beq_self_eq_true
def Nr:=@List.take_left'
def A5:=@and_self
def zp:=@List.filter_cons
def V4:=@Decidable.byContradiction
def Gk:=@List.drop_append_of_le_length
def JD:=@List.map_take
def mc:=@List.filter_eq_nil_iff
def XZ:=@List.findIdx?_eq_some_iff_getElem
def WT:=@List.filter_append
def YQ:=@List.sum_cons
def ou:=@List.takeWhile_cons
def ow:=@List.getElem?_eq_none_iff
def Np:=@List.findIdx?_eq_none_iff
def YF:=@List.find?_eq_none
def Ny:=@List.map_drop
def pI:=@List.take_append_of_le_length
def pJ:=@List.find?_eq_some_iff_append
def Yk:=@Option.bind_eq_bind
def YD:=@Option.isSome_some
def YK:=@Nat.eq_of_mul_eq_mul_right
def Y3:=@Nat.mul_assoc
def N6:=@List.any_eq_false
def Zb:=@List.map_set
def Zd:=@List.drop_length
def Z2:=@List.any_eq_true
def sc:=@List.foldl_nil
def YX:=@Bool.and_true
def ZJ:=@Nat.pow_succ
def Nu:=@gt_iff_lt
def Z7:=@Nat.min_le_left
def vU:=@List.filter_nil
def VO:=@Bool.and_false
def Nv:=@List.mem_range'_1
def X_:=@ite_false
def Zh:=@List.range'_succ
def Zu:=@List.range_eq_range'
def Zv:=@List.count_le_length
def Zx:=@ite_true
def ZF:=@List.replicate_zero
def Yw:=@List.replicate_succ
def ZA:=@Bool.and_self
def Xu:=@List.suffix_cons
def X3:=@List.drop_nil
def Zi:=@List.head?_cons
def Zr:=@Option.map_map
def ZI:=@List.set_cons_zero
def ZT:=@List.all_eq_false
def ZW:=@Nat.min_le_right
def Z1:=@List.reverse_nil
def Z3:=@List.mapIdx_cons
def Z4:=@List.cons_ne_nil
def sf {p:Prop} (h:p:=by omega):p:=h
def tM {p:Prop} (h:p:=by simp):p:=h
def M3 {p:Prop} (h:p:=by decide):p:=h
def aac {p:Prop} (h:p:=by simp only;omega):p:=h
def aah {p:Prop} (h:p:=by repeat' constructor):p:=h
def aak {p:Prop} (h:p:=by simp;omega):p:=h
def aax {p:Prop} (h:p:=by decide +kernel):p:=h
def aaK {p:Prop} (h:p:=by simp only[List.length_append,List.length_singleton];omega):p:=h
def aa7 {p:Prop} (h:p:=by simp[Builtin.lenOf]):p:=h
def abl {p:Prop} (h:p:=by simp[List.isPrefixOf]):p:=h
def abn {p:Prop} (h:p:=by simp[ByteArray.size]):p:=h
def abq {p:Prop} (h:p:=by simp only[List.length_nil];omega):p:=h
def abL {p:Prop} (h:p:=by rfl):p:=h
inductive Lb where
 |loc (n:Nat)
 |par (n:Nat)
 |gen (n:Nat)
 |nest (l:Lb) (i j:Nat)
 deriving DecidableEq
def Lb.fresh:Lb->Bool
 | .loc _=>true
 | .nest l _ _=>l.fresh
 |_=>false
def abm {p:Prop} (h:p:=by simp[Lb.fresh]):p:=h
def Lb.entry:Lb->Bool
 | .par _=>true
 |_=>false
def Lb.Og {l:Lb} (h:l.entry=true):l.fresh=false:=by
 cases l<;>simp_all[Lb.entry,Lb.fresh]
def Lb.iQ:Lb->Lb
 | .nest l _ j=> .nest l 0 j
 |l=>l
def aj' (n:Nat):(Lb.loc n).iQ= .loc n:=rfl
def pL (n:Nat):(Lb.par n).iQ= .par n:=rfl
def acG (n:Nat):(Lb.gen n).iQ= .gen n:=rfl
def qJ (l:Lb) (i j:Nat):(Lb.nest l i j).iQ= .nest l 0 j:=rfl
def Lb.app (l:Lb) (d:Nat):Lb:=if l.fresh then .loc d else .gen d
def aav {p:Prop} (h:p:=by simp[Lb.app,Lb.fresh]):p:=h
def Lb.fR (l:Lb) (d:Nat) (h:(l.app d).fresh=true):l.fresh=true:=by
 unfold Lb.app at h;split at h
 ·assumption
 simp[Lb.fresh] at h
inductive IV where
 |bool (b:Bool)
 |int (k:IntKind) (n:Int)
 |str (s:List UInt8)
 |list (xs:List IV)
 |agg (cs:List IV)
 |ifc (t:Nat)
def IV.cells:IV->List IV
 | .agg cs=>cs
 |x=>[x]
def aaw {p:Prop} (h:p:=by simp[IV.cells]):p:=h
inductive AV where
 |any
 |un
 |bool (b:Bool)
 |int (k:IntKind) (n:Int)
 |str (s:List UInt8)
 |list (xs:List IV)
 |nil0
 |jK
 |iT
 |agg (cs:List AV)
 |gf (cs:List AV)
 |sl (l:Lb) (sz i n:Nat)
 |slk (l:Lb) (sz i n c:Nat)
 |ptr (l:Lb) (sz i j:Nat)
 |lptr (cs:List IV)
 |fn (f:Nat) (first cap:List AV)
 |ifc (t:Nat) (x:AV)
 |mis (es:List (Int×List UInt8))
def IV.dQ:IV->AV
 | .bool b=> .bool b
 | .int k n=> .int k n
 | .str s=> .str s
 | .list xs=> .list xs
 | .agg _=> .any
 | .ifc t=> .ifc t .any
def IV.av:IV->AV
 | .agg cs=> .agg (cs.map IV.dQ)
 |x=>x.dQ
structure Row where
 sz:Nat
 els:List (List AV)
inductive Slot where
 |unused
 |dead
 |live (r:Row)
abbrev Hp:=Lb->Slot
abbrev Env:=Nat->AV
def live (H:Hp) (l:Lb):Prop:=∃r,H l= .live r
def jl (w:World) (k:Nat):Option Nat:=
 match w.heap[k]? with
 |some (.cells c _ _)=>some c.size
 |_=>none
def Cr (w:World) (Im:Nat->Prop) (n:Nat) (els:Nat->Nat->Nat->Prop) (v:Value):Prop:=
 ∃a c,v= .slice a n c/\n<=c/\c<=maxLen /\
  (n=0\/∃b o sz,a=some ⟨b,o,none⟩/\Im b/\b<w.heap.size/\0<sz/\els b o sz)
mutual
def NN (w:World) (Im:Nat->Prop):IV->Value->Prop
 | .bool b,v=>v= .bool b
 | .int k n,v=>v= .int k n
 | .str s,v=>v= .string ⟨s.toArray⟩
 | .list xs,v=>Cr w Im xs.length (λb o sz=>bH w Im xs b o sz) v
 | .agg _,_=>False
 | .ifc t,v=>∃u,v= .iface t u
def bK (w:World) (Im:Nat->Prop):List IV->Nat->Nat->Prop
 |[],_,_=>True
 |x::r,b,o=>(∃v,w.cell? ⟨b,o,none⟩=some v/\NN w Im x v)/\bK w Im r b (o+1)
def fL (w:World) (Im:Nat->Prop):IV->Nat->Nat->Nat->Prop
 | .agg cs,b,o,sz=>sz=cs.length/\bK w Im cs b o
 | .bool x,b,o,sz=>sz=1/\∃v,w.cell? ⟨b,o,none⟩=some v/\v= .bool x
 | .int k n,b,o,sz=>sz=1/\∃v,w.cell? ⟨b,o,none⟩=some v/\v= .int k n
 | .str s,b,o,sz=>sz=1/\∃v,w.cell? ⟨b,o,none⟩=some v/\v= .string ⟨s.toArray⟩
 | .list xs,b,o,sz=>sz=1/\∃v,w.cell? ⟨b,o,none⟩=some v/\Cr w Im xs.length (λb o sz=>bH w Im xs b o sz) v
 | .ifc t,b,o,sz=>sz=1/\∃v,w.cell? ⟨b,o,none⟩=some v/\∃u,v= .iface t u
def bH (w:World) (Im:Nat->Prop):List IV->Nat->Nat->Nat->Prop
 |[],_,_,_=>True
 |x::r,b,o,sz=>fL w Im x b o sz/\bH w Im r b (o+sz) sz
end
def eH (w:World) (Im:Nat->Prop) (x:IV) (b o sz:Nat):fL w Im x b o sz↔sz=x.cells.length/\bK w Im x.cells b o:=by
 cases x<;>simp[fL,IV.cells,bK,NN]
structure W4 (w w':World) (Im kA:Nat->Prop):Prop where
 im:∀k,Im k->k<w.heap.size->kA k/\k<w'.heap.size/\w'.heap[k]?=w.heap[k]?
def Cr.mono {w w':World} {Im kA:Nat->Prop} (h:W4 w w' Im kA) {n:Nat} {e e':Nat->Nat->Nat->Prop}
  (he:∀b o sz,Im b->b<w.heap.size->e b o sz->e' b o sz) {v:Value} (hv:Cr w Im n e v):Cr w' kA n e' v:=by
 obtain⟨a,c,h1,h2,h3,h4⟩:=hv;refine⟨a,c,h1,h2,h3,h4.imp id ?_⟩;rintro⟨b,o,sz,e1,e2,e3,e4,e5⟩;obtain⟨k1,k2,_⟩:=h.im b e2 e3;exact⟨b,o,sz,e1,k1,k2,e4,he _ _ _ e2 e3 e5⟩
def gK {w w':World} {b o:Nat} (h:w'.heap[b]?=w.heap[b]?):w'.cell? ⟨b,o,none⟩=w.cell? ⟨b,o,none⟩:=
 World.cell?_of_block (w:=w) (a:=⟨b,o,none⟩) h
mutual
theorem NN.mono {w w':World} {Im kA:Nat->Prop} (h:W4 w w' Im kA):∀(x:IV) (v:Value),NN w Im x v->NN w' kA x v
 | .bool b,v,hv=>by simpa[NN] using hv
 | .int k n,v,hv=>by simpa[NN] using hv
 | .str s,v,hv=>by simpa[NN] using hv
 | .list xs,v,hv=>by
  simp only[NN] at hv ⊢;exact Cr.mono h (λb o sz hb hs he=>bH.mono h xs b o sz hb hs he) hv
 | .agg _,v,hv=>by simp[NN] at hv
 | .ifc t,v,hv=>by simpa[NN] using hv
theorem bK.mono {w w':World} {Im kA:Nat->Prop} (h:W4 w w' Im kA):∀(xs:List IV) (b o:Nat),Im b->b<w.heap.size->bK w Im xs b o->bK w' kA xs b o
 |[],_,_,_,_,_=>by simp[bK]
 |x::r,b,o,hb,hs,hv=>by
  simp only[bK] at hv ⊢;obtain⟨⟨v,h1,h2⟩,h3⟩:=hv;obtain⟨_,_,k3⟩:=h.im b hb hs;exact⟨⟨v,(gK k3).trans h1,NN.mono h x v h2⟩,bK.mono h r b (o+1) hb hs h3⟩
theorem fL.mono {w w':World} {Im kA:Nat->Prop} (h:W4 w w' Im kA):∀(x:IV) (b o sz:Nat),Im b->b<w.heap.size->fL w Im x b o sz->fL w' kA x b o sz
 | .agg cs,b,o,sz,hb,hs,hv=>by
  simp only[fL] at hv ⊢;exact⟨hv.1,bK.mono h cs b o hb hs hv.2⟩
 | .bool x,b,o,sz,hb,hs,hv=>by
  simp only[fL] at hv ⊢;obtain⟨h0,v,h1,h2⟩:=hv;exact⟨h0,v,(gK (h.im b hb hs).2.2).trans h1,h2⟩
 | .int k n,b,o,sz,hb,hs,hv=>by
  simp only[fL] at hv ⊢;obtain⟨h0,v,h1,h2⟩:=hv;exact⟨h0,v,(gK (h.im b hb hs).2.2).trans h1,h2⟩
 | .str s,b,o,sz,hb,hs,hv=>by
  simp only[fL] at hv ⊢;obtain⟨h0,v,h1,h2⟩:=hv;exact⟨h0,v,(gK (h.im b hb hs).2.2).trans h1,h2⟩
 | .ifc t,b,o,sz,hb,hs,hv=>by
  simp only[fL] at hv ⊢;obtain⟨h0,v,h1,h2⟩:=hv;exact⟨h0,v,(gK (h.im b hb hs).2.2).trans h1,h2⟩
 | .list xs,b,o,sz,hb,hs,hv=>by
  simp only[fL] at hv ⊢;obtain⟨h0,v,h1,h2⟩:=hv;exact⟨h0,v,(gK (h.im b hb hs).2.2).trans h1,Cr.mono h (λb o sz hb hs he=>bH.mono h xs b o sz hb hs he) h2⟩
theorem bH.mono {w w':World} {Im kA:Nat->Prop} (h:W4 w w' Im kA):∀(xs:List IV) (b o sz:Nat),Im b->b<w.heap.size->bH w Im xs b o sz->bH w' kA xs b o sz
 |[],_,_,_,_,_,_=>by simp[bH]
 |x::r,b,o,sz,hb,hs,hv=>by
  simp only[bH] at hv ⊢;exact⟨fL.mono h x b o sz hb hs hv.1,bH.mono h r b (o+sz) sz hb hs hv.2⟩
end
def aok (w:World) (Im:Nat->Prop) (es:List (Int×List UInt8)) (v:Value):Prop:=
 ∃r xs c,v= .map (some r)/\Im r/\r<w.heap.size/\w.heap[r]?=some (.map xs c)/\xs.toList.map (λe=>(e.key,e.val))=es.map λp=>(Value.int .i64 p.1,Value.string ⟨p.2.toArray⟩)
def aok.mono {w w':World} {Im kA:Nat->Prop} (h:W4 w w' Im kA) {es:List (Int×List UInt8)} {v:Value} (hv:aok w Im es v):aok w' kA es v:=by
 obtain⟨r,xs,c,h1,h2,h3,h4,h5⟩:=hv;obtain⟨k1,k2,k3⟩:=h.im r h2 h3;exact⟨r,xs,c,h1,k1,k2,k3.trans h4,h5⟩
def zq (w:World) (β:Lb->Option Nat) (l:Lb) (sz i c:Nat) (a:Option Addr):Prop:=
 c=0\/∃g S,β l=some g/\a=some ⟨g,i*sz,none⟩/\jl w g=some S/\(i+c)*sz=S
mutual
def RV (w:World) (β:Lb->Option Nat) (H:Hp) (Im:Nat->Prop):AV->Value->Prop
 | .any,_=>True
 | .un,v=>v=undef
 | .bool b,v=>v= .bool b
 | .int k n,v=>v= .int k n
 | .str s,v=>v= .string ⟨s.toArray⟩
 | .list xs,v=>NN w Im (.list xs) v
 | .nil0,v=>∃a,v= .slice a 0 0
 | .jK,v=>v= .pointer none
 | .iT,v=>v= .nilIface
 | .agg cs,v=>∃vs:List Value,v= .agg vs.toArray/\br w β H Im cs vs
 | .gf cs,v=>∃vs:List Value,v= .tuple vs.toArray/\br w β H Im cs vs
 | .sl l sz i n,v=>∃a c,v= .slice a n c/\n<=c/\c<=maxLen/\(0<n->a.isSome=true)/\(live H l->zq w β l sz i c a)
 | .slk l sz i n c,v=>∃a,v= .slice a n c/\n<=c/\c<=maxLen/\(0<c->a.isSome=true)/\(live H l->zq w β l sz i c a)
 | .ptr l sz i j,v=>∃a,v= .pointer (some a)/\(live H l->∃g,β l=some g/\a=⟨g,i*sz+j,none⟩)
 | .lptr cs,v=>∃b o,v= .pointer (some ⟨b,o,none⟩)/\Im b/\b<w.heap.size/\bK w Im cs b o
 | .fn f fs cs,v=>∃vs us:List Value,v= .func (.func f) vs.toArray us.toArray/\br w β H Im fs vs/\br w β H Im cs us
 | .ifc t x,v=>∃u,v= .iface t u/\RV w β H Im x u
 | .mis es,v=>aok w Im es v
def br (w:World) (β:Lb->Option Nat) (H:Hp) (Im:Nat->Prop):List AV->List Value->Prop
 |[],vs=>vs=[]
 |x::r,vs=>∃v us,vs=v::us/\RV w β H Im x v/\br w β H Im r us
end
def aaG {p:Prop} (h:p:=by simp[RV]):p:=h
def abG {p:Prop} (h:p:=by simp[br]):p:=h
mutual
def AV.an:AV->List Lb
 | .sl l _ _ _=>[l]
 | .slk l _ _ _ _=>[l]
 | .ptr l _ _ _=>[l]
 | .agg cs=>ah cs
 | .gf cs=>ah cs
 | .fn _ fs cs=>ah fs++ah cs
 | .ifc _ x=>x.an
 |_=>[]
def ah:List AV->List Lb
 |[]=>[]
 |x::r=>x.an++ah r
end
def aad {p:Prop} (h:p:=by simp[AV.an]):p:=h
def aae {p:Prop} (h:p:=by simp[ah,AV.an]):p:=h
def aao {p:Prop} (h:p:=by simp[AV.an,ah]):p:=h
structure ND (w w':World) (β β':Lb->Option Nat) (H H':Hp) (Im kA:Nat->Prop) (ls:List Lb):Prop extends W4 w w' Im kA where
 lb:∀l∈ls,live H' l->live H l/\β' l=β l/\∀g S,β l=some g->jl w g=some S->jl w' g=some S
def ND.sub {w w':World} {β β':Lb->Option Nat} {H H':Hp} {Im kA:Nat->Prop} {ls ls':List Lb} (h:ND w w' β β' H H' Im kA ls) (hs:∀l∈ls',l∈ls) :
 ND w w' β β' H H' Im kA ls':=⟨h.toW4,λl hl=>h.lb l (hs l hl)⟩
mutual
theorem RV.mono {w w':World} {β β':Lb->Option Nat} {H H':Hp} {Im kA:Nat->Prop}:∀(x:AV) (v:Value),ND w w' β β' H H' Im kA x.an->RV w β H Im x v->RV w' β' H' kA x v
 | .any,_,_,_=>by simp[RV]
 | .un,_,_,hv=>by simpa[RV] using hv
 | .bool _,_,_,hv=>by simpa[RV] using hv
 | .int _ _,_,_,hv=>by simpa[RV] using hv
 | .str _,_,_,hv=>by simpa[RV] using hv
 | .nil0,_,_,hv=>by simpa[RV] using hv
 | .jK,_,_,hv=>by simpa[RV] using hv
 | .iT,_,_,hv=>by simpa[RV] using hv
 | .list xs,v,h,hv=>by simp only[RV] at hv ⊢;exact NN.mono h.toW4 _ _ hv
 | .agg cs,v,h,hv=>by
  simp only[RV] at hv ⊢;obtain⟨vs,rfl,h1⟩:=hv;exact⟨vs,rfl,br.mono cs vs (by simpa[AV.an] using h) h1⟩
 | .gf cs,v,h,hv=>by
  simp only[RV] at hv ⊢;obtain⟨vs,rfl,h1⟩:=hv;exact⟨vs,rfl,br.mono cs vs (by simpa[AV.an] using h) h1⟩
 | .sl l sz i n,v,h,hv=>by
  simp only[RV] at hv ⊢;obtain⟨a,c,h1,h2,h3,h4,h5⟩:=hv;refine⟨a,c,h1,h2,h3,h4,λhl=> ?_⟩;obtain⟨k1,k2,k3⟩:=h.lb l aad hl;rcases h5 k1 with h6|⟨g,S,e1,e2,e3,e4⟩
  ·exact .inl h6
  exact .inr ⟨g,S,k2.trans e1,e2,k3 g S e1 e3,e4⟩
 | .slk l sz i n c,v,h,hv=>by
  simp only[RV] at hv ⊢;obtain⟨a,h1,h2,h3,h4,h5⟩:=hv;refine⟨a,h1,h2,h3,h4,λhl=> ?_⟩;obtain⟨k1,k2,k3⟩:=h.lb l aad hl;rcases h5 k1 with h6|⟨g,S,e1,e2,e3,e4⟩
  ·exact .inl h6
  exact .inr ⟨g,S,k2.trans e1,e2,k3 g S e1 e3,e4⟩
 | .ptr l sz i j,v,h,hv=>by
  simp only[RV] at hv ⊢;obtain⟨a,h1,h2⟩:=hv;refine⟨a,h1,λhl=> ?_⟩;obtain⟨k1,k2,k3⟩:=h.lb l aad hl;obtain⟨g,e1,e2⟩:=h2 k1;exact⟨g,k2.trans e1,e2⟩
 | .lptr cs,v,h,hv=>by
  simp only[RV] at hv ⊢;obtain⟨b,o,h1,h2,h3,h4⟩:=hv;obtain⟨k1,k2,_⟩:=h.im b h2 h3;exact⟨b,o,h1,k1,k2,bK.mono h.toW4 cs b o h2 h3 h4⟩
 | .fn f fs cs,v,h,hv=>by
  simp only[RV] at hv ⊢;obtain⟨vs,us,rfl,h1,h2⟩:=hv;exact⟨vs,us,rfl,br.mono fs vs (h.sub (by simp[AV.an];intro l hl;exact .inl hl)) h1,br.mono cs us (h.sub (by simp[AV.an];intro l hl;exact .inr hl)) h2⟩
 | .ifc t x,v,h,hv=>by
  simp only[RV] at hv ⊢;obtain⟨u,rfl,h1⟩:=hv;exact⟨u,rfl,RV.mono x u (by simpa[AV.an] using h) h1⟩
 | .mis es,v,h,hv=>by simp only[RV] at hv ⊢;exact aok.mono h.toW4 hv
theorem br.mono {w w':World} {β β':Lb->Option Nat} {H H':Hp} {Im kA:Nat->Prop}:∀(xs:List AV) (vs:List Value),ND w w' β β' H H' Im kA (ah xs)->br w β H Im xs vs->br w' β' H' kA xs vs
 |[],_,_,hv=>by simpa[br] using hv
 |x::r,vs,h,hv=>by
  simp only[br] at hv ⊢;obtain⟨v,us,rfl,h1,h2⟩:=hv;exact⟨v,us,rfl,RV.mono x v (h.sub (by simp[ah];intro l hl;exact .inl hl)) h1,br.mono r us (h.sub (by simp[ah];intro l hl;exact .inr hl)) h2⟩
end
def ZE (w:World) (β:Lb->Option Nat) (H:Hp) (Im:Nat->Prop) (l:Lb) (r:Row):Prop:=
 0<r.sz/\(∀cs∈r.els,cs.length=r.sz) /\
 match β l with
 |none=>r.els=[]
 |some g=>∃cur e cap,w.heap[g]?=some (.cells cur e (0,0))/\cur.size=cap*r.sz/\cap<=maxLen/\r.els.length<=cap /\
  ∀i j cs x,r.els[i]?=some cs->cs[j]?=some x->∃v,cur[i*r.sz+j]?=some v/\RV w β H Im x v
def da (w:World) (Im:Nat->Prop) (cs:List IV) (g:Nat):Prop:=bK w Im cs g 0/\jl w g=some cs.length
def da.mono {w w':World} {Im kA:Nat->Prop} (h:W4 w w' Im kA) {cs:List IV} {g:Nat} (hb:Im g) (hs:g<w.heap.size) (hg:da w Im cs g):da w' kA cs g:=
 ⟨bK.mono h cs g 0 hb hs hg.1,by unfold jl;rw[(h.im g hb hs).2.2];exact hg.2⟩
end Go.Am

namespace Go.Am
open Go Go.RowKit
inductive O where
 |t (n:Nat)
 |c (x:AV)
def ev (env:Env):O->AV
 | .t n=>env n
 | .c x=>x
inductive Kd where
 |b|i|s
 deriving DecidableEq
inductive U7 where
 |iC (x:O)
 |pick (c a b:O)
 |wj (a:O) (off:Nat)
 |Vc (x i:O) (sz:Nat)
 |lj (x i:O)
 |len (x:O)
 |lens (x:O)
 |zr (x:O) (lo hi mx:Option O) (sz:Nat)
 |ZL (x:O) (lo hi:Option O)
 |bin (op:BinOp) (x y:O)
 |eqb (neg:Bool) (x y:O)
 |zu (neg:Bool) (x y:O)
 |zv (neg:Bool) (x y:O)
 |pM (neg:Bool) (ks:List Kd) (x y:O)
 |not (x:O)
 |neg (x:O)
 |max (x y:O)
 |min (x y:O)
 |ext (x:O) (i:Nat)
 |sg (z:List AV) (ps:List (Nat×Nat×O))
 |pN (x:O) (off:Nat) (m:Option Nat)
 |lits (n sz:Nat) (z:List AV) (ps:List (Nat×O))
 |oC (x:O)
 |dp (x:O)
 |stuck
 |zw (f:Nat) (cap:List O)
 |qK (k:IntKind) (x:O)
 |YJ (x:O)
 |zg (x:O)
 |wm (x:O)
 |pO (t:Nat) (x:O)
 |load (m:Option Nat) (a:O)
 |box (x:O)
 |new (cs:List AV)
 |tU (n c:O) (sz bytes:Nat) (z:List AV)
 |store (m:Nat) (a x:O)
 |app (s x:O) (sz bytes:Nat)
 |qL (s x:O) (sz:Nat)
 |call (f:Nat) (args:List O)
 |fM (x:O) (args:List O)
 |BJ (neg:Bool) (x:O)
 |wC (x i:O) (n sz:Nat)
 |cap (x:O)
 |si (x:O) (sz:Nat) (z:List AV)
 |kE (f:Nat) (args:List O)
 |oD (x:O) (n sz:Nat)
 |oE (s x:O) (sz bytes:Nat)
 |pP (s n:O) (sz bytes:Nat) (z:List AV)
 |zh (f:Nat) (first cs:List O)
 |gG (sz:Nat) (z:List AV) (ps:List (Nat×O))
 |qM (es:List (Int×List UInt8))
 |sy (x i:O)
structure bh where
 d:Option Nat
 g:Option (Nat×Bool)
 i:U7
abbrev aQ (k:Nat) (i:U7):bh:=⟨some k,none,i⟩
abbrev MR (k j:Nat):bh:=⟨some k,none, .iC (.t j)⟩
abbrev fm (k j:Nat):bh:=⟨some k,none, .load none (.t j)⟩
abbrev ep (k j n:Nat):bh:=⟨some k,none, .wj (.t j) n⟩
abbrev gg (i:U7):bh:=⟨none,none,i⟩
abbrev dW (k j:Nat) (i:U7):bh:=⟨some k,some (j,true),i⟩
abbrev iR (k j:Nat) (i:U7):bh:=⟨some k,some (j,false),i⟩
abbrev jS (n:Int):O:= .c (.int .i64 n)
abbrev me (n:Bool):O:= .c (.bool n)
abbrev et (k:Nat) (b:BinOp) (i j:Nat):bh:=⟨some k,none, .bin b (.t i) (.t j)⟩
abbrev eY (k:Nat) (b:BinOp) (i:Nat) (c:Int):bh:=⟨some k,none, .bin b (.t i) (.c (.int .i64 c))⟩
abbrev gz (k n j:Nat):bh:=⟨some k,none, .load (some n) (.t j)⟩
abbrev jL (k i j n:Nat):bh:=⟨some k,none, .Vc (.t i) (.t j) n⟩
abbrev jT (k i j:Nat):bh:=⟨some k,none, .pick (.t i) (.t j) (.c (.bool false))⟩
abbrev sj (k i j:Nat):bh:=⟨some k,none, .pick (.t i) (.c (.bool true)) (.t j)⟩
abbrev gH (k:Nat) (c:Int):bh:=⟨some k,none, .iC (.c (.int .i64 c))⟩
abbrev jM (k:Nat) (c:Bool):bh:=⟨some k,none, .iC (.c (.bool c))⟩
abbrev ox (k j n:Nat):bh:=⟨some k,none, .ext (.t j) n⟩
abbrev oy (k j:Nat):bh:=⟨some k,none, .len (.t j)⟩
abbrev oF (k j:Nat):bh:=⟨some k,none, .lens (.t j)⟩
abbrev sB (k j:Nat):bh:=⟨some k,none, .not (.t j)⟩
abbrev zzX (k j:Nat):bh:=⟨some k,none, .box (.t j)⟩
abbrev zi (k:Nat):bh:=⟨some k,none, .iC (.c .nil0)⟩
abbrev cU (k g j:Nat):bh:=⟨some k,some (g,true), .iC (.t j)⟩
abbrev gV (k g j:Nat):bh:=⟨some k,some (g,false), .iC (.t j)⟩
abbrev jm (k g j:Nat):bh:=⟨some k,some (g,true), .load none (.t j)⟩
abbrev oG (k g j:Nat):bh:=⟨some k,some (g,false), .load none (.t j)⟩
abbrev Wb (k g j n:Nat):bh:=⟨some k,some (g,true), .wj (.t j) n⟩
abbrev oH (k g j n:Nat):bh:=⟨some k,some (g,false), .wj (.t j) n⟩
structure Kx where
 P:Program
 G:Nat->Option (List IV)
 w0:World
 A:Nat->Prop
 D:Nat->Prop
 N:Nat
 H0:Hp
 β0:Lb->Option Nat
def Im (K:Kx) (β:Lb->Option Nat) (H:Hp) (k:Nat):Prop:=(K.A k\/K.w0.heap.size<=k)/\∀l,live H l->β l≠some k
structure Hf (D:Nat->Prop) (w0 w:World):Prop where
 os:w.os=w0.os
 tape:w.tape=w0.tape
 output:w.output=w0.output
 size:w0.heap.size<=w.heap.size
 block:∀k,k<w0.heap.size->¬D k->w.heap[k]?=w0.heap[k]?
 bs:∀k S,jl w0 k=some S->jl w k=some S
structure aH (K:Kx) (β:Lb->Option Nat) (env:Env) (H:Hp) (a:Act) (w:World):Prop where
 defers:a.defers=[]
 size:a.tmps.size=K.N
 N8:∀n,RV w β H (Im K β H) (env n) (a.tmps.getD n undef)
 rows:∀l r,H l= .live r->ZE w β H (Im K β H) l r
 own:∀l g,live H l->β l=some g->(K.D g\/K.w0.heap.size<=g)
 inj:∀l l' g,live H l->live H l'->β l=some g->β l'=some g->l=l'
 eI:∀n,∀l∈(env n).an,H l≠ .unused
 cH:∀l r,H l= .live r->∀cs∈r.els,∀l'∈ah cs,H l'≠ .unused
 frame:Hf K.D K.w0 w
 W5:∀g cs,K.G g=some cs->Im K β H g/\g<w.heap.size/\da w (Im K β H) cs g
 gA:∀l,live K.H0 l->H l≠ .unused/\(live H l->β l=K.β0 l)
 fr:∀l g,live H l->l.fresh=true->β l=some g->K.w0.heap.size<=g
def put (env:Env) (d:Nat) (x:AV):Env:=λn=>if n=d then x else env n
def abE {p:Prop} (h:p:=by simp[put]):p:=h
def cV (env:Env):Option Nat->AV->Env
 |some d,x=>put env d x
 |none,_=>env
abbrev iU (w w':World):Prop:=Below w.heap.size w w'
def iU.nz {w w':World} (h:iU w w') (β:Lb->Option Nat) (H:Hp) (I:Nat->Prop) (ls:List Lb):ND w w' β β H H I I ls where
 im k hk hs:=⟨hk,Uo hs h.size,h.block k hs⟩
 lb l _ hl:=⟨hl,rfl,λg S _ hS=>by
  unfold jl at *;have:g<w.heap.size:=by
   cases hg:w.heap[g]? with
   |none=>simp[hg] at hS
   |some o=>exact(Rv.1 hg).1
  rwa[h.block g this]⟩
def ZE.wD {w w':World} (h:iU w w') {β:Lb->Option Nat} {H:Hp} {I:Nat->Prop} {l:Lb} {r:Row} (hr:ZE w β H I l r):ZE w' β H I l r:=by
 obtain⟨h1,h2,h3⟩:=hr;refine⟨h1,h2,?_⟩;cases hb:β l with
 |none=>simpa[hb] using h3
 |some g=>
 simp only[hb] at h3 ⊢;obtain⟨cur,e,cap,e1,e2,e3,e4,e5⟩:=h3;have hg:g<w.heap.size:=(Rv.1 e1).1;refine⟨cur,e,cap,(h.block g hg).trans e1,e2,e3,e4,λi j cs x hi hj=> ?_⟩;obtain⟨v,k1,k2⟩:=e5 i j cs x hi hj;exact⟨v,k1,RV.mono x v (h.nz _ _ _ _) k2⟩
def Hf.wD {D:Nat->Prop} {w0 w w':World} (h:Hf D w0 w) (g:iU w w'):Hf D w0 w':=
 ⟨g.os.trans h.os,g.tape.trans h.tape,g.output.trans h.output,U' h.size g.size,
   fun k hk hd => (g.block k (Uo hk h.size)).trans (h.block k hk hd),fun k S hS => by
     have h1:=h.bs k S hS
     unfold jl at h1 ⊢
     have:k<w.heap.size:=by
       cases hg:w.heap[k]? with
       |none=>simp[hg] at h1
       |some o=>exact(Rv.1 hg).1
     rwa[g.block k this]⟩
def qN (t:Array Value) (d n:Nat) (v:Value):(t.setIfInBounds d v).getD n undef=if n=d/\d<t.size then v else t.getD n undef:=by
 simp only[nY,V'];by_cases h:d=n
 ·subst h;by_cases h2:d<t.size
  ·simp[h2]
  simp[h2,Array.getElem?_eq_none (Nat.le_of_not_lt h2)]
 simp[h,Ss h,eq_comm]
def aH.step {K:Kx} {β:Lb->Option Nat} {env:Env} {H:Hp} {a:Act} {w w':World} (h:aH K β env H a w) (g:iU w w')
  {d:Option Nat} {x:AV} {v:Value} (hd:∀n,d=some n->n<K.N) (hx:d.isSome=true->RV w' β H (Im K β H) x v) (hm:d.isSome=true->∀l∈x.an,H l≠ .unused):aH K β (cV env d x) H (a.put d v) w' where
 defers:=by cases d<;>simp[Act.put,h.defers]
 size:=by cases d<;>simp[Act.put,h.size]
 N8 n:=by
  have ho:=RV.mono (env n) (a.tmps.getD n undef) (g.nz β H (Im K β H) _) (h.N8 n);cases d with
  |none=>simpa[cV,Act.put] using ho
  |some d=>
  simp only[cV,Act.put,put,qN];by_cases e:n=d
  ·subst e;have:=hd n rfl;rw[<-h.size] at this;simpa[this] using hx rfl
  simpa[e] using ho
 rows l r hl:=(h.rows l r hl).wD g
 own:=h.own
 inj:=h.inj
 eI n:=by
  cases d with
  |none=>exact h.eI n
  |some d=>
  simp only[cV,put];split
  ·exact hm rfl
  exact h.eI n
 cH:=h.cH
 frame:=h.frame.wD g
 W5 k cs hk:=by
  obtain⟨h1,h2,h3⟩:=h.W5 k cs hk;exact⟨h1,Uo h2 g.size,da.mono (g.nz β H (Im K β H) []).toW4 h1 h2 h3⟩
 gA:=h.gA
 fr:=h.fr
def EL:Value->Option AV
 | .bool b=>some (.bool b)
 | .int k n=>some (.int k n)
 | .string s=>some (.str s.data.toList)
 | .slice none 0 0=>some .nil0
 | .pointer none=>some .jK
 | .nilIface=>some .iT
 |_=>none
def BK:List Value->Option (List AV)
 |[]=>some []
 |v::r=>(EL v).bind λx=>(BK r).map λs=>x::s
def cv:Value->Option AV
 | .agg a=>(BK a.toList).map .agg
 |v=>EL v
def co (G:Nat->Option (List IV)):Operand->Option O
 | .tmp t=>some (.t t)
 | .const v=>(cv v).map .c
 | .func f=>some (.c (.fn f [] []))
 | .global g=>(G g).map λcs=> .c (.lptr cs)
def tV {v:Value} {x:AV} (h:EL v=some x):x.an=[]:=by
 unfold EL at h;split at h<;>simp at h<;>subst h<;>simp[AV.an]
def wE {v:Value} {x:AV} (h:EL v=some x) (w:World) (β:Lb->Option Nat) (H:Hp) (I:Nat->Prop):RV w β H I x v:=by
 unfold EL at h;split at h<;>simp at h<;>subst h<;>simp[RV]
theorem tW:∀(l:List Value) (xs:List AV),BK l=some xs->ah xs=[]
 |[],xs,h=>by simp[BK] at h;subst h;rfl
 |v::r,xs,h=>by
  simp only[BK,yV,jF] at h;obtain⟨x,h1,s,h2,rfl⟩:=h;simp[ah,tV h1,tW r s h2]
theorem wF (w:World) (β:Lb->Option Nat) (H:Hp) (I:Nat->Prop):∀(l:List Value) (xs:List AV),BK l=some xs->br w β H I xs l
 |[],xs,h=>by simp[BK] at h;subst h;simp[br]
 |v::r,xs,h=>by
  simp only[BK,yV,jF] at h;obtain⟨x,h1,s,h2,rfl⟩:=h;simp only[br];exact⟨v,r,rfl,wE h1 _ _ _ _,wF w β H I r s h2⟩
def sE {v:Value} {x:AV} (h:cv v=some x):x.an=[]:=by
 unfold cv at h;split at h
 ·obtain⟨cs,h1,rfl⟩:=jF.1 h;simp[AV.an,tW _ _ h1]
 exact tV h
def BL {v:Value} {x:AV} (h:cv v=some x) (w:World) (β:Lb->Option Nat) (H:Hp) (I:Nat->Prop):RV w β H I x v:=by
 unfold cv at h;split at h
 ·rename_i a;obtain⟨cs,h1,rfl⟩:=jF.1 h;simp only[RV];exact⟨a.toList,tM,wF w β H I _ _ h1⟩
 exact wE h _ _ _ _
def aH.ev {K:Kx} {β:Lb->Option Nat} {env:Env} {H:Hp} {a:Act} {w:World} (h:aH K β env H a w) {x:Operand} {o:O} (hx:co K.G x=some o) :
  RV w β H (Im K β H) (ev env o) (a.eval x):=by
 cases x with
 |tmp t=>simp[co] at hx;subst hx;exact h.N8 t
 |const v=>
  simp only[co,jF] at hx;obtain⟨y,h1,rfl⟩:=hx;exact BL h1 _ _ _ _
 |func f=>simp[co] at hx;subst hx;simp[Am.ev,RV,br,Act.eval]
 |global g=>
 simp only[co,jF] at hx;obtain⟨cs,h1,rfl⟩:=hx;obtain⟨h2,h3,h4⟩:=h.W5 g cs h1;exact⟨g,0,rfl,h2,h3,h4.1⟩
def aH.eo {K:Kx} {β:Lb->Option Nat} {env:Env} {H:Hp} {a:Act} {w:World} (h:aH K β env H a w) {x:Operand} {o:O} (hx:co K.G x=some o) :
  ∀l∈(Am.ev env o).an,H l≠ .unused:=by
 cases x with
 |tmp t=>simp[co] at hx;subst hx;exact h.eI t
 |const v=>
  simp only[co,jF] at hx;obtain⟨y,h1,rfl⟩:=hx;simp[Am.ev,sE h1]
 |func f=>simp[co] at hx;subst hx;simp[Am.ev,AV.an,ah]
 |global g=>
 simp only[co,jF] at hx;obtain⟨cs,h1,rfl⟩:=hx;simp[Am.ev,AV.an]

def ZM (P:Program) (t:TypeId):Option Nat:=(P.info? t).map (·.size)
def u5 (P:Program) (t:TypeId):Option (Option Nat):=
 match P.underlying t with
 |some (.struct _)|some (.array _ _)=>(ZM P t).map some
 |some _=>some none
 |none=>none
def cos (G:Nat->Option (List IV)):List Operand->Option (List O)
 |[]=>some []
 |x::r=>(co G x).bind λy=>(cos G r).map λs=>y::s
def WG (G:Nat->Option (List IV)):Option Operand->Option (Option O)
 |none=>some none
 |some x=>(co G x).map some
def AV.iv:AV->Option IV
 | .bool b=>some (.bool b)
 | .int k n=>some (.int k n)
 | .str s=>some (.str s)
 | .list xs=>some (.list xs)
 | .nil0=>some (.list [])
 | .ifc t _=>some (.ifc t)
 |_=>none
def qO:List AV->Option (List IV)
 |[]=>some []
 |x::r=>x.iv.bind λy=>(qO r).map λs=>y::s
def AV.cells:AV->List AV
 | .agg cs=>cs
 |x=>[x]
def YJ (l:List Value):Option (List AV):=
 match l with
 |[]=>some []
 |v::r=>(cv v).bind λx=>(YJ r).map λs=>x::s
def eu (P:Program):Nat->List Field->Option (List Kd)
 |_,[]=>some []
 |n,f::r=>if f.name != "_"&&f.offset==n then
   match P.underlying f.type with
   |some .string=>(eu P (n+1) r).map λs=> .s::s
   |some .bool=>(eu P (n+1) r).map λs=> .b::s
   |some (.int _)=>(eu P (n+1) r).map λs=> .i::s
   |_=>none
  else none
def jU (P:Program) (t:TypeId):Option (List Kd):=
 match P.underlying t with
 |some (.struct fs)=>if !P.stoodInHeld t&& !P.eqGuardType P.depth t then eu P 0 fs.toList else none
 |_=>none
def jG:BinOp->Option Bool
 | .eql=>some false
 | .neq=>some true
 |_=>none
def sF:Operand->Bool
 | .const .nilIface=>true
 |_=>false
def kF (pl:List (Nat×Nat)):List Nat->List O->Option (List (Nat×Nat×O))
 |j::js,x::xs=>(pl[j]?).bind λp=>(kF pl js xs).map λr=>(p.1,p.2,x)::r
 |[],[]=>some []
 |_,_=>none
def E_ (P:Program) (xt:TypeId):Bool:=match P.underlying xt with|some .string|some (.slice _)=>true|_=>false
def fU (P:Program) (f:Nat):Bool:=(P.funcs[f]?).any (fun fn=>fn.body.isSome&&fn.name != "runtime.NumGoroutine")
def sG:Operand->Bool
 | .const (.slice none 0 0)=>true
 |_=>false
def wG (P:Program) (G:Nat->Option (List IV)) (o:Oper):Option U7:=
 match o.op with
 | .move x| .assign x=>(co G x).map .iC
 | .pick c a b=>(co G c).bind λc=>(co G a).bind λa=>(co G b).map λb=> .pick c a b
 | .fieldAddr t x f=>
  match P.underlying t with
  |some (.struct fs)=>fs[f]?.bind λfd=>(ZM P fd.type).bind λs=>if s=0 then none else(co G x).map λx=> .wj x fd.offset
  |_=>none
 | .indexAddr t x i=>
  match P.underlying t with
  |some (.slice e)=>(ZM P e).bind λs=>(co G x).bind λx=>(co G i).map λi=> .Vc x i s
  |some (.array n e)=>(ZM P e).bind λs=>(co G x).bind λx=>(co G i).map λi=> .wC x i n s
  |_=>none
 | .index t x i=>
  match P.underlying t with
  |some .string=>(co G x).bind λx=>(co G i).map λi=> .lj x i
  |_=>none
 | .slice t x lo hi mx=>
  match P.underlying t with
  |some (.slice e)=>(ZM P e).bind λs=>(co G x).bind λx=>(WG G lo).bind λlo=>(WG G hi).bind λhi=>(WG G mx).map λmx=> .zr x lo hi mx s
  |some .string=>if mx.isSome then none else(co G x).bind λx=>(WG G lo).bind λlo=>(WG G hi).map λhi=> .ZL x lo hi
  |some (.array n e)=>if lo.isNone&&hi.isNone&&mx.isNone then(ZM P e).bind λs=>if s=0 then none else(co G x).map λx=> .oD x n s else none
  |_=>none
 | .makeSlice t n c=>
  match P.underlying t with
  |some (.slice e)=>match P.info? e with
   |some i=>match i.zero with
    |some z=>if z.cells.size=i.size/\0<i.size/\0<i.bytes then(YJ z.cells.toList).bind λzs=>(co G n).bind λn=>(co G c).map λc=> .tU n c i.size i.bytes zs else none
    |none=>none
   |none=>none
  |_=>none
 | .binOp op t x y _=>
  match P.underlying t with
  |some (.int _)|some .string=>(co G x).bind λx=>(co G y).map λy=> .bin op x y
  |some .bool=>(jG op).bind λn=>(co G x).bind λx=>(co G y).map λy=> .eqb n x y
  |some (.pointer _)=>(jG op).bind λn=>(co G x).bind λx=>(co G y).map λy=> .zu n x y
  |some (.interface _)=>if sF y then(jG op).bind λn=>(co G x).bind λx=>(co G y).map λy=> .zv n x y else none
  |some (.struct _)=>(jU P t).bind λks=>(jG op).bind λn=>(co G x).bind λx=>(co G y).map λy=> .pM n ks x y
  |some (.slice _)=>if sG y then(jG op).bind λn=>(co G x).map λx=> .BJ n x else none
  |_=>none
 | .unOp .not _ x=>(co G x).map .not
 | .unOp .neg _ x=>(co G x).map .neg
 | .extract x i=>(co G x).map λx=> .ext x i
 | .nilCheck x=>(co G x).map .dp
 | .box _ x=>(co G x).map .box
 | .makeFunc (.func f) first cap=>if first.isEmpty then(cos G cap.toList).map λc=> .zw f c else(cos G first.toList).bind λq=>(cos G cap.toList).map λc=> .zh f q c
 | .load t x=>(u5 P t).bind λm=>(co G x).map λx=> .load m x
 | .alloc t=>match P.info? t with
  |some i=>match i.zero with
   |some z=>if z.cells.size=i.size then(YJ z.cells.toList).map .new else none
   |none=>none
  |none=>none
 | .store t x y=>(ZM P t).bind λs=>(co G x).bind λx=>(co G y).map λy=> .store s x y
 | .convert s d x=>
  match P.underlying s,P.underlying d with
  |some (.int _),some (.int k)=>(co G x).map λx=> .qK k x
  |some .string,some .string=>(co G x).map .YJ
  |some .string,some (.slice e)=>match P.underlying e with
   |some (.int .u8)=>(co G x).map .zg
   |_=>none
  |some (.slice e),some .string=>match P.underlying e with
   |some (.int .u8)=>(co G x).map .wm
   |_=>none
  |_,_=>none
 | .makeInterface t x=>
  match P.underlying t with
  |some (.interface _)=>none
  |some _=>(co G x).map λx=> .pO t x
  |none=>none
 | .lookup t x i ok=>if ok then none else match P.underlying t with
  |some (.map k e)=>match P.underlying k,(P.info? e).bind (·.zero) with
   |some (.int _),some (.string z)=>if z.data.toList=[] then(co G x).bind λx=>(co G i).map λi=> .sy x i else none
   |_,_=>none
  |_=>none
 | .field t x f=>
  match P.underlying t with
  |some (.struct fs)=>fs[f]?.bind λfd=>(u5 P fd.type).bind λm=>(co G x).map λx=> .pN x fd.offset m
  |_=>none
 | .buildSlice t n ps=>
  match P.underlying t with
  |some (.slice e)=>match P.info? e with
   |some i=>match i.zero with
    |some z=>if z.cells.size=i.size/\0<i.size/\n*i.size<=2^24 then(YJ z.cells.toList).bind λzs=>(cos G (ps.toList.map (·.2))).map λxs=> .lits n i.size zs ((ps.toList.map (·.1)).zip xs) else none
    |none=>none
   |none=>none
  |_=>none
 | .build t ps=>
  match P.info? t,P.underlying t with
  |some it,some (.struct fields)=>match it.zero,fields.toList.mapM (λf=>(P.info? f.type).map λi=>(f.offset,i.size)) with
   |some z,some places=>(YJ z.cells.toList).bind λzs=>(cos G (ps.toList.map (·.2))).bind λxs=>(kF places (ps.toList.map (·.1)) xs).map λqs=> .sg zs qs
   |_,_=>none
  |_,_=>none
 | .call c=>
  match c.callee with
  | .builtin .len=>match c.args.toList,c.argTypes[0]?.bind P.underlying with
   |[x],some .string=>(co G x).map .lens
   |[x],some (.slice _)=>(co G x).map .len
   |_,_=>none
  | .builtin .max=>match c.args.toList with
   |[x,y]=>(co G x).bind λx=>(co G y).map λy=> .max x y
   |_=>none
  | .builtin .min=>match c.args.toList with
   |[x,y]=>(co G x).bind λx=>(co G y).map λy=> .min x y
   |_=>none
  | .builtin .append=>match c.args.toList,c.argTypes.toList with
   |[s,x],[st,xt]=>match P.underlying st with
    |some (.slice e)=>match P.info? e with
     |some i=>if(i.zero.map (·.cells.size))==some i.size&&decide (0<i.size)&&E_ P xt then
      (co G s).bind λs=>(co G x).map λx=> .app s x i.size i.bytes else match P.underlying xt,i.zero with
       |some (.int _),some z=>if z.cells.size=i.size/\0<i.size/\0<i.bytes then(YJ z.cells.toList).bind λzs=>(co G s).bind λs=>(co G x).map λx=> .pP s x i.size i.bytes zs else none
       |_,_=>none
     |none=>none
    |_=>none
   |_,_=>none
  | .builtin .cap=>match c.args.toList,c.argTypes[0]?.bind P.underlying with
   |[x],some (.slice _)=>(co G x).map .cap
   |_,_=>none
  | .builtin .copy=>match c.args.toList,c.argTypes.toList with
   |[d,x],[dt,_]=>match P.underlying dt with
    |some (.slice e)=>(ZM P e).bind λs=>if s=0 then none else(co G d).bind λd=>(co G x).map λx=> .qL d x s
    |_=>none
   |_,_=>none
  | .builtin .clear=>match c.args.toList,c.argTypes[0]?.bind P.underlying with
   |[x],some (.slice e)=>match P.info? e with
    |some i=>match i.zero with
     |some z=>if z.cells.size=i.size/\0<i.size then(YJ z.cells.toList).bind λzs=>(co G x).map λx=> .si x i.size zs else none
     |none=>none
    |none=>none
   |_,_=>none
  | .builtin _=>none
  | .invoke _ _=>none
  | .value (.func f)=>if fU P f then(cos G c.args.toList).map λxs=> .call f xs else(cos G c.args.toList).map λxs=> .kE f xs
  | .value f=>(co G f).bind λy=>(cos G c.args.toList).map λxs=> .fM y xs
 |_=>none
def comp (P:Program) (G:Nat->Option (List IV)) (o:Oper):Option U7:=match wG P G o with
 |some i=>some i
 |none=>some .stuck
open Classical in
noncomputable def lk (env:Env) (o:Option O) (HX mx:Nat):Option Nat:=
 match o with
 |none=>some HX
 |some x=>match ev env x with
  | .int _ v=>if 0≤v∧v.toNat≤mx then some v.toNat else none
  |_=>none
def KB (xs:List IV):Prop:=∀y∈xs,∀z∈y.cells,∀cs,z≠ .agg cs
def jV (sz:Nat) (xs:List IV):Prop:=∀x∈xs,x.cells.length=sz
def dk (op:BinOp) (x y:AV):Option AV:=
 match x,y with
 | .int k a,.int k' b=>if k=k' then match op with
   | .add=>some (.int k (k.wrap (a+b)))
   | .sub=>some (.int k (k.wrap (a - b)))
   | .mul=>some (.int k (k.wrap (a*b)))
   | .quo=>if b=0 then none else some (.int k (k.wrap (a.tdiv b)))
   | .rem=>if b=0 then none else some (.int k (a.tmod b))
   | .eql=>some (.bool (a==b))
   | .neq=>some (.bool (a !=b))
   | .lss=>some (.bool (a<b))
   | .leq=>some (.bool (a<=b))
   | .gtr=>some (.bool (a>b))
   | .geq=>some (.bool (a>=b))
   | .shr=>if 0<=b then some (.int k (a/2^min b.toNat k.bits)) else none
   |_=>none
  else none
 | .str a,.str b=>match op with
   | .add=>if a.length+b.length<=9223372036854775807 then some (.str (a++b)) else none
   | .eql=>some (.bool (a==b))
   | .neq=>some (.bool !(a==b))
   | .lss=>some (.bool (Op.bytesLess a b))
   | .leq=>some (.bool (Op.bytesLess a b||a==b))
   | .gtr=>some (.bool !(Op.bytesLess a b||a==b))
   | .geq=>some (.bool !(Op.bytesLess a b))
   |_=>none
 |_,_=>none
def JP:Kd->AV->AV->Option Bool
 | .b,.bool a,.bool b=>some (a==b)
 | .i,.int k a,.int k' b=>if k=k' then some (a==b) else none
 | .s,.str a,.str b=>some (a==b)
 |_,_,_=>none
def eqs:List Kd->List AV->List AV->Option Bool
 |[],[],[]=>some true
 |k::ks,x::r,y::s=>(JP k x y).bind λa=>(eqs ks r s).map λb=>a&&b
 |_,_,_=>none
def JQ:AV->AV->Option Bool
 | .jK,.jK=>some true
 | .jK,.ptr ..=>some false
 | .jK,.lptr ..=>some false
 | .ptr ..,.jK=>some false
 | .lptr ..,.jK=>some false
 |_,_=>none
noncomputable def nB (env:Env) (lo hi mx:Option O) (n:Nat):Option (Nat×Nat×Option Nat):=
 match mx with
 |none=>(lk env hi n n).bind λh=>(lk env lo 0 h).map λl=>(l,h,none)
 |some m=>if hi.isNone then none else(lk env (some m) 0 n).bind λm=>(lk env hi 0 m).bind λh=>(lk env lo 0 h).map λl=>(l,h,some m)
noncomputable def sH (env:Env) (lo hi mx:Option O) (n c:Nat):Option (Nat×Nat×Option Nat):=
 match mx with
 |none=>(lk env hi n c).bind λh=>(lk env lo 0 h).map λl=>(l,h,none)
 |some m=>if hi.isNone then none else(lk env (some m) 0 c).bind λm=>(lk env hi 0 m).bind λh=>(lk env lo 0 h).map λl=>(l,h,some m)
open Classical in
noncomputable def Cs (env:Env) (x:AV) (lo hi mx:Option O) (sz:Nat):Option AV:=
 match x with
 | .nil0=>(nB env lo hi mx 0).map fun _=> .nil0
 | .list xs=>if jV sz xs then(nB env lo hi mx xs.length).map fun b=>if b.2.2=some b.1 then .nil0 else .list ((xs.take b.2.1).drop b.1) else none
 | .sl lb s i n=>if s=sz then(nB env lo hi mx n).bind fun b=>if b.2.2.isSome then none else some (.sl lb s (i+b.1) (b.2.1 - b.1)) else none
 | .slk lb s i n c=>if s=sz then(sH env lo hi mx n c).bind fun b=>if b.2.2.isSome then some .any else some (.slk lb s (i+b.1) (b.2.1 - b.1) (c - b.1)) else none
 |_=>none
def AV.one:AV->Bool
 | .any| .un| .agg _| .gf _=>false
 |_=>true
def AV.sI:AV->Bool
 | .agg cs=>cs.all AV.one
 |x=>x.one
def fg:List AV->List (Nat×Nat×AV)->Option (List AV)
 |cs,[]=>some cs
 |cs,(off,sz,x)::r=>if x.sI=true/\x.cells.length=sz/\off+sz<=cs.length then fg (cs.take off++x.cells++cs.drop (off+sz)) r else none
def zx:List IV->IV
 |[y]=>y
 |ys=> .agg ys
def chunks (sz:Nat):Nat->List IV->List IV
 |0,_=>[]
 |n+1,ys=>zx (ys.take sz)::chunks sz n (ys.drop sz)
def jW:List IV->Option (List UInt8)
 |[]=>some []
 | .int .u8 n::r=>(jW r).map (UInt8.ofNat n.toNat::·)
 |_=>none
def sJ:AV->Option AV
 | .list xs=>(jW xs).map .str
 | .nil0=>some (.str [])
 |_=>none
open Classical in
noncomputable def c6 (i:U7) (env:Env):Option AV:=
 match i with
 | .iC x=>some (ev env x)
 | .pick c a b=>match ev env c with
  | .bool t=>some (if t then ev env a else ev env b)
  |_=>none
 | .wj a off=>match ev env a with
  | .ptr l sz i j=>some (.ptr l sz i (j+off))
  | .lptr cs=>some (.lptr (cs.drop off))
  |_=>none
 | .Vc x i sz=>match ev env x,ev env i with
  | .list xs,.int _ n=>if 0<=n then match xs[n.toNat]? with
    |some y=>if jV sz xs then some (.lptr y.cells) else none
    |none=>none
   else none
  | .sl l s i0 m,.int _ n=>if 0<=n/\n.toNat<m/\s=sz then some (.ptr l s (i0+n.toNat) 0) else none
  |_,_=>none
 | .lj x i=>match ev env x,ev env i with
  | .str s,.int _ n=>if 0<=n then match s[n.toNat]? with
    |some c=>some (.int .u8 c.toNat)
    |none=>none
   else none
  |_,_=>none
 | .lens x=>match ev env x with
  | .str s=>some (.int .i64 s.length)
  |_=>none
 | .len x=>match ev env x with
  | .list xs=>some (.int .i64 xs.length)
  | .nil0=>some (.int .i64 0)
  | .sl _ _ _ n=>some (.int .i64 n)
  | .slk _ _ _ n _=>some (.int .i64 n)
  |_=>none
 | .zr x lo hi mx sz=>Cs env (ev env x) lo hi mx sz
 | .ZL x lo hi=>match ev env x with
  | .str s=>(lk env hi s.length s.length).bind λh=>(lk env lo 0 h).map λl=> .str ((s.take h).drop l)
  |_=>none
 | .bin op x y=>dk op (ev env x) (ev env y)
 | .eqb neg x y=>match ev env x,ev env y with
  | .bool a,.bool b=>some (.bool (neg ^^ (a==b)))
  |_,_=>none
 | .zu neg x y=>(JQ (ev env x) (ev env y)).map λb=> .bool (neg ^^ b)
 | .zv neg x _=>match ev env x with
  | .iT=>some (.bool (neg ^^ true))
  | .ifc _ _=>some (.bool (neg ^^ false))
  |_=>none
 | .pM neg ks x y=>match ev env x,ev env y with
  | .agg xs,.agg ys=>(eqs ks xs ys).map λb=> .bool (neg ^^ b)
  |_,_=>none
 | .not x=>match ev env x with
  | .bool b=>some (.bool !b)
  |_=>none
 | .neg x=>match ev env x with
  | .int k n=>some (.int k (k.wrap (0 - n)))
  |_=>none
 | .max x y=>match ev env x,ev env y with
  | .int k a,.int k' b=>if k=k' then some (.int k (if b>a then b else a)) else none
  |_,_=>none
 | .min x y=>match ev env x,ev env y with
  | .int k a,.int k' b=>if k=k' then some (.int k (if b<a then b else a)) else none
  |_,_=>none
 | .ext x i=>match ev env x with
  | .gf cs=>cs[i]?
  |_=>none
 | .dp x=>match ev env x with
  | .ptr l sz i j=>some (.ptr l sz i j)
  | .lptr cs=>some (.lptr cs)
  | .fn f a b=>some (.fn f a b)
  |_=>none
 | .zw f cap=>some (.fn f [] (cap.map (ev env)))
 | .zh f q cap=>some (.fn f (q.map (ev env)) (cap.map (ev env)))
 | .qK k x=>match ev env x with
  | .int _ n=>some (.int k (k.wrap n))
  |_=>none
 | .YJ x=>match ev env x with
  | .str s=>some (.str s)
  |_=>none
 | .pO t x=>some (.ifc t (ev env x))
 | .sg z ps=>(fg z (ps.map λp=>(p.1,p.2.1,ev env p.2.2))).map .agg
 | .pN x off m=>match ev env x with
  | .agg cs=>match m with
   |none=>cs[off]?
   |some k=>if off+k<=cs.length then some (.agg ((cs.drop off).take k)) else none
  |_=>none
 | .oC x=>(qO (ev env x).cells).map .lptr
 | .lits n sz z ps=>if sz*n=0 then(if n=0/\ps.isEmpty=true then some .nil0 else none) else(fg ((List.replicate n z).flatten) (ps.map λp=>(p.1*sz,sz,ev env p.2))).bind λcs=>(qO cs).map λys=>
   .list (chunks sz n ys)
 | .load m a=>match ev env a with
  | .lptr cs=>match m with
   |none=>cs[0]?.map IV.dQ
   |some k=>if k<=cs.length then some (.agg ((cs.take k).map IV.dQ)) else none
  |_=>none
 | .zg x=>match ev env x with
  | .str s=>if s.length<=140737488355328 then some (.list (s.map λc=> .int .u8 c.toNat)) else none
  |_=>none
 | .wm x=>sJ (ev env x)
 | .wC x i n sz=>match ev env x,ev env i with
  | .ptr l s a j,.int _ m=>if 0<=m/\m.toNat<n then some (.ptr l s a (j+m.toNat*sz)) else none
  | .lptr cs,.int _ m=>if 0<=m/\m.toNat<n then some (.lptr (cs.drop (m.toNat*sz))) else none
  |_,_=>none
 | .oD x n sz=>match ev env x with
  | .lptr cs=>if cs.length=n*sz/\n<=maxLen/\(∀y∈cs,y.cells=[y]) then some (.list (chunks sz n cs)) else none
  |_=>none
 | .oE s x sz bytes=>match ev env s,ev env x with
  | .nil0,.list xs=>if jV sz xs/\KB xs/\xs.length*bytes<=140737488355328/\0<bytes/\0<sz then some (.list xs) else none
  | .nil0,.nil0=>if 0<sz then some (.list []) else none
  |_,_=>none
 | .qM es=>some (.mis es)
 | .sy x i=>match ev env x,ev env i with
  | .mis es,.int .i64 n=>some (.str ((es.lookup n).getD []))
  |_,_=>none
 |_=>none
end Go.Am

namespace Go.Am
open Go Go.RowKit
def aJ (K:Kx) (β:Lb->Option Nat) (H:Hp) (a:Act) (w:World) (o:Oper) (x:AV):Prop:=
 ∃v w',(execOp a.eval o).run K.P w= .ok (.value v) w'/\iU w w'/\RV w' β H (Im K β H) x v/\∀l∈x.an,H l≠ .unused
def aJ.same {K:Kx} {β:Lb->Option Nat} {H:Hp} {a:Act} {w:World} {o:Oper} {x:AV} {v:Value} (h:(execOp a.eval o).run K.P w= .ok (.value v) w)
 (hv:RV w β H (Im K β H) x v) (hm:∀l∈x.an,H l≠ .unused):aJ K β H a w o x:=⟨v,w,h,Below.refl _ _,hv,hm⟩
section
variable {K:Kx} {β:Lb->Option Nat} {env:Env} {H:Hp} {a:Act} {w:World}
def BM (hr:aH K β env H a w) {o:Oper} {x:Operand} {y:O} (ho:o.op= .move x\/o.op= .assign x) (hy:co K.G x=some y):aJ K β H a w o (ev env y):=by
 refine aJ.same (v:=a.eval x) ?_ (hr.ev hy) (hr.eo hy);rcases ho with ho|ho<;>simp[execOp,ho]
def Ct (hr:aH K β env H a w) {o:Oper} {c x y:Operand} {c' x' y':O} (ho:o.op= .pick c x y) (hc:co K.G c=some c') (hx:co K.G x=some x') (hy:co K.G y=some y')
  {t:Bool} (ht:ev env c'= .bool t):aJ K β H a w o (if t then ev env x' else ev env y'):=by
 have h:=hr.ev hc;rw[ht] at h;simp only[RV] at h;refine aJ.same (v:=if t then a.eval x else a.eval y) ?_ ?_ ?_
 ·cases t<;>simp[execOp,ho,h,asBool]
 ·cases t
  ·simpa using hr.ev hy
  simpa using hr.ev hx
 cases t
 ·simpa using hr.eo hy
 simpa using hr.eo hx
def addr_add (g off n:Nat):(⟨g,off,none⟩:Addr).add n=⟨g,off+n,none⟩:=by
 unfold Addr.add;split<;>simp_all
def cp {P:Program} {t:TypeId} {s:Nat} (h:ZM P t=some s) (w:World):(sizeOf t).run P w= .ok s w:=by
 unfold ZM at h;obtain⟨i,h1,h2⟩:=jF.1 h;simp[sizeOf,typeInfo,h1,h2]
theorem il {w:World} {I:Nat->Prop}:∀(n:Nat) (cs:List IV) (b o:Nat),bK w I cs b o->bK w I (cs.drop n) b (o+n)
 |0,cs,b,o,h=>by simpa using h
 |n+1,[],b,o,_=>by simp[bK]
 |n+1,x::r,b,o,h=>by
  simp only[bK] at h;have:=il n r b (o+1) h.2;rw[SX]
  rwa[show o+1+n=o+(n+1) by omega] at this
def Fa (hr:aH K β env H a w) {o:Oper} {t:TypeId} {x:Operand} {f:Nat} {fs:Array Field} {fd:Field} {s:Nat} {x':O} (ho:o.op= .fieldAddr t x f)
  (ht:K.P.underlying t=some (.struct fs)) (hf:fs[f]?=some fd) (hs:ZM K.P fd.type=some s) (wo:s≠0) (hx:co K.G x=some x') {y:AV}
  (hy:c6 (.wj x' fd.offset) env=some y):aJ K β H a w o y:=by
 have h:=hr.ev hx;have hm:=hr.eo hx;have run:∀ad:Addr,a.eval x= .pointer (some ad)->(execOp a.eval o).run K.P w= .ok (.value (.pointer (some (ad.add fd.offset)))) w:=λad HY=>by
  simp[execOp,ho,HY,Instr.fieldAt,run_underlying ht,hf,Instr.sureAddr,fieldPlace,cp hs,wo,Result.andThen]
 simp only[c6] at hy;split at hy<;>simp at hy<;>subst hy<;>rename_i heq
 ·rw[heq] at h hm;simp only[RV] at h;obtain⟨ad,h1,h2⟩:=h;refine aJ.same (run ad h1) ?_ (by simpa[AV.an] using hm);simp only[RV];refine⟨_,rfl,λhl=> ?_⟩;obtain⟨g,k1,rfl⟩:=h2 hl;exact⟨g,k1,by rw[addr_add];simp[ze]⟩
 rw[heq] at h;simp only[RV] at h;obtain⟨b,o',h1,h2,h3,h4⟩:=h;refine aJ.same (run _ h1) ?_ aad;rw[addr_add];exact⟨b,_,rfl,h2,h3,il _ _ _ _ h4⟩
theorem oU {w:World} {I:Nat->Prop} {sz:Nat}:∀(k:Nat) (xs:List IV) (b o:Nat) (y:IV),xs[k]?=some y->bH w I xs b o sz->fL w I y b (o+k*sz) sz
 |0,[],_,_,_,h,_=>by simp at h
 |0,x::r,b,o,y,h,he=>by
  simp at h;subst h;simp only[bH] at he;simpa using he.1
 |k+1,[],_,_,_,h,_=>by simp at h
 |k+1,x::r,b,o,y,h,he=>by
  simp only[bH] at he;have:=oU k r b (o+sz) y (by simpa using h) he.2
  rwa[show o+sz+k*sz=o+(k+1)*sz by rw[Sv];omega] at this
def run_indexAt_slice {P:Program} {w:World} {t e:TypeId} {s:Nat} (ht:P.underlying t=some (.slice e)) (hs:ZM P e=some s) (ad:Addr) (n c:Nat) (k:IntKind) (i:Int) (h0:0<=i) (hi:i.toNat<n) :
  (Instr.indexAt t (.slice (some ad) n c) (.int k i)).run P w= .ok (.pointer (some (ad.add (i.toNat*s)))) w:=by
 have:i<(n:Int):=sf
 simp[Instr.indexAt,asIntOf,run_underlying ht,cp hs,h0,this,Result.andThen]
def Fb (hr:aH K β env H a w) {o:Oper} {t e:TypeId} {x i:Operand} {n s:Nat} {x' i':O} (ho:o.op= .indexAddr t x i)
  (ht:K.P.underlying t=some (.array n e)) (hs:ZM K.P e=some s) (hx:co K.G x=some x') (hi:co K.G i=some i') {y:AV}
  (hy:c6 (.wC x' i' n s) env=some y):aJ K β H a w o y:=by
 have h:=hr.ev hx;have h2:=hr.ev hi;have hm:=hr.eo hx;have run:∀(ad:Addr) (k:IntKind) (m:Int),a.eval x= .pointer (some ad)->a.eval i= .int k m->0<=m->m.toNat<n->(execOp a.eval o).run K.P w= .ok (.value (.pointer (some (ad.add (m.toNat*s))))) w:=λad k m HY qB h0 bI=>by
  have JR:m<(n:Int):=sf
  simp[execOp,ho,HY,qB,Instr.indexAt,asIntOf,run_underlying ht,Instr.sureAddr,cp hs,Result.andThen,h0,JR]
 simp only[c6] at hy;split at hy
 ·rename_i l sz a0 j k m e1 e2;rw[e1] at h hm;rw[e2] at h2;simp only[RV,NN] at h h2;split at hy
  ·rename_i hn;simp only[di] at hy;subst hy;obtain⟨ad,h3,h4⟩:=h;refine aJ.same (run ad k m h3 h2 hn.1 hn.2) ?_ (by simpa[AV.an] using hm);simp only[RV];refine⟨_,rfl,λhl=> ?_⟩;obtain⟨g,k1,rfl⟩:=h4 hl;exact⟨g,k1,by rw[addr_add];simp[ze]⟩
  simp at hy
 ·rename_i cs k m e1 e2;rw[e1] at h;rw[e2] at h2;simp only[RV,NN] at h h2;split at hy
  ·rename_i hn;simp only[di] at hy;subst hy;obtain⟨b,o',h3,h4,h5,h6⟩:=h;refine aJ.same (run _ k m h3 h2 hn.1 hn.2) ?_ aad;rw[addr_add];exact⟨b,_,rfl,h4,h5,il _ _ _ _ h6⟩
  simp at hy
 simp at hy
def Fc (hr:aH K β env H a w) {o:Oper} {t e:TypeId} {x i:Operand} {s:Nat} {x' i':O} (ho:o.op= .indexAddr t x i)
  (ht:K.P.underlying t=some (.slice e)) (hs:ZM K.P e=some s) (hx:co K.G x=some x') (hi:co K.G i=some i') {y:AV}
  (hy:c6 (.Vc x' i' s) env=some y):aJ K β H a w o y:=by
 have h:=hr.ev hx;have h2:=hr.ev hi;have hm:=hr.eo hx;simp only[c6] at hy;split at hy
 ·rename_i xs k n e1 e2;rw[e1] at h;rw[e2] at h2;simp only[RV,NN] at h h2;split at hy
  ·rename_i hn;split at hy
   ·rename_i z hz;split at hy
    ·rename_i ll;simp only[di] at hy;subst hy;obtain⟨ad,c,h3,h4,h5,h6⟩:=h;have bI:n.toNat<xs.length:=(yY.1 hz).1;rcases h6 with h6|⟨b,of,sz,rfl,h7,h8,h9,wH⟩
     ·omega
     have Cu:=oU n.toNat xs b of z hz wH;rw[eH] at Cu;have HZ:sz=s:=(by rw[Cu.1];exact ll z (PX hz));subst HZ;refine aJ.same (v:= .pointer (some ⟨b,of+n.toNat*sz,none⟩)) ?_ ⟨b,_,rfl,h7,h8,Cu.2⟩ aad;simp[execOp,ho,h3,h2,run_indexAt_slice ht hs _ _ _ _ _ hn bI,addr_add]
    simp at hy
   simp at hy
  simp at hy
 ·rename_i l s' i0 m k n e1 e2;rw[e1] at h hm;rw[e2] at h2;simp only[RV] at h h2;split at hy
  ·rename_i hn;obtain⟨wq,Cv,rfl⟩:=hn;simp only[di] at hy;subst hy;obtain⟨ad,c,h3,h4,h5,h6,h7⟩:=h;obtain⟨KC,rfl⟩:=He.1 (h6 sf);refine aJ.same (v:= .pointer (some (KC.add (n.toNat*s')))) ?_ ?_ (by simpa[AV.an] using hm)
   ·simp[execOp,ho,h3,h2,run_indexAt_slice ht hs _ _ _ _ _ wq Cv]
   refine⟨_,rfl,λhl=> ?_⟩;rcases h7 hl with h8|⟨g,S,k1,k2,k3,k4⟩
   ·omega
   simp only[di] at k2;subst k2;exact⟨g,k1,by rw[addr_add];simp[Sv]⟩
  simp at hy
 simp at hy
def Fe (hr:aH K β env H a w) {o:Oper} {t:TypeId} {x i:Operand} {x' i':O} (ho:o.op= .index t x i)
  (ht:K.P.underlying t=some .string) (hx:co K.G x=some x') (hi:co K.G i=some i') {y:AV}
  (hy:c6 (.lj x' i') env=some y):aJ K β H a w o y:=by
 have h:=hr.ev hx;have h2:=hr.ev hi;simp only[c6] at hy;split at hy
 ·rename_i s k n e1 e2;rw[e1] at h;rw[e2] at h2;simp only[RV] at h h2;split at hy
  ·rename_i hn;split at hy
   ·rename_i c hc;simp only[di] at hy;subst hy;have bI:n.toNat<s.length:=(yY.1 hc).1;refine aJ.same (v:= .int .u8 c.toNat) ?_ aaG aad;have KD:(⟨s.toArray⟩:ByteArray)[n.toNat]?=some c:=by
     have e:s[n.toNat]=c:=(yY.1 hc).2;have hs:n.toNat<(⟨s.toArray⟩:ByteArray).size:=(by show n.toNat<s.toArray.size;simpa using bI);rw[getElem?_pos (⟨s.toArray⟩:ByteArray) n.toNat hs];exact VZ some e
    simp[execOp,ho,h,h2,Instr.index,asIntOf,run_underlying ht,hn,KD]
   simp at hy
  simp at hy
 simp at hy
def jX (s:List UInt8):(⟨s.toArray⟩:ByteArray).size=s.length:=by show s.toArray.size=_;simp
def Cw (hr:aH K β env H a w) {o:Oper} {c:Call} {x:Operand} {x':O} (ho:o.op= .call c) (hc:c.callee= .builtin .len) (ha:c.args.toList=[x])
  (ht:c.argTypes[0]?.bind K.P.underlying=some .string) (hx:co K.G x=some x') {y:AV} (hy:c6 (.lens x') env=some y):aJ K β H a w o y:=by
 have h:=hr.ev hx;obtain⟨t,sk,u6⟩:=yV.1 ht;have pQ:c.args=#[x]:=by cases hh:c.args;simp_all
 simp only[c6] at hy;split at hy
 ·rename_i s hs;rw[hs] at h;simp only[RV,di] at h hy;subst hy;refine aJ.same (v:= .int .i64 s.length) ?_ aaG aad;simp[execOp,ho,resolve,hc,pQ,h,invoke,builtin,Builtin.len_,sk,run_underlying u6,goInt,jX]
 simp at hy
def Ff (hr:aH K β env H a w) {o:Oper} {c:Call} {x:Operand} {x':O} {e:TypeId} (ho:o.op= .call c) (hc:c.callee= .builtin .len) (ha:c.args.toList=[x])
  (ht:c.argTypes[0]?.bind K.P.underlying=some (.slice e)) (hx:co K.G x=some x') {y:AV} (hy:c6 (.len x') env=some y):aJ K β H a w o y:=by
 have h:=hr.ev hx;obtain⟨t,sk,u6⟩:=yV.1 ht;have pQ:c.args=#[x]:=by cases hh:c.args;simp_all
 have sl:∀(ad:Option Addr) (n c':Nat),a.eval x= .slice ad n c'->(execOp a.eval o).run K.P w= .ok (.value (.int .i64 n)) w:=by
  intro ad n c' hv;simp[execOp,ho,resolve,hc,pQ,hv,invoke,builtin,Builtin.len_,sk,run_underlying u6,goInt]
 simp only[c6] at hy;split at hy
 ·rename_i xs hs;rw[hs] at h;simp only[RV,NN,di] at h hy;subst hy;obtain⟨ad,c',h3,h4⟩:=h;exact aJ.same (sl _ _ _ h3) aaG aad
 ·rename_i hs;rw[hs] at h;simp only[RV,di] at h hy;subst hy;obtain⟨ad,h3⟩:=h;exact aJ.same (sl _ _ _ h3) aaG aad
 ·rename_i l sz i n hs;rw[hs] at h;simp only[RV,di] at h hy;subst hy;obtain⟨ad,c',h3,h4⟩:=h;exact aJ.same (sl _ _ _ h3) aaG aad
 ·rename_i l sz i n c hs;rw[hs] at h;simp only[RV,di] at h hy;subst hy;obtain⟨ad,h3,h4⟩:=h;exact aJ.same (sl _ _ _ h3) aaG aad
 simp at hy
def ng (op:BinOp) (t:TypeId) (x y:Operand) (k k':IntKind) (m n:Int) {P:Program} {w:World}:(eqGuard op t x y (.int k m) (.int k' n)).run P w= .ok () w:=by
 cases op<;>simp[eqGuard]
def nh (op:BinOp) (t:TypeId) (x y:Operand) (m n:ByteArray) {P:Program} {w:World}:(eqGuard op t x y (.string m) (.string n)).run P w= .ok () w:=by
 cases op<;>simp[eqGuard]
def BN (hr:aH K β env H a w) {o:Oper} {op:BinOp} {t t2:TypeId} {x y:Operand} {x' y':O} (ho:o.op= .binOp op t x y t2)
  (hx:co K.G x=some x') (hy:co K.G y=some y') {z:AV} (hz:c6 (.bin op x' y') env=some z):aJ K β H a w o z:=by
 have h:=hr.ev hx;have h2:=hr.ev hy;simp only[c6,dk] at hz;split at hz
 ·rename_i k m k' n e1 e2;rw[e1] at h;rw[e2] at h2;simp only[RV] at h h2;split at hz
  ·rename_i hk;subst hk;have key:∀v,(binOp op t (.int k m) (.int k n)).run K.P w= .ok v w->RV w β H (Im K β H) z v->z.an=[]->aJ K β H a w o z:=by
    intro v hv BO hl;refine aJ.same (v:=v) ?_ BO (by simp[hl]);simp[execOp,ho,h,h2,ng,hv]
   cases op<;>simp only[di,reduceCtorEq] at hz
   case quo=>
    split at hz
    ·simp at hz
    rename_i hn;simp only[di] at hz;subst hz;exact key (.int k (k.wrap (m.tdiv n))) (by simp[binOp,Op.intDiv,hn]) aaG aad
   case rem=>
    split at hz
    ·simp at hz
    rename_i hn;simp only[di] at hz;subst hz;exact key (.int k (m.tmod n)) (by simp[binOp,Op.intDiv,hn]) aaG aad
   case shr=>
    split at hz
    ·rename_i hn;simp only[di] at hz;subst hz;exact key (.int k (m/2^min n.toNat k.bits)) (by rw[binOp_shr,shift_shr_any k k m n hn];rfl) aaG aad
    simp at hz
   all_goals (subst hz;refine key _ (by simp[binOp,Op.intArith,Op.intCmp];rfl) aaG aad)
  simp at hz
 ·rename_i s u e1 e2;rw[e1] at h;rw[e2] at h2;simp only[RV] at h h2;have key:∀v,(binOp op t (.string ⟨s.toArray⟩) (.string ⟨u.toArray⟩)).run K.P w= .ok v w->RV w β H (Im K β H) z v->z.an=[]->aJ K β H a w o z:=by
   intro v hv BO hl;refine aJ.same (v:=v) ?_ BO (by simp[hl]);simp[execOp,ho,h,h2,nh,hv]
  cases op<;>simp only[di,reduceCtorEq] at hz
  case add=>
   split at hz
   ·rename_i hn;simp only[di] at hz;subst hz;refine key (.string ⟨(s++u).toArray⟩) ?_ aaG aad;have h1:¬((((⟨s.toArray⟩:ByteArray).size+(⟨u.toArray⟩:ByteArray).size:Nat):Int)>IntKind.i64.max):=by
     rw[jX,jX];simp only[IntKind.max,IntKind.signed,IntKind.bits];simp;omega
    have h3:(⟨s.toArray⟩:ByteArray)++⟨u.toArray⟩=⟨(s++u).toArray⟩:=by
     apply Zy;show((⟨s.toArray⟩:ByteArray)++⟨u.toArray⟩).data=(s++u).toArray;simp[ByteArray.data_append]
    simp only[binOp,Op.stringOp,h1,nX,h3,Sem.run_pure]
   simp at hz
  all_goals (subst hz;refine key _ (by simp[binOp,Op.stringOp,ByteArray.toList_mk];rfl) aaG aad)
 simp at hz
theorem nC (kd:IntKind) (n:Int):∀(l:List MapEntry) (es:List (Int×List UInt8)) (i:Nat),(l.map λe=>(e.key,e.val))=(es.map λp=>(Value.int .i64 p.1,Value.string ⟨p.2.toArray⟩)) ->
  (es.lookup n=none/\Instr.findNow (.int kd) (.int .i64 n) l i=some none)\/∃j s,es.lookup n=some s/\Instr.findNow (.int kd) (.int .i64 n) l i=some (some (j,.string ⟨s.toArray⟩))
 |[],[],i,_=> .inl ⟨rfl,rfl⟩
 |[],_::_,_,h=>by simp at h
 |_::_,[],_,h=>by simp at h
 |e::l,p::es,i,h=>by
  simp only[Rj,Q5,eS] at h;obtain⟨⟨h1,h2⟩,h3⟩:=h;by_cases hp:n=p.1
  ·refine .inr ⟨i,p.2,?_,?_⟩
   ·subst hp;simp[List.lookup]
   simp[Instr.findNow,Instr.sameNow,h1,h2,hp]
  have e1:(n==p.1)=false:=by simpa using hp
  rcases nC kd n l es (i+1) h3 with⟨g1,g2⟩|⟨j,s,g1,g2⟩
  ·exact .inl ⟨by simp[List.lookup,e1,g1],by simp[Instr.findNow,Instr.sameNow,h1,e1,g2]⟩
  exact .inr ⟨j,s,by simp[List.lookup,e1,g1],by simp[Instr.findNow,Instr.sameNow,h1,e1,g2]⟩
def jo {P:Program} {w:World} {t:TypeId} {kd k:IntKind} {n:Int} (h:P.underlying t=some (.int kd)) (e:Bool) (m:Nat):(Instr.checkKey e (m+1) t (.int k n)).run P w= .ok () w:=by
 unfold Instr.checkKey;simp only[Sem.run_bind,run_underlying h,Result.andThen];simp
def Cx (hr:aH K β env H a w) {o:Oper} {t k e:TypeId} {x i:Operand} {kd:IntKind} {z:ByteArray} {x' i':O} (ho:o.op= .lookup t x i false) (ht:K.P.underlying t=some (.map k e))
  (hk:K.P.underlying k=some (.int kd)) (hz:(K.P.info? e).bind (·.zero)=some (.string z)) (Hg:z.data.toList=[]) (hx:co K.G x=some x') (hi:co K.G i=some i') {y:AV}
  (hy:c6 (.sy x' i') env=some y):aJ K β H a w o y:=by
 have h:=hr.ev hx;have h2:=hr.ev hi;simp only[c6] at hy;split at hy
 ·rename_i es n e1 e2;rw[e1] at h;rw[e2] at h2;simp only[RV] at h h2;simp only[di] at hy;subst hy;obtain⟨r,xs,c,h3,_,_,h4,h5⟩:=h;obtain⟨q,hq,KE⟩:=yV.1 hz;have u7:z=⟨(#[]:Array UInt8)⟩:=by cases z with|mk d=>simp at Hg;simp[Hg]
  rcases nC kd n xs.toList es 0 h5 with⟨g1,g2⟩|⟨j,s,g1,g2⟩
  ·refine aJ.same (v:= .string z) ?_ ?_ aad
   ·simp[execOp,ho,h3,h2,Instr.lookup,run_underlying ht,run_underlying hk,getObj,Sem.run,h4,jo hk,Instr.findKey,g2,zeroValue,typeInfo,hq,KE,Result.andThen]
   simp[RV,g1,u7]
  refine aJ.same (v:= .string ⟨s.toArray⟩) ?_ ?_ aad
  ·simp[execOp,ho,h3,h2,Instr.lookup,run_underlying ht,run_underlying hk,getObj,Sem.run,h4,jo hk,Instr.findKey,g2,Result.andThen]
  simp[RV,g1]
 simp at hy

def dY (hr:aH K β env H a w) {lo:Option Operand} {pR:Option O} {d m n:Nat} (hc:WG K.G lo=some pR) (h:lk env pR d m=some n) :
  (lo=none/\pR=none/\n=d)\/∃x k v,lo=some x/\pR.isSome=true/\a.eval x= .int k v/\0<=v/\v.toNat<=m/\n=v.toNat:=by
 cases lo with
 |none=>
  simp[WG] at hc;subst hc;simp[lk] at h;exact .inl ⟨rfl,rfl,h.symm⟩
 |some x=>
 simp only[WG,jF] at hc;obtain⟨y,h1,rfl⟩:=hc;have h2:=hr.ev h1;simp only[lk] at h;split at h
 ·rename_i k v e;rw[e] at h2;simp only[RV] at h2;split at h
  ·rename_i hv;simp only[di] at h;exact .inr ⟨x,k,v,rfl,rfl,h2,hv.1,hv.2,h.symm⟩
  simp at h
 simp at h
def run_sliceBound {P:Program} {w:World} {k:IntKind} {v:Int} {y:Nat} (code:BoundsCode) (h0:0<=v) (h1:v.toNat<=y):(Instr.sliceBound (.int k v) y code).run P w= .ok v.toNat w:=by
 have:v<=(y:Int):=sf
 simp[Instr.sliceBound,asIntOf,h0,this,Result.andThen]
def lu (hr:aH K β env H a w) {lo hi mx:Option Operand} {pR ed mx':Option O} {n c l h:Nat} {m:Option Nat} (qP:WG K.G lo=some pR) (u9:WG K.G hi=some ed)
  (sK:WG K.G mx=some mx') (BP:n<=c) (hb:nB env pR ed mx' n=some (l,h,m)) :
  (Instr.sliceBounds true n c (lo.map a.eval) (hi.map a.eval) (mx.map a.eval)).run K.P w= .ok (l,h,m.getD c) w/\l<=h/\h<=n/\h<=m.getD c/\m.getD c<=c:=by
 unfold nB at hb;cases mx' with
 |none=>
  simp only[yV,jF,eS] at hb;obtain⟨h',h1,l',h2,rfl,rfl,rfl⟩:=hb;have Cy:mx=none:=by cases mx with
   |none=>rfl
   |some x=>simp[WG] at sK
  subst Cy;rcases dY hr u9 h1 with⟨rfl,rfl,rfl⟩|⟨x,k,v,rfl,_,e1,e2,e3,rfl⟩
  ·rcases dY hr qP h2 with⟨rfl,rfl,rfl⟩|⟨y,k,u,rfl,_,e4,e5,e6,rfl⟩
   ·exact⟨by simp[Instr.sliceBounds],sf,sf,by simpa using BP,tM⟩
   exact⟨by simp[Instr.sliceBounds,e4,run_sliceBound _ e5 e6],sf,sf,by simpa using BP,tM⟩
  rcases dY hr qP h2 with⟨rfl,rfl,rfl⟩|⟨y,k',u,rfl,_,e4,e5,e6,rfl⟩
  ·exact⟨by simp[Instr.sliceBounds,e1,run_sliceBound _ e2 (show v.toNat<=c by omega)],sf,e3,aak,tM⟩
  exact⟨by simp[Instr.sliceBounds,e1,e4,run_sliceBound _ e2 (show v.toNat<=c by omega),run_sliceBound _ e5 e6],e6,e3,aak,tM⟩
 |some m0=>
 simp only at hb;split at hb
 ·simp at hb
 rename_i np;simp only[yV,jF,eS] at hb;obtain⟨m',h0,h',h1,l',h2,rfl,rfl,rfl⟩:=hb;rcases dY hr sK h0 with⟨rfl,h9,rfl⟩|⟨x1,k1,v1,rfl,_,e1,e2,e3,rfl⟩
 ·simp at h9
 rcases dY hr u9 h1 with⟨rfl,rfl,rfl⟩|⟨x2,k2,v2,rfl,_,f1,f2,f3,rfl⟩
 ·simp at np
 have q1:v1.toNat<=c:=sf
 rcases dY hr qP h2 with⟨rfl,rfl,rfl⟩|⟨x3,k3,v3,rfl,_,g1,g2,g3,rfl⟩
 ·exact⟨by simp[Instr.sliceBounds,e1,f1,run_sliceBound _ e2 q1,run_sliceBound _ f2 f3],sf,sf,f3,q1⟩
 exact⟨by simp[Instr.sliceBounds,e1,f1,g1,run_sliceBound _ e2 q1,run_sliceBound _ f2 f3,run_sliceBound _ g2 g3],g3,sf,f3,q1⟩
def wI (hr:aH K β env H a w) {lo hi mx:Option Operand} {pR ed mx':Option O} {n c l h:Nat} {m:Option Nat} (qP:WG K.G lo=some pR) (u9:WG K.G hi=some ed)
  (sK:WG K.G mx=some mx') (BP:n<=c) (hb:sH env pR ed mx' n c=some (l,h,m)) :
  (Instr.sliceBounds true n c (lo.map a.eval) (hi.map a.eval) (mx.map a.eval)).run K.P w= .ok (l,h,m.getD c) w/\l<=h/\h<=c/\h<=m.getD c/\m.getD c<=c:=by
 unfold sH at hb;cases mx' with
 |none=>
  simp only[yV,jF,eS] at hb;obtain⟨h',h1,l',h2,rfl,rfl,rfl⟩:=hb;have Cy:mx=none:=by cases mx with
   |none=>rfl
   |some x=>simp[WG] at sK
  subst Cy;rcases dY hr u9 h1 with⟨rfl,rfl,rfl⟩|⟨x,k,v,rfl,_,e1,e2,e3,rfl⟩
  ·rcases dY hr qP h2 with⟨rfl,rfl,rfl⟩|⟨y,k,u,rfl,_,e4,e5,e6,rfl⟩
   ·exact⟨by simp[Instr.sliceBounds],sf,sf,by simpa using BP,tM⟩
   exact⟨by simp[Instr.sliceBounds,e4,run_sliceBound _ e5 e6],sf,sf,by simpa using BP,tM⟩
  rcases dY hr qP h2 with⟨rfl,rfl,rfl⟩|⟨y,k',u,rfl,_,e4,e5,e6,rfl⟩
  ·exact⟨by simp[Instr.sliceBounds,e1,run_sliceBound _ e2 (show v.toNat<=c by omega)],sf,e3,aak,tM⟩
  exact⟨by simp[Instr.sliceBounds,e1,e4,run_sliceBound _ e2 (show v.toNat<=c by omega),run_sliceBound _ e5 e6],e6,e3,aak,tM⟩
 |some m0=>
 simp only at hb;split at hb
 ·simp at hb
 rename_i np;simp only[yV,jF,eS] at hb;obtain⟨m',h0,h',h1,l',h2,rfl,rfl,rfl⟩:=hb;rcases dY hr sK h0 with⟨rfl,h9,rfl⟩|⟨x1,k1,v1,rfl,_,e1,e2,e3,rfl⟩
 ·simp at h9
 rcases dY hr u9 h1 with⟨rfl,rfl,rfl⟩|⟨x2,k2,v2,rfl,_,f1,f2,f3,rfl⟩
 ·simp at np
 have q1:v1.toNat<=c:=sf
 rcases dY hr qP h2 with⟨rfl,rfl,rfl⟩|⟨x3,k3,v3,rfl,_,g1,g2,g3,rfl⟩
 ·exact⟨by simp[Instr.sliceBounds,e1,f1,run_sliceBound _ e2 q1,run_sliceBound _ f2 f3],sf,sf,f3,q1⟩
 exact⟨by simp[Instr.sliceBounds,e1,f1,g1,run_sliceBound _ e2 q1,run_sliceBound _ f2 f3,run_sliceBound _ g2 g3],g3,sf,f3,q1⟩
theorem mK {w:World} {I:Nat->Prop} {sz:Nat}:∀(n:Nat) (xs:List IV) (b o:Nat),bH w I xs b o sz->bH w I (xs.take n) b o sz
 |0,_,_,_,_=>by simp[bH]
 |n+1,[],_,_,_=>by simp[bH]
 |n+1,x::r,b,o,h=>by
  simp only[bH] at h;simp only[Cj,bH];exact⟨h.1,mK n r b (o+sz) h.2⟩
theorem mL {w:World} {I:Nat->Prop} {sz:Nat}:∀(n:Nat) (xs:List IV) (b o:Nat),bH w I xs b o sz->bH w I (xs.drop n) b (o+n*sz) sz
 |0,_,_,_,h=>by simpa using h
 |n+1,[],_,_,_=>by simp[bH]
 |n+1,x::r,b,o,h=>by
  simp only[bH] at h;simp only[SX];have:=mL n r b (o+sz) h.2
  rwa[show o+sz+n*sz=o+(n+1)*sz by rw[Sv];omega] at this
def oV {w:World} {I:Nat->Prop} {sz s:Nat} {xs:List IV} {b o:Nat} (h:bH w I xs b o sz) (hs:jV s xs) (hn:0<xs.length):sz=s:=by
 cases xs with
 |nil=>simp at hn
 |cons x r=>
 simp only[bH] at h;have:=(eH w I x b o sz).1 h.1;rw[this.1];exact hs x tM
def zy {xs:List IV} {I:Nat->Prop} {ad:Option Addr} {c s l h m:Nat} (ll:jV s xs) (hl:l<=h) (hh:h<=xs.length) (hm:h<=m) (hmc:m<=c) (hc:c<=maxLen)
  (hx:xs.length=0\/∃b o sz,ad=some ⟨b,o,none⟩/\I b/\b<w.heap.size/\0<sz/\bH w I xs b o sz) :
  NN w I (.list ((xs.take h).drop l)) (.slice (if m=l then ad else ad.map (·.add (l*s))) (h - l) (m - l)):=by
 simp only[NN];have hlen:((xs.take h).drop l).length=h - l:=aak
 refine⟨_,m - l,by rw[hlen],sf,sf,?_⟩;rw[hlen];by_cases e:h - l=0
 ·exact .inl e
 right;rcases hx with hx|⟨b,o,sz,rfl,e1,e2,e3,e4⟩
 ·omega
 have gm:sz=s:=oV e4 ll sf;subst gm;refine⟨b,o+l*sz,sz,?_,e1,e2,e3,mL _ _ _ _ (mK _ _ _ _ e4)⟩;rw[Ev sf];simp[addr_add]
def Fg (hr:aH K β env H a w) {o:Oper} {t e:TypeId} {x:Operand} {lo hi mx:Option Operand} {s:Nat} {x':O} {pR ed mx':Option O} (ho:o.op= .slice t x lo hi mx)
  (ht:K.P.underlying t=some (.slice e)) (hs:ZM K.P e=some s) (hx:co K.G x=some x') (qP:WG K.G lo=some pR) (u9:WG K.G hi=some ed) (sK:WG K.G mx=some mx') {y:AV}
  (hy:c6 (.zr x' pR ed mx' s) env=some y):aJ K β H a w o y:=by
 have hv:=hr.ev hx;have hm:=hr.eo hx;have run:∀(ad:Option Addr) (n c l h m:Nat),a.eval x= .slice ad n c->(Instr.sliceBounds true n c (lo.map a.eval) (hi.map a.eval) (mx.map a.eval)).run K.P w= .ok (l,h,m) w ->
   (execOp a.eval o).run K.P w= .ok (.value (.slice (if m=l then ad else ad.map (·.add (l*s))) (h - l) (m - l))) w:=by
  intro ad n c l h m e1 e2;simp[execOp,ho,Instr.sliceAt,run_underlying ht,Instr.slice,e1,e2,cp hs,Result.andThen]
 simp only[c6,Cs] at hy;split at hy
 ·rename_i e1;rw[e1] at hv;simp only[RV] at hv;obtain⟨ad,hv⟩:=hv;simp only[jF] at hy;obtain⟨⟨l,h,m⟩,h1,rfl⟩:=hy;obtain⟨r1,r2,r3,r4,r5⟩:=lu hr qP u9 sK (PW 0) h1;refine aJ.same (run ad 0 0 l h _ hv r1) ?_ aad;have z1:h - l=0:=by omega
  have z2:m.getD 0 - l=0:=sf
  rw[z1,z2];exact⟨_,rfl⟩
 ·rename_i xs e1;rw[e1] at hv;simp only[RV,NN] at hv;split at hy
  ·rename_i ll;obtain⟨ad,c,h3,h4,h5,h6⟩:=hv;simp only[jF] at hy;obtain⟨⟨l,h,m⟩,h1,rfl⟩:=hy;obtain⟨r1,r2,r3,r4,r5⟩:=lu hr qP u9 sK h4 h1;refine aJ.same (run ad _ c l h _ h3 r1) ?_ (by split<;>simp[AV.an]);split
   ·rename_i JS;simp only at JS;subst JS;simp only[EG] at r4 ⊢;have z1:h - l=0:=sf;rw[z1];simp only[Gl,Rc];exact⟨_,rfl⟩
   simp only[RV];exact zy ll r2 r3 r4 r5 h5 h6
  simp at hy
 ·rename_i lb s' i n e1;rw[e1] at hv hm;simp only[RV] at hv;split at hy
  ·rename_i T5;subst T5;obtain⟨ad,c,h3,h4,h5,h6,h7⟩:=hv;simp only[yV] at hy;obtain⟨⟨l,h,m⟩,h1,h2⟩:=hy;obtain⟨r1,r2,r3,r4,r5⟩:=lu hr qP u9 sK h4 h1;cases m with
   |some m=>simp at h2
   |none=>
   simp only[V8,jy,nX,di] at h2;subst h2;simp only[ZU] at r1 r4 r5;refine aJ.same (run ad _ c l h _ h3 r1) ?_ (by simpa[AV.an] using hm);refine⟨_,_,rfl,sf,sf,λhn=> ?_,λhl=> ?_⟩
   ·obtain⟨q,rfl⟩:=He.1 (h6 sf);split<;>simp
   by_cases hc:c=l
   ·exact .inl sf
   right;rcases h7 hl with h8|⟨g,S,k1,k2,k3,k4⟩
   ·omega
   subst k2;refine⟨g,S,k1,?_,k3,?_⟩
   ·rw[Ev hc];simp[addr_add,Sv]
   rw[<-k4];congr 1;omega
  simp at hy
 ·rename_i lb s' i n c0 e1;rw[e1] at hv hm;simp only[RV] at hv;split at hy
  ·rename_i T5;subst T5;obtain⟨ad,h3,h4,h5,h6,h7⟩:=hv;simp only[yV] at hy;obtain⟨⟨l,h,m⟩,h1,h2⟩:=hy;obtain⟨r1,r2,r3,r4,r5⟩:=wI hr qP u9 sK h4 h1;cases m with
   |some m=>
    simp only[YD,Rc,di] at h2;subst h2;exact aJ.same (run ad _ c0 l h _ h3 r1) aaG aad
   |none=>
   simp only[V8,jy,nX,di] at h2;subst h2;simp only[ZU] at r1 r4 r5;refine aJ.same (run ad _ c0 l h _ h3 r1) ?_ (by simpa[AV.an] using hm);refine⟨_,rfl,sf,sf,λhn=> ?_,λhl=> ?_⟩
   ·obtain⟨q,rfl⟩:=He.1 (h6 sf);split<;>simp
   by_cases hc:c0=l
   ·exact .inl sf
   right;rcases h7 hl with h8|⟨g,S,k1,k2,k3,k4⟩
   ·omega
   subst k2;refine⟨g,S,k1,?_,k3,?_⟩
   ·rw[Ev hc];simp[addr_add,Sv]
   rw[<-k4];congr 1;omega
  simp at hy
 simp at hy
def Cz (hr:aH K β env H a w) {o:Oper} {t:TypeId} {x:Operand} {lo hi:Option Operand} {x':O} {pR ed:Option O} (ho:o.op= .slice t x lo hi none)
  (ht:K.P.underlying t=some .string) (hx:co K.G x=some x') (qP:WG K.G lo=some pR) (u9:WG K.G hi=some ed) {y:AV}
  (hy:c6 (.ZL x' pR ed) env=some y):aJ K β H a w o y:=by
 have hv:=hr.ev hx;simp only[c6] at hy;split at hy
 ·rename_i s e1;rw[e1] at hv;simp only[RV] at hv;simp only[yV,jF] at hy;obtain⟨h,h1,l,h2,rfl⟩:=hy;have hb:nB env pR ed none s.length=some (l,h,none):=by simp[nB,h1,h2]
  have wJ:∀JT,(Instr.sliceBounds JT s.length s.length (lo.map a.eval) (hi.map a.eval) none).run K.P w= .ok (l,h,s.length) w:=by
   intro JT;rcases dY hr u9 h1 with⟨rfl,rfl,rfl⟩|⟨x,k,v,rfl,_,e1,e2,e3,rfl⟩
   ·rcases dY hr qP h2 with⟨rfl,rfl,rfl⟩|⟨y,k,u,rfl,_,e4,e5,e6,rfl⟩
    ·simp[Instr.sliceBounds]
    simp[Instr.sliceBounds,e4,run_sliceBound _ e5 e6]
   rcases dY hr qP h2 with⟨rfl,rfl,rfl⟩|⟨y,k',u,rfl,_,e4,e5,e6,rfl⟩
   ·simp[Instr.sliceBounds,e1,run_sliceBound _ e2 e3]
   simp[Instr.sliceBounds,e1,e4,run_sliceBound _ e2 e3,run_sliceBound _ e5 e6]
  obtain⟨_,r2,r3,_,_⟩:=lu hr qP u9 (mx:=none) (mx':=none) (by simp[WG]) (PW _) hb;refine aJ.same (v:= .string ((⟨s.toArray⟩:ByteArray).extract l h)) ?_ ?_ aad
  ·simp[execOp,ho,Instr.sliceAt,run_underlying ht,Instr.slice,hv,jX,wJ,Result.andThen]
  simp only[RV];congr 1;apply Zy;show((⟨s.toArray⟩:ByteArray).extract l h).data=((s.take h).drop l).toArray;rw[Zj];simp only[List.extract_toArray];congr 1;simp[List.extract,List.drop_take]
 simp at hy
end

section
variable {w:World} {β:Lb->Option Nat} {H:Hp} {I:Nat->Prop}
theorem br.len:∀(cs:List AV) (vs:List Value),br w β H I cs vs->vs.length=cs.length
 |[],vs,h=>by simp[br] at h;simp[h]
 |x::r,vs,h=>by
  simp only[br] at h;obtain⟨v,us,rfl,_,h2⟩:=h;simp[br.len r us h2]
theorem br.get:∀(cs:List AV) (vs:List Value) (i:Nat) (x:AV),br w β H I cs vs->cs[i]?=some x->∃v,vs[i]?=some v/\RV w β H I x v
 |[],vs,i,x,h,hx=>by simp at hx
 |y::r,vs,0,x,h,hx=>by
  simp only[br] at h;obtain⟨v,us,rfl,h1,h2⟩:=h;simp at hx;subst hx;exact⟨v,tM,h1⟩
 |y::r,vs,i+1,x,h,hx=>by
  simp only[br] at h;obtain⟨v,us,rfl,h1,h2⟩:=h;obtain⟨u,k1,k2⟩:=br.get r us i x h2 (by simpa using hx);exact⟨u,by simpa using k1,k2⟩
theorem br.drop:∀(n:Nat) (cs:List AV) (vs:List Value),br w β H I cs vs->br w β H I (cs.drop n) (vs.drop n)
 |0,_,_,h=>by simpa using h
 |n+1,[],vs,h=>by simp[br] at h;simp[h,br]
 |n+1,x::r,vs,h=>by
  simp only[br] at h;obtain⟨v,us,rfl,h1,h2⟩:=h;simpa using br.drop n r us h2
theorem br.take:∀(n:Nat) (cs:List AV) (vs:List Value),br w β H I cs vs->br w β H I (cs.take n) (vs.take n)
 |0,_,_,_=>by simp[br]
 |n+1,[],vs,h=>by simp[br] at h;simp[h,br]
 |n+1,x::r,vs,h=>by
  simp only[br] at h;obtain⟨v,us,rfl,h1,h2⟩:=h;simp only[Cj,br];exact⟨v,us.take n,rfl,h1,br.take n r us h2⟩
theorem br.append:∀(cs:List AV) (vs:List Value) (ds:List AV) (us:List Value),br w β H I cs vs->br w β H I ds us->br w β H I (cs++ds) (vs++us)
 |[],vs,ds,us,h,h2=>by simp[br] at h;subst h;simpa using h2
 |x::r,vs,ds,us,h,h2=>by
  simp only[br] at h;obtain⟨v,Hh,rfl,h1,h3⟩:=h;simp only[List.cons_append,br];exact⟨v,Hh++us,rfl,h1,br.append r Hh ds us h3 h2⟩
theorem br.pS:∀(cs:List IV) (b o:Nat),bK w I cs b o->∃vs:List Value,br w β H I (cs.map IV.dQ) vs/\vs.length=cs.length/\∀j v,vs[j]?=some v->w.cell? ⟨b,o+j,none⟩=some v
 |[],b,o,h=>⟨[],abG,rfl,tM⟩
 |x::r,b,o,h=>by
  simp only[bK] at h;obtain⟨⟨v,h1,h2⟩,h3⟩:=h;obtain⟨vs,k1,k2,k3⟩:=br.pS r b (o+1) h3;refine⟨v::vs,?_,by simp[k2],?_⟩
  ·simp only[Rj,br];refine⟨v,vs,rfl,?_,k1⟩;cases x<;>simp[NN] at h2<;>simp[IV.dQ,RV,h2];simpa[NN] using h2
  intro j u hj;cases j with
  |zero=>simp at hj;subst hj;exact h1
  |succ j=>
  have:=k3 j u (by simpa using hj)
  rwa[show o+1+j=o+(j+1) by omega] at this
def RV.iv:∀{x:AV} {y:IV} {v:Value},x.iv=some y->RV w β H I x v->NN w I y v:=by
 intro x y v h hv;cases x<;>simp[AV.iv] at h<;>subst h<;>simp only[RV] at hv<;>simp only[NN]
 case nil0=>
  obtain⟨a,rfl⟩:=hv;exact⟨a,0,rfl,tM,by simp[maxLen],.inl tM⟩
 case ifc=>
  obtain⟨u,rfl,_⟩:=hv;exact⟨u,rfl⟩
 all_goals first|exact hv|simpa[NN] using hv
def wK {x:AV} {y:IV} (h:x.iv=some y):y.cells=[y]:=by
 cases x<;>simp[AV.iv] at h<;>subst h<;>rfl
theorem iD:∀(cs:List AV) (ys:List IV) (vs:List Value) (b o:Nat),qO cs=some ys->br w β H I cs vs->(∀j v,vs[j]?=some v->w.cell? ⟨b,o+j,none⟩=some v)->bK w I ys b o
 |[],ys,vs,b,o,h,_,_=>by simp[qO] at h;subst h;simp[bK]
 |x::r,ys,vs,b,o,h,hv,hc=>by
  simp only[qO,yV,jF] at h;obtain⟨y,h1,s,h2,rfl⟩:=h;simp only[br] at hv;obtain⟨v,us,rfl,k1,k2⟩:=hv;simp only[bK];refine⟨⟨v,by simpa using hc 0 v tM,RV.iv h1 k1⟩,iD r s us b (o+1) h2 k2 (λj u hj=> ?_)⟩;have:=hc (j+1) u (by simpa using hj)
  rwa[show o+(j+1)=o+1+j by omega] at this
theorem tX:∀(cs:List AV) (ys:List IV),qO cs=some ys->ys.length=cs.length
 |[],ys,h=>by simp[qO] at h;subst h;rfl
 |x::r,ys,h=>by
  simp only[qO,yV,jF] at h;obtain⟨y,h1,s,h2,rfl⟩:=h;simp[tX r s h2]
def RV.cells {x:AV} {v:Value} (h:RV w β H I x v) (hx:∀cs,x= .agg cs->True) (ha:(∃cs,x= .agg cs)\/v.oneCell'=true):br w β H I x.cells v.cells.toList:=by
 cases x
 case agg cs=>
  simp only[RV] at h;obtain⟨vs,rfl,h1⟩:=h;simpa[AV.cells,Value.cells] using h1
 all_goals
  rcases ha with⟨cs,hc⟩|ha
  ·cases hc
  have:v.cells=#[v]:=by cases v<;>simp_all[Value.cells,Value.oneCell']
  simp only[AV.cells,br,this];exact⟨v,[],tM,h,rfl⟩
def RV.lv {x:AV} {v:Value} (h:RV w β H I x v) (hx:x.one=true):v.oneCell'=true:=by
 cases x<;>simp[AV.one] at hx<;>simp only[RV,NN] at h
 case list=>obtain⟨a,c,rfl,_⟩:=h;rfl
 case nil0=>obtain⟨a,rfl⟩:=h;rfl
 case sl=>obtain⟨a,c,rfl,_⟩:=h;rfl
 case slk=>obtain⟨a,rfl,_⟩:=h;rfl
 case ptr=>obtain⟨a,rfl,_⟩:=h;rfl
 case lptr=>obtain⟨b,o,rfl,_⟩:=h;rfl
 case fn=>obtain⟨vs,us,rfl,_⟩:=h;rfl
 case ifc=>obtain⟨u,rfl,_⟩:=h;rfl
 case mis=>obtain⟨r,xs,c,rfl,_⟩:=h;rfl
 all_goals (subst h;rfl)
end
section
variable {K:Kx} {β:Lb->Option Nat} {env:Env} {H:Hp} {a:Act} {w:World}
def Fh (hr:aH K β env H a w) {o:Oper} {t:TypeId} {x:Operand} {x':O} (ho:o.op= .unOp .not t x) (hx:co K.G x=some x') {y:AV}
  (hy:c6 (.not x') env=some y):aJ K β H a w o y:=by
 have h:=hr.ev hx;simp only[c6] at hy;split at hy
 ·rename_i b e;rw[e] at h;simp only[RV,di] at h hy;subst hy;exact aJ.same (v:= .bool !b) (by simp[execOp,ho,h,Op.unary]) aaG aad
 simp at hy
def Fi (hr:aH K β env H a w) {o:Oper} {t:TypeId} {x:Operand} {x':O} (ho:o.op= .unOp .neg t x) (hx:co K.G x=some x') {y:AV}
  (hy:c6 (.neg x') env=some y):aJ K β H a w o y:=by
 have h:=hr.ev hx;simp only[c6] at hy;split at hy
 ·rename_i k n e;rw[e] at h;simp only[RV,di] at h hy;subst hy;exact aJ.same (v:= .int k (k.wrap (0 - n))) (by simp[execOp,ho,h,Op.unary,Op.intArith]) aaG aad
 simp at hy
def Fj (hr:aH K β env H a w) {o:Oper} {c:Call} {x y:Operand} {x' y':O} (ho:o.op= .call c) (hc:c.callee= .builtin .max) (ha:c.args.toList=[x,y])
  (hx:co K.G x=some x') (hy:co K.G y=some y') {z:AV} (hz:c6 (.max x' y') env=some z):aJ K β H a w o z:=by
 have h:=hr.ev hx;have h2:=hr.ev hy;have pQ:c.args=#[x,y]:=by cases hh:c.args;simp_all
 simp only[c6] at hz;split at hz
 ·rename_i k m k' n e1 e2;rw[e1] at h;rw[e2] at h2;simp only[RV] at h h2;split at hz
  ·simp only[di] at hz;subst hz;refine aJ.same (v:= .int k (if n>m then n else m)) ?_ aaG aad;simp[execOp,ho,resolve,hc,pQ,h,h2,invoke,builtin,Builtin.max_,Builtin.max2,List.foldlM]
  simp at hz
 simp at hz
def Fk (hr:aH K β env H a w) {o:Oper} {c:Call} {x y:Operand} {x' y':O} (ho:o.op= .call c) (hc:c.callee= .builtin .min) (ha:c.args.toList=[x,y])
  (hx:co K.G x=some x') (hy:co K.G y=some y') {z:AV} (hz:c6 (.min x' y') env=some z):aJ K β H a w o z:=by
 have h:=hr.ev hx;have h2:=hr.ev hy;have pQ:c.args=#[x,y]:=by cases hh:c.args;simp_all
 simp only[c6] at hz;split at hz
 ·rename_i k m k' n e1 e2;rw[e1] at h;rw[e2] at h2;simp only[RV] at h h2;split at hz
  ·simp only[di] at hz;subst hz;refine aJ.same (v:= .int k (if n<m then n else m)) ?_ aaG aad;simp[execOp,ho,resolve,hc,pQ,h,h2,invoke,builtin,Builtin.min_,Builtin.min2,List.foldlM]
  simp at hz
 simp at hz
theorem cW:∀(cs:List AV) (i:Nat) (x:AV),cs[i]?=some x->∀l∈x.an,l∈ah cs
 |[],i,x,h=>by simp at h
 |y::r,0,x,h=>by simp at h;subst h;intro l hl;simp[ah,hl]
 |y::r,i+1,x,h=>by
  intro l hl;have:=cW r i x (by simpa using h) l hl;simp[ah,this]
def Fl (hr:aH K β env H a w) {o:Oper} {x:Operand} {i:Nat} {x':O} (ho:o.op= .extract x i) (hx:co K.G x=some x') {y:AV}
  (hy:c6 (.ext x' i) env=some y):aJ K β H a w o y:=by
 have h:=hr.ev hx;have hm:=hr.eo hx;simp only[c6] at hy;split at hy
 ·rename_i cs e;rw[e] at h hm;simp only[RV] at h;obtain⟨vs,h1,h2⟩:=h;obtain⟨v,k1,k2⟩:=br.get _ _ _ _ h2 hy;refine aJ.same (v:=v) ?_ k2 (λl hl=>hm l (by simpa[AV.an] using cW _ _ _ hy l hl));simp[execOp,ho,h1,Instr.extract,k1]
 simp at hy
def CA (hr:aH K β env H a w) {o:Oper} {x:Operand} {x':O} (ho:o.op= .nilCheck x) (hx:co K.G x=some x') {y:AV}
  (hy:c6 (.dp x') env=some y):aJ K β H a w o y:=by
 have h:=hr.ev hx;have hm:=hr.eo hx;simp only[c6] at hy;split at hy
 ·rename_i l sz i j e;simp only[di] at hy;subst hy;rw[e] at h hm;have h':=h;simp only[RV] at h;obtain⟨ad,h1,h2⟩:=h;exact aJ.same (v:=a.eval x) (by simp[execOp,ho,h1]) h' hm
 ·rename_i cs e;simp only[di] at hy;subst hy;rw[e] at h hm;have h':=h;simp only[RV] at h;obtain⟨b,o',h1,h2⟩:=h;exact aJ.same (v:=a.eval x) (by simp[execOp,ho,h1]) h' hm
 ·rename_i f p q e;simp only[di] at hy;subst hy;rw[e] at h hm;have h':=h;simp only[RV] at h;obtain⟨vs,us,h1,h2⟩:=h;exact aJ.same (v:=a.eval x) (by simp[execOp,ho,h1]) h' hm
 simp at hy
theorem iE (hr:aH K β env H a w):∀(xs:List Operand) (ys:List O),cos K.G xs=some ys->br w β H (Im K β H) (ys.map (ev env)) (xs.map a.eval)
 |[],ys,h=>by simp[cos] at h;subst h;simp[br]
 |x::r,ys,h=>by
  simp only[cos,yV,jF] at h;obtain⟨y,h1,s,h2,rfl⟩:=h;simp only[Rj,br];exact⟨_,_,rfl,hr.ev h1,iE hr r s h2⟩
theorem iV (hr:aH K β env H a w):∀(xs:List Operand) (ys:List O),cos K.G xs=some ys->∀l∈ah (ys.map (ev env)),H l≠ .unused
 |[],ys,h=>by simp[cos] at h;subst h;simp[ah]
 |x::r,ys,h=>by
  simp only[cos,yV,jF] at h;obtain⟨y,h1,s,h2,rfl⟩:=h;intro l hl;simp only[Rj,ah,QL] at hl;exact hl.elim (hr.eo h1 l) (iV hr r s h2 l)
def Fm (hr:aH K β env H a w) {o:Oper} {f:Nat} {first cap:Array Operand} {cs:List O} (ho:o.op= .makeFunc (.func f) first cap) (hf:first.isEmpty=true)
  (hc:cos K.G cap.toList=some cs) {y:AV} (hy:c6 (.zw f cs) env=some y):aJ K β H a w o y:=by
 simp only[c6,di] at hy;subst hy;have BQ:first=#[]:=by simpa using hf
 refine aJ.same (v:= .func (.func f) #[] (cap.toList.map a.eval).toArray) ?_ ?_ ?_
 ·simp[execOp,ho,Instr.makeFunc,BQ];cases cap;simp
 ·simp only[RV,br];exact⟨[],_,tM,rfl,iE hr _ _ hc⟩
 simpa[AV.an,ah] using iV hr _ _ hc
def Fo (hr:aH K β env H a w) {o:Oper} {f:Nat} {first cap:Array Operand} {qs cs:List O} (ho:o.op= .makeFunc (.func f) first cap) (hq:cos K.G first.toList=some qs)
  (hc:cos K.G cap.toList=some cs) {y:AV} (hy:c6 (.zh f qs cs) env=some y):aJ K β H a w o y:=by
 simp only[c6,di] at hy;subst hy;refine aJ.same (v:= .func (.func f) (first.toList.map a.eval).toArray (cap.toList.map a.eval).toArray) ?_ ?_ ?_
 ·simp[execOp,ho,Instr.makeFunc];cases cap;cases first
  simp
 ·simp only[RV];exact⟨_,_,rfl,iE hr _ _ hq,iE hr _ _ hc⟩
 intro l hl;simp only[AV.an,QL] at hl;rcases hl with hl|hl
 ·exact iV hr _ _ hq l hl
 exact iV hr _ _ hc l hl
def Fq (hr:aH K β env H a w) {o:Oper} {s d:TypeId} {x:Operand} {x':O} {k k':IntKind} (ho:o.op= .convert s d x) (hs:K.P.underlying s=some (.int k')) (hd:K.P.underlying d=some (.int k))
  (hx:co K.G x=some x') {y:AV} (hy:c6 (.qK k x') env=some y):aJ K β H a w o y:=by
 have h:=hr.ev hx;simp only[c6] at hy;split at hy
 ·rename_i j n e;rw[e] at h;simp only[RV,di] at h hy;subst hy;exact aJ.same (v:= .int k (k.wrap n)) (by simp[execOp,ho,h,convert,run_underlying hs,run_underlying hd,Conv.intToInt]) aaG aad
 simp at hy
def Fs (hr:aH K β env H a w) {o:Oper} {s d:TypeId} {x:Operand} {x':O} (ho:o.op= .convert s d x) (hs:K.P.underlying s=some .string) (hd:K.P.underlying d=some .string)
  (hx:co K.G x=some x') {y:AV} (hy:c6 (.YJ x') env=some y):aJ K β H a w o y:=by
 have h:=hr.ev hx;simp only[c6] at hy;split at hy
 ·rename_i t e;rw[e] at h;simp only[RV,di] at h hy;subst hy;exact aJ.same (v:=a.eval x) (by simp[execOp,ho,h,convert,run_underlying hs,run_underlying hd]) (by simpa[RV] using h) aad
 simp at hy
def CB (hr:aH K β env H a w) {o:Oper} {t:TypeId} {x:Operand} {x':O} {d:TypeDesc} (ho:o.op= .makeInterface t x) (ht:K.P.underlying t=some d) (hd:∀ms,d≠ .interface ms)
  (hx:co K.G x=some x') {y:AV} (hy:c6 (.pO t x') env=some y):aJ K β H a w o y:=by
 have h:=hr.ev hx;simp only[c6,di] at hy;subst hy;refine aJ.same (v:= .iface t (a.eval x)) ?_ ⟨_,rfl,h⟩ (by simpa[AV.an] using hr.eo hx);cases d<;>simp[execOp,ho,Instr.makeInterface,run_underlying ht];exact absurd rfl (hd _)
end
end Go.Am
