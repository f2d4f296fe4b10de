import Derived.WalkKit
set_option linter.unusedSimpArgs false
set_option linter.unusedVariables false
set_option linter.unnecessarySimpa false
set_option linter.defProp false
/- THE ABSTRACT MACHINE, part 1: abstract values, labelled rows, and what they say of a world. -/
namespace Go.Am
open Go Go.RowKit
def jl:=@Option.some.injEq
def ag6:=@List.getElem?_eq_some_iff
def ag9:=@Int.toNat_natCast
def ag4:=@Option.map_eq_some_iff
def ag5:=@List.length_map
def ag7:=@List.getElem?_eq_getElem
def ag8:=@if_neg
def adr:=@List.mem_singleton
def ads:=@List.take_of_length_le
def adt:=@Int.natCast_nonneg
def adu:=@List.mem_of_getElem?
def adv:=@if_pos
def adw:=@Nat.le_refl
def adx:=@Option.bind_eq_some_iff
def ady:=@Bool.and_eq_true
def adz:=@List.mem_cons
def adA:=@Option.bind_some
def adB:=@Option.map_some
def adC:=@Nat.zero_add
def adD:=@List.mem_append
def adE:=@List.length_append
def adF:=@true_and
def adG:=@List.not_mem_nil
def adH:=@if_true
def adI:=@Bool.not_false
def adJ:=@Prod.mk.injEq
def adK:=@List.length_cons
def adL:=@Bool.not_true
def adM:=@decide_eq_true_eq
def adN:=@List.append_nil
def adO:=@or_false
def adP:=@List.length_take
def adQ:=@Bool.false_eq_true
def adR:=@List.cons_append
def adS:=@if_false
def adT:=@List.getElem?_take
def adU:=@List.getElem?_append_right
def adV:=@List.append_assoc
def adW:=@Nat.mul_le_mul_right
def adX:=@List.getElem?_map
def adY:=@List.mem_map
def adZ:=@List.length_mapIdx
def ad0:=@List.take_append_drop
def ad1:=@List.drop_zero
def ad3:=@Nat.zero_le
def ad4:=@List.mem_of_mem_take
def ad5:=@List.map_cons
def ad6:=@List.getElem?_append_left
def ad7:=@Option.isSome_none
def ad8:=@and_self
def ad9:=@Array.getD_eq_getD_getElem?
def ad_:=@Nat.add_mul
def aea:=@List.length_eq_zero_iff
def aeb:=@List.eq_nil_of_length_eq_zero
def aec:=@List.nil_append
def aed:=@Array.getElem?_eq_some_iff
def aee:=@List.take_length
def aef:=@Ne.symm
def aeg:=@List.all_eq_true
def aeh:=@List.getElem?_of_mem
def aei:=@List.take_add_one
def aej:=@List.map_congr_left
def aek:=@List.length_nil
def ael:=@Nat.min_eq_left
def aem:=@List.getElem?_cons_zero
def aen:=@List.length_drop
def aeo:=@List.filter_cons
def aep:=@beq_iff_eq
def aeq:=@Nat.sub_zero
def aer:=@Nat.add_assoc
def aes:=@List.getElem?_eq_none
def aet:=@List.drop_succ_cons
def aeu:=@List.cons.injEq
def aev:=@List.mem_of_mem_drop
def aew:=@beq_eq_false_iff_ne
def aex:=@List.getD_eq_getElem?_getD
def aey:=@List.mem_filter
def aez:=@Option.some.inj
def aeA:=@List.getElem?_set_self
def aeB:=@decide_true
def aeC:=@List.drop_of_length_le
def aeD:=@List.getElem?_drop
def aeE:=@Nat.le_mul_of_pos_right
def aeF:=@List.take_succ_cons
def aeG:=@Bool.eq_iff_iff
def aeH:=@List.getElem?_set_ne
def aeI:=@List.filter_eq_nil_iff
def aeJ:=@Bool.or_eq_true
def aeK:=@List.flatMap_cons
def aeL:=@decide_false
def aeM:=@Array.getElem?_eq_getElem
def aeN:=@List.drop_eq_getElem_cons
def aeO:=@List.filter_append
def aeP:=@List.foldl_cons
def aeQ:=@List.map_append
def aeR:=@List.eq_of_mem_replicate
def aeS:=@List.length_replicate
def aeT:=@Bool.not_eq_true'
def aeU:=@List.ext_getElem?
def aeV:=@decide_eq_false_iff_not
def aeW:=@List.map_nil
def aeX:=@List.getElem?_mapIdx
def aeY:=@List.mem_or_eq_of_mem_set
def aeZ:=@Nat.le_trans
def ae0:=@Nat.add_zero
def ae1:=@decide_eq_false
def ae2:=@List.take_left'
def ae3:=@Nat.lt_of_lt_of_le
def ae4:=@List.pairwise_append
def ae5:=@Bool.or_eq_false_iff
def ae6:=@List.isPrefixOf_iff_prefix
def ae7:=@Decidable.byContradiction
def ae8:=@UInt8.le_iff_toNat_le
def ae9:=@List.drop_append_of_le_length
def ae':=@Option.getD_some
def ae_:=@Nat.sub_self
def afa:=@List.getElem?_cons_succ
def afb:=@congrArg
def afc:=@of_decide_eq_true
def afd:=@List.mem_map_of_mem
def afe:=@List.flatMap_append
def aff:=@List.flatMap_def
def afg:=@Array.getElem?_toList
def afh:=@List.pairwise_cons
def afi:=@Classical.byContradiction
def afj:=@Option.isSome_iff_exists
def afk:=@Nat.mul_comm
def afl:=@Nat.zero_mul
def afm:=@Nat.le_of_eq
def afn:=@List.contains_eq_mem
def afo:=@List.filter_nil
def afp:=@List.map_take
def afq:=@List.take_append_of_le_length
def afr:=@List.getElem?_replicate
def afs:=@List.length_pos_iff
def aft:=@Array.getElem?_setIfInBounds
def afu:=@List.getElem_mem
def afv:=@List.drop_drop
def afw:=@Bool.false_and
def afx:=@decide_eq_true
def afy:=@List.append_eq_nil_iff
def afz:=@Nat.add_sub_cancel
def afA:=@Option.toList_some
def afB:=@List.drop_left'
def afC:=@Array.getElem?_append_left
def afD:=@List.getElem?_set
def afE:=@List.set_eq_take_append_cons_drop
def afF:=@List.findIdx?_eq_some_iff_getElem
def afG:=@List.flatMap_nil
def afH:=@Int.eq_ofNat_of_zero_le
def afI:=@List.filter_cons_of_neg
def afJ:=@Bool.true_and
def afK:=@Option.isSome_some
def afL:=@Nat.one_mul
def afM:=@List.drop_eq_nil_of_le
def afN:=@not_false_eq_true
def afO:=@List.size_toArray
def afP:=@List.foldl_append
def afQ:=@List.set_append_right
def afR:=@Bool.and_false
def afS:=@List.singleton_append
def afT:=@List.mem_cons_of_mem
def afU:=@List.sum_cons
def afV:=@Array.length_toList
def afW:=@List.takeWhile_cons
def afX:=@List.getElem?_eq_none_iff
def afY:=@List.findIdx?_eq_none_iff
def afZ:=@UInt8.toNat_inj
def af0:=@List.map_map
def af1:=@Array.getElem?_replicate
def af2:=@List.map_set
def af3:=@gt_iff_lt
def af4:=@List.mem_range
def af5:=@List.mem_range'_1
def af6:=@List.map_drop
def af7:=@Array.toList_map
def af8:=@Array.all_eq_true_iff_forall_mem
def af9:=@UInt8.lt_iff_toNat_lt
def af':=@ite_false
def af_:=@List.eq_nil_or_concat
def aga:=@List.takeWhile_append_dropWhile
def agb:=@bne_iff_ne
def agc:=@Nat.div_lt_of_lt_mul
def agd:=@Array.mem_toList_iff
def age:=@List.eq_nil_iff_forall_not_mem
def agf:=@List.nodup_cons
def agh:=@List.length_set
def agi:=@Option.bind_eq_bind
def agk:=@List.filter_filter
def agl:=@List.find?_eq_none
def agm:=@Nat.eq_of_mul_eq_mul_right
def agn:=@List.isSuffixOf_iff_suffix
def ago:=@Nat.mul_assoc
def agp:=@List.filter_congr
def agq:=@List.any_eq_false
def agr:=@List.getElem?_zip_eq_some
def ags:=@or_true
def agt:=@Nat.add_comm
def agu:=@List.mem_flatMap
def agv:=@and_true
def agw:=@List.foldlM_cons
def agx:=@List.drop_length
def agy:=@List.range'_succ
def agz:=@decide_eq_decide
def agA:=@List.filter_cons_of_pos
def agB:=@List.head?_drop
def agC:=@ge_iff_le
def agD:=@exists_eq_left'
def agE:=@ByteArray.data_extract
def agF:=@Nat.mul_one
def agG:=@List.tail_drop
def agH:=@List.getElem?_toArray
def agI:=@List.take_zero
def agJ:=@Bool.and_eq_false_iff
def agK:=@dif_pos
def agL:=@Classical.choose_spec
def agM:=@List.foldl_nil
def agN:=@Nat.add_le_add_right
def agO:=@List.range_eq_range'
def agP:=@List.count_le_length
def agQ:=@ite_true
def agR:=@List.getLast?_concat
def agS:=@List.mem_of_getLast?
def agT:=@ByteArray.ext
def agU:=@Bool.and_true
def agV:=@Bool.false_or
def agW:=@List.drop_set_of_lt
def agX:=@List.filter_eq_self
def agY:=@List.replicate_zero
def agZ:=@List.replicate_succ
def ag0:=@Array.toList_range
def ag1:=@Nat.pow_succ
def ag2:=@List.mapIdx_append
def j8:=@Function.comp_def
def d_:=@Option.getD_none
def lz:=@Nat.mod_eq_of_lt
def lT:=@List.isEmpty_iff
def oM:=@Nat.mod_lt
def pB:=@Nat.div_add_mod
def jY:=@Nat.min_le_left
def uh:=@Int.natCast_mul
def jZ:=@List.set_append
def BC:=@UInt8.toNat.inj
def BD:=@List.count_cons
def kE:=@Nat.le_max_left
def kF:=@List.any_eq_true
def kG:=@eq_iff_iff
inductive Lb where
 |loc (n:Nat)
 |par (n:Nat)
 |gen (n:Nat)
 |nest (l:Lb) (i j:Nat)
 deriving DecidableEq
def Lb.fresh:Lb→Bool
 | .loc _=>true
 | .nest l _ _=>l.fresh
 |_=>false
def Lb.entry:Lb→Bool
 | .par _=>true
 |_=>false
def Lb.oq {l:Lb} (h:l.entry=true):l.fresh=false:=by
 cases l<;>simp_all[Lb.entry,Lb.fresh]
def Lb.kQ:Lb→Lb
 | .nest l _ j=> .nest l 0 j
 |l=>l
def IL (n:Nat):(Lb.loc n).kQ= .loc n:=rfl
def Df (n:Nat):(Lb.par n).kQ= .par n:=rfl
def IM (n:Nat):(Lb.gen n).kQ= .gen n:=rfl
def Ew (l:Lb) (i j:Nat):(Lb.nest l i j).kQ= .nest l 0 j:=rfl
def Lb.app (l:Lb) (d:Nat):Lb:=if l.fresh then .loc d else .gen d
def Lb.nR (l:Lb) (d:Nat) (h:(l.app d).fresh=true):l.fresh=true:=by
 unfold Lb.app at h;split at h
 ·assumption
 simp[Lb.fresh] at h
inductive IV where
 |bool (b:Bool)
 |int (k:IntKind) (n:Int)
 |str (s:List UInt8)
 |list (xs:List IV)
 |agg (cs:List IV)
 |ifc (t:Nat)
def IV.cells:IV→List IV
 | .agg cs=>cs
 |x=>[x]
inductive AV where
 |any
 |un
 |bool (b:Bool)
 |int (k:IntKind) (n:Int)
 |str (s:List UInt8)
 |list (xs:List IV)
 |nil0
 |nD
 |mH
 |agg (cs:List AV)
 |dM (cs:List AV)
 |sl (l:Lb) (sz i n:Nat)
 |slk (l:Lb) (sz i n c:Nat)
 |ptr (l:Lb) (sz i j:Nat)
 |lptr (cs:List IV)
 |fn (f:Nat) (first cap:List AV)
 |ifc (t:Nat) (x:AV)
def IV.gK:IV→AV
 | .bool b=> .bool b
 | .int k n=> .int k n
 | .str s=> .str s
 | .list xs=> .list xs
 | .agg _=> .any
 | .ifc t=> .ifc t .any
def IV.av:IV→AV
 | .agg cs=> .agg (cs.map IV.gK)
 |x=>x.gK
structure Row where
 sz:Nat
 els:List (List AV)
inductive Slot where
 |unused
 |dead
 |live (r:Row)
abbrev Hp:=Lb→Slot
abbrev Env:=Nat→AV
def live (H:Hp) (l:Lb):Prop:=∃r,H l= .live r
def qU (w:World) (k:Nat):Option Nat:=
 match w.heap[k]? with
 |some (.cells c _ _)=>some c.size
 |_=>none
def Ts (w:World) (Im:Nat→Prop) (n:Nat) (els:Nat→Nat→Nat→Prop) (v:Value):Prop:=
 ∃a c,v= .slice a n c∧n≤c∧c≤maxLen ∧
  (n=0∨∃b o sz,a=some ⟨b,o,none⟩∧Im b∧b<w.heap.size∧0<sz∧els b o sz)
mutual
def kP (w:World) (Im:Nat→Prop):IV→Value→Prop
 | .bool b,v=>v= .bool b
 | .int k n,v=>v= .int k n
 | .str s,v=>v= .string ⟨s.toArray⟩
 | .list xs,v=>Ts w Im xs.length (fun b o sz=>dS w Im xs b o sz) v
 | .agg _,_=>False
 | .ifc t,v=>∃u,v= .iface t u
def dF (w:World) (Im:Nat→Prop):List IV→Nat→Nat→Prop
 |[],_,_=>True
 |x::r,b,o=>(∃v,w.cell? ⟨b,o,none⟩=some v∧kP w Im x v)∧dF w Im r b (o+1)
def nJ (w:World) (Im:Nat→Prop):IV→Nat→Nat→Nat→Prop
 | .agg cs,b,o,sz=>sz=cs.length∧dF w Im cs b o
 | .bool x,b,o,sz=>sz=1∧∃v,w.cell? ⟨b,o,none⟩=some v∧v= .bool x
 | .int k n,b,o,sz=>sz=1∧∃v,w.cell? ⟨b,o,none⟩=some v∧v= .int k n
 | .str s,b,o,sz=>sz=1∧∃v,w.cell? ⟨b,o,none⟩=some v∧v= .string ⟨s.toArray⟩
 | .list xs,b,o,sz=>sz=1∧∃v,w.cell? ⟨b,o,none⟩=some v∧Ts w Im xs.length (fun b o sz=>dS w Im xs b o sz) v
 | .ifc t,b,o,sz=>sz=1∧∃v,w.cell? ⟨b,o,none⟩=some v∧∃u,v= .iface t u
def dS (w:World) (Im:Nat→Prop):List IV→Nat→Nat→Nat→Prop
 |[],_,_,_=>True
 |x::r,b,o,sz=>nJ w Im x b o sz∧dS w Im r b (o+sz) sz
end
def ku (w:World) (Im:Nat→Prop) (x:IV) (b o sz:Nat):nJ w Im x b o sz↔sz=x.cells.length∧dF w Im x.cells b o:=by
 cases x<;>simp[nJ,IV.cells,dF,kP]
structure mV (w w':World) (Im wc:Nat→Prop):Prop where
 im:∀k,Im k→k<w.heap.size→wc k∧k<w'.heap.size∧w'.heap[k]?=w.heap[k]?
def Ts.mono {w w':World} {Im wc:Nat→Prop} (h:mV w w' Im wc) {n:Nat} {e e':Nat→Nat→Nat→Prop}
  (he:∀b o sz,Im b→b<w.heap.size→e b o sz→e' b o sz) {v:Value} (hv:Ts w Im n e v):Ts w' wc n e' v:=by
 obtain⟨a,c,h1,h2,h3,h4⟩:=hv;refine⟨a,c,h1,h2,h3,h4.imp id ?_⟩;rintro⟨b,o,sz,e1,e2,e3,e4,e5⟩;obtain⟨k1,k2,_⟩:=h.im b e2 e3;exact⟨b,o,sz,e1,k1,k2,e4,he _ _ _ e2 e3 e5⟩
def pe {w w':World} {b o:Nat} (h:w'.heap[b]?=w.heap[b]?):w'.cell? ⟨b,o,none⟩=w.cell? ⟨b,o,none⟩:=
 World.cell?_of_block (w:=w) (a:=⟨b,o,none⟩) h
mutual
theorem kP.mono {w w':World} {Im wc:Nat→Prop} (h:mV w w' Im wc):∀(x:IV) (v:Value),kP w Im x v→kP w' wc x v
 | .bool b,v,hv=>by simpa[kP] using hv
 | .int k n,v,hv=>by simpa[kP] using hv
 | .str s,v,hv=>by simpa[kP] using hv
 | .list xs,v,hv=>by
  simp only[kP] at hv ⊢;exact Ts.mono h (fun b o sz hb hs he=>dS.mono h xs b o sz hb hs he) hv
 | .agg _,v,hv=>by simp[kP] at hv
 | .ifc t,v,hv=>by simpa[kP] using hv
theorem dF.mono {w w':World} {Im wc:Nat→Prop} (h:mV w w' Im wc):∀(xs:List IV) (b o:Nat),Im b→b<w.heap.size→dF w Im xs b o→dF w' wc xs b o
 |[],_,_,_,_,_=>by simp[dF]
 |x::r,b,o,hb,hs,hv=>by
  simp only[dF] at hv ⊢;obtain⟨⟨v,h1,h2⟩,h3⟩:=hv;obtain⟨_,_,k3⟩:=h.im b hb hs;exact⟨⟨v,(pe k3).trans h1,kP.mono h x v h2⟩,dF.mono h r b (o+1) hb hs h3⟩
theorem nJ.mono {w w':World} {Im wc:Nat→Prop} (h:mV w w' Im wc):∀(x:IV) (b o sz:Nat),Im b→b<w.heap.size→nJ w Im x b o sz→nJ w' wc x b o sz
 | .agg cs,b,o,sz,hb,hs,hv=>by
  simp only[nJ] at hv ⊢;exact⟨hv.1,dF.mono h cs b o hb hs hv.2⟩
 | .bool x,b,o,sz,hb,hs,hv=>by
  simp only[nJ] at hv ⊢;obtain⟨h0,v,h1,h2⟩:=hv;exact⟨h0,v,(pe (h.im b hb hs).2.2).trans h1,h2⟩
 | .int k n,b,o,sz,hb,hs,hv=>by
  simp only[nJ] at hv ⊢;obtain⟨h0,v,h1,h2⟩:=hv;exact⟨h0,v,(pe (h.im b hb hs).2.2).trans h1,h2⟩
 | .str s,b,o,sz,hb,hs,hv=>by
  simp only[nJ] at hv ⊢;obtain⟨h0,v,h1,h2⟩:=hv;exact⟨h0,v,(pe (h.im b hb hs).2.2).trans h1,h2⟩
 | .ifc t,b,o,sz,hb,hs,hv=>by
  simp only[nJ] at hv ⊢;obtain⟨h0,v,h1,h2⟩:=hv;exact⟨h0,v,(pe (h.im b hb hs).2.2).trans h1,h2⟩
 | .list xs,b,o,sz,hb,hs,hv=>by
  simp only[nJ] at hv ⊢;obtain⟨h0,v,h1,h2⟩:=hv;exact⟨h0,v,(pe (h.im b hb hs).2.2).trans h1,Ts.mono h (fun b o sz hb hs he=>dS.mono h xs b o sz hb hs he) h2⟩
theorem dS.mono {w w':World} {Im wc:Nat→Prop} (h:mV w w' Im wc):∀(xs:List IV) (b o sz:Nat),Im b→b<w.heap.size→dS w Im xs b o sz→dS w' wc xs b o sz
 |[],_,_,_,_,_,_=>by simp[dS]
 |x::r,b,o,sz,hb,hs,hv=>by
  simp only[dS] at hv ⊢;exact⟨nJ.mono h x b o sz hb hs hv.1,dS.mono h r b (o+sz) sz hb hs hv.2⟩
end
def QD (w:World) (β:Lb→Option Nat) (l:Lb) (sz i c:Nat) (a:Option Addr):Prop:=
 c=0∨∃g S,β l=some g∧a=some ⟨g,i*sz,none⟩∧qU w g=some S∧(i+c)*sz=S
mutual
def RV (w:World) (β:Lb→Option Nat) (H:Hp) (Im:Nat→Prop):AV→Value→Prop
 | .any,_=>True
 | .un,v=>v=undef
 | .bool b,v=>v= .bool b
 | .int k n,v=>v= .int k n
 | .str s,v=>v= .string ⟨s.toArray⟩
 | .list xs,v=>kP w Im (.list xs) v
 | .nil0,v=>∃a,v= .slice a 0 0
 | .nD,v=>v= .pointer none
 | .mH,v=>v= .nilIface
 | .agg cs,v=>∃vs:List Value,v= .agg vs.toArray∧cM w β H Im cs vs
 | .dM cs,v=>∃vs:List Value,v= .tuple vs.toArray∧cM w β H Im cs vs
 | .sl l sz i n,v=>∃a c,v= .slice a n c∧n≤c∧c≤maxLen∧(0<n→a.isSome=true)∧(live H l→QD w β l sz i c a)
 | .slk l sz i n c,v=>∃a,v= .slice a n c∧n≤c∧c≤maxLen∧(0<c→a.isSome=true)∧(live H l→QD w β l sz i c a)
 | .ptr l sz i j,v=>∃a,v= .pointer (some a)∧(live H l→∃g,β l=some g∧a=⟨g,i*sz+j,none⟩)
 | .lptr cs,v=>∃b o,v= .pointer (some ⟨b,o,none⟩)∧Im b∧b<w.heap.size∧dF w Im cs b o
 | .fn f fs cs,v=>∃vs us:List Value,v= .func (.func f) vs.toArray us.toArray∧cM w β H Im fs vs∧cM w β H Im cs us
 | .ifc t x,v=>∃u,v= .iface t u∧RV w β H Im x u
def cM (w:World) (β:Lb→Option Nat) (H:Hp) (Im:Nat→Prop):List AV→List Value→Prop
 |[],vs=>vs=[]
 |x::r,vs=>∃v us,vs=v::us∧RV w β H Im x v∧cM w β H Im r us
end
mutual
def AV.aB:AV→List Lb
 | .sl l _ _ _=>[l]
 | .slk l _ _ _ _=>[l]
 | .ptr l _ _ _=>[l]
 | .agg cs=>ah cs
 | .dM cs=>ah cs
 | .fn _ fs cs=>ah fs++ah cs
 | .ifc _ x=>x.aB
 |_=>[]
def ah:List AV→List Lb
 |[]=>[]
 |x::r=>x.aB++ah r
end
structure kR (w w':World) (β β':Lb→Option Nat) (H H':Hp) (Im wc:Nat→Prop) (ls:List Lb):Prop extends mV w w' Im wc where
 lb:∀l∈ls,live H' l→live H l∧β' l=β l∧∀g S,β l=some g→qU w g=some S→qU w' g=some S
def kR.sub {w w':World} {β β':Lb→Option Nat} {H H':Hp} {Im wc:Nat→Prop} {ls YG:List Lb} (h:kR w w' β β' H H' Im wc ls) (hs:∀l∈YG,l∈ls) :
 kR w w' β β' H H' Im wc YG:=⟨h.tomV,fun l hl=>h.lb l (hs l hl)⟩
mutual
theorem RV.mono {w w':World} {β β':Lb→Option Nat} {H H':Hp} {Im wc:Nat→Prop}:∀(x:AV) (v:Value),kR w w' β β' H H' Im wc x.aB→RV w β H Im x v→RV w' β' H' wc x v
 | .any,_,_,_=>by simp[RV]
 | .un,_,_,hv=>by simpa[RV] using hv
 | .bool _,_,_,hv=>by simpa[RV] using hv
 | .int _ _,_,_,hv=>by simpa[RV] using hv
 | .str _,_,_,hv=>by simpa[RV] using hv
 | .nil0,_,_,hv=>by simpa[RV] using hv
 | .nD,_,_,hv=>by simpa[RV] using hv
 | .mH,_,_,hv=>by simpa[RV] using hv
 | .list xs,v,h,hv=>by simp only[RV] at hv ⊢;exact kP.mono h.tomV _ _ hv
 | .agg cs,v,h,hv=>by
  simp only[RV] at hv ⊢;obtain⟨vs,rfl,h1⟩:=hv;exact⟨vs,rfl,cM.mono cs vs (by simpa[AV.aB] using h) h1⟩
 | .dM cs,v,h,hv=>by
  simp only[RV] at hv ⊢;obtain⟨vs,rfl,h1⟩:=hv;exact⟨vs,rfl,cM.mono cs vs (by simpa[AV.aB] using h) h1⟩
 | .sl l sz i n,v,h,hv=>by
  simp only[RV] at hv ⊢;obtain⟨a,c,h1,h2,h3,h4,h5⟩:=hv;refine⟨a,c,h1,h2,h3,h4,fun hl=> ?_⟩;obtain⟨k1,k2,k3⟩:=h.lb l (by simp[AV.aB]) hl;rcases h5 k1 with h6|⟨g,S,e1,e2,e3,e4⟩
  ·exact .inl h6
  exact .inr ⟨g,S,k2.trans e1,e2,k3 g S e1 e3,e4⟩
 | .slk l sz i n c,v,h,hv=>by
  simp only[RV] at hv ⊢;obtain⟨a,h1,h2,h3,h4,h5⟩:=hv;refine⟨a,h1,h2,h3,h4,fun hl=> ?_⟩;obtain⟨k1,k2,k3⟩:=h.lb l (by simp[AV.aB]) hl;rcases h5 k1 with h6|⟨g,S,e1,e2,e3,e4⟩
  ·exact .inl h6
  exact .inr ⟨g,S,k2.trans e1,e2,k3 g S e1 e3,e4⟩
 | .ptr l sz i j,v,h,hv=>by
  simp only[RV] at hv ⊢;obtain⟨a,h1,h2⟩:=hv;refine⟨a,h1,fun hl=> ?_⟩;obtain⟨k1,k2,k3⟩:=h.lb l (by simp[AV.aB]) hl;obtain⟨g,e1,e2⟩:=h2 k1;exact⟨g,k2.trans e1,e2⟩
 | .lptr cs,v,h,hv=>by
  simp only[RV] at hv ⊢;obtain⟨b,o,h1,h2,h3,h4⟩:=hv;obtain⟨k1,k2,_⟩:=h.im b h2 h3;exact⟨b,o,h1,k1,k2,dF.mono h.tomV cs b o h2 h3 h4⟩
 | .fn f fs cs,v,h,hv=>by
  simp only[RV] at hv ⊢;obtain⟨vs,us,rfl,h1,h2⟩:=hv;exact⟨vs,us,rfl,cM.mono fs vs (h.sub (by simp[AV.aB];intro l hl;exact .inl hl)) h1,cM.mono cs us (h.sub (by simp[AV.aB];intro l hl;exact .inr hl)) h2⟩
 | .ifc t x,v,h,hv=>by
  simp only[RV] at hv ⊢;obtain⟨u,rfl,h1⟩:=hv;exact⟨u,rfl,RV.mono x u (by simpa[AV.aB] using h) h1⟩
theorem cM.mono {w w':World} {β β':Lb→Option Nat} {H H':Hp} {Im wc:Nat→Prop}:∀(xs:List AV) (vs:List Value),kR w w' β β' H H' Im wc (ah xs)→cM w β H Im xs vs→cM w' β' H' wc xs vs
 |[],_,_,hv=>by simpa[cM] using hv
 |x::r,vs,h,hv=>by
  simp only[cM] at hv ⊢;obtain⟨v,us,rfl,h1,h2⟩:=hv;exact⟨v,us,rfl,RV.mono x v (h.sub (by simp[ah];intro l hl;exact .inl hl)) h1,cM.mono r us (h.sub (by simp[ah];intro l hl;exact .inr hl)) h2⟩
end
def zb (w:World) (β:Lb→Option Nat) (H:Hp) (Im:Nat→Prop) (l:Lb) (r:Row):Prop:=
 0<r.sz∧(∀cs∈r.els,cs.length=r.sz) ∧
 match β l with
 |none=>r.els=[]
 |some g=>∃cur e cap,w.heap[g]?=some (.cells cur e (0,0))∧cur.size=cap*r.sz∧cap≤maxLen∧r.els.length≤cap ∧
  ∀i j cs x,r.els[i]?=some cs→cs[j]?=some x→∃v,cur[i*r.sz+j]?=some v∧RV w β H Im x v
def gX (w:World) (Im:Nat→Prop) (cs:List IV) (g:Nat):Prop:=dF w Im cs g 0∧qU w g=some cs.length
def gX.mono {w w':World} {Im wc:Nat→Prop} (h:mV w w' Im wc) {cs:List IV} {g:Nat} (hb:Im g) (hs:g<w.heap.size) (hg:gX w Im cs g):gX w' wc cs g:=
 ⟨dF.mono h cs g 0 hb hs hg.1,by unfold qU;rw[(h.im g hb hs).2.2];exact hg.2⟩
end Go.Am

namespace Go.Am
open Go Go.RowKit
inductive O where
 |t (n:Nat)
 |c (x:AV)
def ev (env:Env):O→AV
 | .t n=>env n
 | .c x=>x
inductive Kd where
 |b|i|s
 deriving DecidableEq
inductive eF where
 |nE (x:O)
 |pick (c a b:O)
 |Mq (a:O) (off:Nat)
 |Dg (x i:O) (sz:Nat)
 |vd (x i:O)
 |len (x:O)
 |lens (x:O)
 |qd (x:O) (lo hi mx:Option O) (sz:Nat)
 |ot (x:O) (lo hi:Option O)
 |bin (op:BinOp) (x y:O)
 |Mr (neg:Bool) (x y:O)
 |Kj (neg:Bool) (x y:O)
 |Qn (neg:Bool) (x y:O)
 |zc (neg:Bool) (ks:List Kd) (x y:O)
 |not (x:O)
 |neg (x:O)
 |max (x y:O)
 |min (x y:O)
 |ext (x:O) (i:Nat)
 |oa (z:List AV) (ps:List (Nat×Nat×O))
 |zM (x:O) (off:Nat) (m:Option Nat)
 |lits (n sz:Nat) (z:List AV) (ps:List (Nat×O))
 |BK (x:O)
 |dc (x:O)
 |stuck
 |Qo (f:Nat) (cap:List O)
 |Dh (k:IntKind) (x:O)
 |u6 (x:O)
 |QE (x:O)
 |Ms (x:O)
 |Di (t:Nat) (x:O)
 |load (m:Option Nat) (a:O)
 |box (x:O)
 |new (cs:List AV)
 |Ej (n c:O) (sz bytes:Nat) (z:List AV)
 |store (m:Nat) (a x:O)
 |app (s x:O) (sz bytes:Nat)
 |xu (s x:O) (sz:Nat)
 |call (f:Nat) (args:List O)
 |jH (x:O) (args:List O)
 |Kk (neg:Bool) (x:O)
 |ME (x i:O) (n sz:Nat)
 |cap (x:O)
 |Ek (x:O) (sz:Nat) (z:List AV)
 |o3 (f:Nat) (args:List O)
 |zN (x:O) (n sz:Nat)
 |xw (s x:O) (sz bytes:Nat)
 |zO (s n:O) (sz bytes:Nat) (z:List AV)
 |Qp (f:Nat) (first cs:List O)
 |ou (sz:Nat) (z:List AV) (ps:List (Nat×O))
structure dD where
 d:Option Nat
 g:Option (Nat×Bool)
 i:eF
abbrev aE (k:Nat) (i:eF):dD:=⟨some k,none,i⟩
abbrev af (k j:Nat):dD:=⟨some k,none, .nE (.t j)⟩
abbrev cS (k j:Nat):dD:=⟨some k,none, .load none (.t j)⟩
abbrev b7 (k j n:Nat):dD:=⟨some k,none, .Mq (.t j) n⟩
abbrev dT (i:eF):dD:=⟨none,none,i⟩
abbrev eP (k j:Nat) (i:eF):dD:=⟨some k,some (j,true),i⟩
abbrev hQ (k j:Nat) (i:eF):dD:=⟨some k,some (j,false),i⟩
abbrev ij (n:Int):O:= .c (.int .i64 n)
abbrev vC (n:Bool):O:= .c (.bool n)
abbrev eS (k:Nat) (b:BinOp) (i j:Nat):dD:=⟨some k,none, .bin b (.t i) (.t j)⟩
abbrev db (k:Nat) (b:BinOp) (i:Nat) (c:Int):dD:=⟨some k,none, .bin b (.t i) (.c (.int .i64 c))⟩
abbrev gd (k n j:Nat):dD:=⟨some k,none, .load (some n) (.t j)⟩
abbrev ig (k i j n:Nat):dD:=⟨some k,none, .Dg (.t i) (.t j) n⟩
abbrev l7 (k i j:Nat):dD:=⟨some k,none, .pick (.t i) (.t j) (.c (.bool false))⟩
abbrev nC (k i j:Nat):dD:=⟨some k,none, .pick (.t i) (.c (.bool true)) (.t j)⟩
abbrev eX (k:Nat) (c:Int):dD:=⟨some k,none, .nE (.c (.int .i64 c))⟩
abbrev jK (k:Nat) (c:Bool):dD:=⟨some k,none, .nE (.c (.bool c))⟩
abbrev gQ (k j n:Nat):dD:=⟨some k,none, .ext (.t j) n⟩
abbrev ky (k j:Nat):dD:=⟨some k,none, .len (.t j)⟩
abbrev wg (k j:Nat):dD:=⟨some k,none, .lens (.t j)⟩
abbrev uk (k j:Nat):dD:=⟨some k,none, .not (.t j)⟩
abbrev oN (k j:Nat):dD:=⟨some k,none, .box (.t j)⟩
abbrev oQ (k:Nat):dD:=⟨some k,none, .nE (.c .nil0)⟩
abbrev eJ (k g j:Nat):dD:=⟨some k,some (g,true), .nE (.t j)⟩
abbrev gj (k g j:Nat):dD:=⟨some k,some (g,false), .nE (.t j)⟩
abbrev ir (k g j:Nat):dD:=⟨some k,some (g,true), .load none (.t j)⟩
abbrev jP (k g j:Nat):dD:=⟨some k,some (g,false), .load none (.t j)⟩
abbrev iu (k g j n:Nat):dD:=⟨some k,some (g,true), .Mq (.t j) n⟩
abbrev j3 (k g j n:Nat):dD:=⟨some k,some (g,false), .Mq (.t j) n⟩
structure Kx where
 P:Program
 G:Nat→Option (List IV)
 w0:World
 A:Nat→Prop
 D:Nat→Prop
 N:Nat
 H0:Hp
 β0:Lb→Option Nat
def Im (K:Kx) (β:Lb→Option Nat) (H:Hp) (k:Nat):Prop:=(K.A k∨K.w0.heap.size≤k)∧∀l,live H l→β l≠some k
structure Frm (D:Nat→Prop) (w0 w:World):Prop where
 os:w.os=w0.os
 tape:w.tape=w0.tape
 output:w.output=w0.output
 size:w0.heap.size≤w.heap.size
 block:∀k,k<w0.heap.size→¬D k→w.heap[k]?=w0.heap[k]?
 bs:∀k S,qU w0 k=some S→qU w k=some S
structure bu (K:Kx) (β:Lb→Option Nat) (env:Env) (H:Hp) (a:Act) (w:World):Prop where
 defers:a.defers=[]
 size:a.tmps.size=K.N
 mS:∀n,RV w β H (Im K β H) (env n) (a.tmps.getD n undef)
 rows:∀l r,H l= .live r→zb w β H (Im K β H) l r
 own:∀l g,live H l→β l=some g→(K.D g∨K.w0.heap.size≤g)
 inj:∀l l' g,live H l→live H l'→β l=some g→β l'=some g→l=l'
 kL:∀n,∀l∈(env n).aB,H l≠ .unused
 fk:∀l r,H l= .live r→∀cs∈r.els,∀l'∈ah cs,H l'≠ .unused
 frame:Frm K.D K.w0 w
 l_:∀g cs,K.G g=some cs→Im K β H g∧g<w.heap.size∧gX w (Im K β H) cs g
 nF:∀l,live K.H0 l→H l≠ .unused∧(live H l→β l=K.β0 l)
 fr:∀l g,live H l→l.fresh=true→β l=some g→K.w0.heap.size≤g
def put (env:Env) (d:Nat) (x:AV):Env:=fun n=>if n=d then x else env n
def iw (env:Env):Option Nat→AV→Env
 |some d,x=>put env d x
 |none,_=>env
abbrev rJ (w w':World):Prop:=Below w.heap.size w w'
def rJ.zP {w w':World} (h:rJ w w') (β:Lb→Option Nat) (H:Hp) (I:Nat→Prop) (ls:List Lb):kR w w' β β H H I I ls where
 im k hk hs:=⟨hk,ae3 hs h.size,h.block k hs⟩
 lb l _ hl:=⟨hl,rfl,fun g S _ hS=>by
  unfold qU at *;have:g<w.heap.size:=by
   cases hg:w.heap[g]? with
   |none=>simp[hg] at hS
   |some o=>exact(aed.1 hg).1
  rwa[h.block g this]⟩
def zb.MF {w w':World} (h:rJ w w') {β:Lb→Option Nat} {H:Hp} {I:Nat→Prop} {l:Lb} {r:Row} (hr:zb w β H I l r):zb w' β H I l r:=by
 obtain⟨h1,h2,h3⟩:=hr;refine⟨h1,h2,?_⟩;cases hb:β l with
 |none=>simpa[hb] using h3
 |some g=>
 simp only[hb] at h3 ⊢;obtain⟨cur,e,cap,e1,e2,e3,e4,e5⟩:=h3;have hg:g<w.heap.size:=(aed.1 e1).1;refine⟨cur,e,cap,(h.block g hg).trans e1,e2,e3,e4,fun i j cs x hi hj=> ?_⟩;obtain⟨v,k1,k2⟩:=e5 i j cs x hi hj;exact⟨v,k1,RV.mono x v (h.zP _ _ _ _) k2⟩
def Frm.MF {D:Nat→Prop} {w0 w w':World} (h:Frm D w0 w) (g:rJ w w'):Frm D w0 w':=
 ⟨g.os.trans h.os,g.tape.trans h.tape,g.output.trans h.output,aeZ h.size g.size,
   fun k hk hd => (g.block k (ae3 hk h.size)).trans (h.block k hk hd),fun k S hS => by
     have h1:=h.bs k S hS
     unfold qU at h1 ⊢
     have:k<w.heap.size:=by
       cases hg:w.heap[k]? with
       |none=>simp[hg] at h1
       |some o=>exact(aed.1 hg).1
     rwa[g.block k this]⟩
def MG (t:Array Value) (d n:Nat) (v:Value):(t.setIfInBounds d v).getD n undef=if n=d∧d<t.size then v else t.getD n undef:=by
 simp only[ad9,aft];by_cases h:d=n
 ·subst h;by_cases h2:d<t.size
  ·simp[h2]
  simp[h2,Array.getElem?_eq_none (Nat.le_of_not_lt h2)]
 simp[h,aef h,eq_comm]
def bu.step {K:Kx} {β:Lb→Option Nat} {env:Env} {H:Hp} {a:Act} {w w':World} (h:bu K β env H a w) (g:rJ w w')
  {d:Option Nat} {x:AV} {v:Value} (hd:∀n,d=some n→n<K.N) (hx:d.isSome=true→RV w' β H (Im K β H) x v) (hm:d.isSome=true→∀l∈x.aB,H l≠ .unused):bu K β (iw env d x) H (a.put d v) w' where
 defers:=by cases d<;>simp[Act.put,h.defers]
 size:=by cases d<;>simp[Act.put,h.size]
 mS n:=by
  have ho:=RV.mono (env n) (a.tmps.getD n undef) (g.zP β H (Im K β H) _) (h.mS n);cases d with
  |none=>simpa[iw,Act.put] using ho
  |some d=>
  simp only[iw,Act.put,put,MG];by_cases e:n=d
  ·subst e;have:=hd n rfl;rw[←h.size] at this;simpa[this] using hx rfl
  simpa[e] using ho
 rows l r hl:=(h.rows l r hl).MF g
 own:=h.own
 inj:=h.inj
 kL n:=by
  cases d with
  |none=>exact h.kL n
  |some d=>
  simp only[iw,put];split
  ·exact hm rfl
  exact h.kL n
 fk:=h.fk
 frame:=h.frame.MF g
 l_ k cs hk:=by
  obtain⟨h1,h2,h3⟩:=h.l_ k cs hk;exact⟨h1,ae3 h2 g.size,gX.mono (g.zP β H (Im K β H) []).tomV h1 h2 h3⟩
 nF:=h.nF
 fr:=h.fr
def X_:Value→Option AV
 | .bool b=>some (.bool b)
 | .int k n=>some (.int k n)
 | .string s=>some (.str s.data.toList)
 | .slice none 0 0=>some .nil0
 | .pointer none=>some .nD
 | .nilIface=>some .mH
 |_=>none
def Tt:List Value→Option (List AV)
 |[]=>some []
 |v::r=>(X_ v).bind fun x=>(Tt r).map fun s=>x::s
def cv:Value→Option AV
 | .agg a=>(Tt a.toList).map .agg
 |v=>X_ v
def co (G:Nat→Option (List IV)):Operand→Option O
 | .tmp t=>some (.t t)
 | .const v=>(cv v).map .c
 | .func f=>some (.c (.fn f [] []))
 | .global g=>(G g).map fun cs=> .c (.lptr cs)
def IN {v:Value} {x:AV} (h:X_ v=some x):x.aB=[]:=by
 unfold X_ at h;split at h<;>simp at h<;>subst h<;>simp[AV.aB]
def MH {v:Value} {x:AV} (h:X_ v=some x) (w:World) (β:Lb→Option Nat) (H:Hp) (I:Nat→Prop):RV w β H I x v:=by
 unfold X_ at h;split at h<;>simp at h<;>subst h<;>simp[RV]
theorem IP:∀(l:List Value) (xs:List AV),Tt l=some xs→ah xs=[]
 |[],xs,h=>by simp[Tt] at h;subst h;rfl
 |v::r,xs,h=>by
  simp only[Tt,adx,ag4] at h;obtain⟨x,h1,s,h2,rfl⟩:=h;simp[ah,IN h1,IP r s h2]
theorem MI (w:World) (β:Lb→Option Nat) (H:Hp) (I:Nat→Prop):∀(l:List Value) (xs:List AV),Tt l=some xs→cM w β H I xs l
 |[],xs,h=>by simp[Tt] at h;subst h;simp[cM]
 |v::r,xs,h=>by
  simp only[Tt,adx,ag4] at h;obtain⟨x,h1,s,h2,rfl⟩:=h;simp only[cM];exact⟨v,r,rfl,MH h1 _ _ _ _,MI w β H I r s h2⟩
def GO {v:Value} {x:AV} (h:cv v=some x):x.aB=[]:=by
 unfold cv at h;split at h
 ·obtain⟨cs,h1,rfl⟩:=ag4.1 h;simp[AV.aB,IP _ _ h1]
 exact IN h
def Tu {v:Value} {x:AV} (h:cv v=some x) (w:World) (β:Lb→Option Nat) (H:Hp) (I:Nat→Prop):RV w β H I x v:=by
 unfold cv at h;split at h
 ·rename_i a;obtain⟨cs,h1,rfl⟩:=ag4.1 h;simp only[RV];exact⟨a.toList,by simp,MI w β H I _ _ h1⟩
 exact MH h _ _ _ _
def bu.ev {K:Kx} {β:Lb→Option Nat} {env:Env} {H:Hp} {a:Act} {w:World} (h:bu K β env H a w) {x:Operand} {o:O} (hx:co K.G x=some o) :
  RV w β H (Im K β H) (ev env o) (a.eval x):=by
 cases x with
 |tmp t=>simp[co] at hx;subst hx;exact h.mS t
 |const v=>
  simp only[co,ag4] at hx;obtain⟨y,h1,rfl⟩:=hx;exact Tu h1 _ _ _ _
 |func f=>simp[co] at hx;subst hx;simp[Am.ev,RV,cM,Act.eval]
 |global g=>
 simp only[co,ag4] at hx;obtain⟨cs,h1,rfl⟩:=hx;obtain⟨h2,h3,h4⟩:=h.l_ g cs h1;exact⟨g,0,rfl,h2,h3,h4.1⟩
def bu.kI {K:Kx} {β:Lb→Option Nat} {env:Env} {H:Hp} {a:Act} {w:World} (h:bu K β env H a w) {x:Operand} {o:O} (hx:co K.G x=some o) :
  ∀l∈(Am.ev env o).aB,H l≠ .unused:=by
 cases x with
 |tmp t=>simp[co] at hx;subst hx;exact h.kL t
 |const v=>
  simp only[co,ag4] at hx;obtain⟨y,h1,rfl⟩:=hx;simp[Am.ev,GO h1]
 |func f=>simp[co] at hx;subst hx;simp[Am.ev,AV.aB,ah]
 |global g=>
 simp only[co,ag4] at hx;obtain⟨cs,h1,rfl⟩:=hx;simp[Am.ev,AV.aB]

def zQ (P:Program) (t:TypeId):Option Nat:=(P.info? t).map (·.size)
def Kl (P:Program) (t:TypeId):Option (Option Nat):=
 match P.underlying t with
 |some (.struct _)|some (.array _ _)=>(zQ P t).map some
 |some _=>some none
 |none=>none
def cos (G:Nat→Option (List IV)):List Operand→Option (List O)
 |[]=>some []
 |x::r=>(co G x).bind fun y=>(cos G r).map fun s=>y::s
def lN (G:Nat→Option (List IV)):Option Operand→Option (Option O)
 |none=>some none
 |some x=>(co G x).map some
def AV.iv:AV→Option IV
 | .bool b=>some (.bool b)
 | .int k n=>some (.int k n)
 | .str s=>some (.str s)
 | .list xs=>some (.list xs)
 | .nil0=>some (.list [])
 | .ifc t _=>some (.ifc t)
 |_=>none
def Ex:List AV→Option (List IV)
 |[]=>some []
 |x::r=>x.iv.bind fun y=>(Ex r).map fun s=>y::s
def AV.cells:AV→List AV
 | .agg cs=>cs
 |x=>[x]
def u6 (l:List Value):Option (List AV):=
 match l with
 |[]=>some []
 |v::r=>(cv v).bind fun x=>(u6 r).map fun s=>x::s
def kS (P:Program):Nat→List Field→Option (List Kd)
 |_,[]=>some []
 |n,f::r=>if f.name != "_"&&f.offset==n then
   match P.underlying f.type with
   |some .string=>(kS P (n+1) r).map fun s=> .s::s
   |some .bool=>(kS P (n+1) r).map fun s=> .b::s
   |some (.int _)=>(kS P (n+1) r).map fun s=> .i::s
   |_=>none
  else none
def s6 (P:Program) (t:TypeId):Option (List Kd):=
 match P.underlying t with
 |some (.struct fs)=>if !P.stoodInHeld t&& !P.eqGuardType P.depth t then kS P 0 fs.toList else none
 |_=>none
def sH:BinOp→Option Bool
 | .eql=>some false
 | .neq=>some true
 |_=>none
def GP:Operand→Bool
 | .const .nilIface=>true
 |_=>false
def ve (pl:List (Nat×Nat)):List Nat→List O→Option (List (Nat×Nat×O))
 |j::js,x::xs=>(pl[j]?).bind fun p=>(ve pl js xs).map fun r=>(p.1,p.2,x)::r
 |[],[]=>some []
 |_,_=>none
def YH (P:Program) (xt:TypeId):Bool:=match P.underlying xt with|some .string|some (.slice _)=>true|_=>false
def jQ (P:Program) (f:Nat):Bool:=(P.funcs[f]?).any (fun fn=>fn.body.isSome&&fn.name != "runtime.NumGoroutine")
def GQ:Operand→Bool
 | .const (.slice none 0 0)=>true
 |_=>false
def MJ (P:Program) (G:Nat→Option (List IV)) (o:Oper):Option eF:=
 match o.op with
 | .move x| .assign x=>(co G x).map .nE
 | .pick c a b=>(co G c).bind fun c=>(co G a).bind fun a=>(co G b).map fun b=> .pick c a b
 | .fieldAddr t x f=>
  match P.underlying t with
  |some (.struct fs)=>fs[f]?.bind fun fd=>(zQ P fd.type).bind fun s=>if s=0 then none else(co G x).map fun x=> .Mq x fd.offset
  |_=>none
 | .indexAddr t x i=>
  match P.underlying t with
  |some (.slice e)=>(zQ P e).bind fun s=>(co G x).bind fun x=>(co G i).map fun i=> .Dg x i s
  |some (.array n e)=>(zQ P e).bind fun s=>(co G x).bind fun x=>(co G i).map fun i=> .ME x i n s
  |_=>none
 | .index t x i=>
  match P.underlying t with
  |some .string=>(co G x).bind fun x=>(co G i).map fun i=> .vd x i
  |_=>none
 | .slice t x lo hi mx=>
  match P.underlying t with
  |some (.slice e)=>(zQ P e).bind fun s=>(co G x).bind fun x=>(lN G lo).bind fun lo=>(lN G hi).bind fun hi=>(lN G mx).map fun mx=> .qd x lo hi mx s
  |some .string=>if mx.isSome then none else(co G x).bind fun x=>(lN G lo).bind fun lo=>(lN G hi).map fun hi=> .ot x lo hi
  |some (.array n e)=>if lo.isNone&&hi.isNone&&mx.isNone then(zQ P e).bind fun s=>if s=0 then none else(co G x).map fun x=> .zN x n s else none
  |_=>none
 | .makeSlice t n c=>
  match P.underlying t with
  |some (.slice e)=>match P.info? e with
   |some i=>match i.zero with
    |some z=>if z.cells.size=i.size∧0<i.size∧0<i.bytes then(u6 z.cells.toList).bind fun zs=>(co G n).bind fun n=>(co G c).map fun c=> .Ej n c i.size i.bytes zs else none
    |none=>none
   |none=>none
  |_=>none
 | .binOp op t x y _=>
  match P.underlying t with
  |some (.int _)|some .string=>(co G x).bind fun x=>(co G y).map fun y=> .bin op x y
  |some .bool=>(sH op).bind fun n=>(co G x).bind fun x=>(co G y).map fun y=> .Mr n x y
  |some (.pointer _)=>(sH op).bind fun n=>(co G x).bind fun x=>(co G y).map fun y=> .Kj n x y
  |some (.interface _)=>if GP y then(sH op).bind fun n=>(co G x).bind fun x=>(co G y).map fun y=> .Qn n x y else none
  |some (.struct _)=>(s6 P t).bind fun ks=>(sH op).bind fun n=>(co G x).bind fun x=>(co G y).map fun y=> .zc n ks x y
  |some (.slice _)=>if GQ y then(sH op).bind fun n=>(co G x).map fun x=> .Kk n x else none
  |_=>none
 | .unOp .not _ x=>(co G x).map .not
 | .unOp .neg _ x=>(co G x).map .neg
 | .extract x i=>(co G x).map fun x=> .ext x i
 | .nilCheck x=>(co G x).map .dc
 | .box _ x=>(co G x).map .box
 | .makeFunc (.func f) first cap=>if first.isEmpty then(cos G cap.toList).map fun c=> .Qo f c else(cos G first.toList).bind fun q=>(cos G cap.toList).map fun c=> .Qp f q c
 | .load t x=>(Kl P t).bind fun m=>(co G x).map fun x=> .load m x
 | .alloc t=>match P.info? t with
  |some i=>match i.zero with
   |some z=>if z.cells.size=i.size then(u6 z.cells.toList).map .new else none
   |none=>none
  |none=>none
 | .store t x y=>(zQ P t).bind fun s=>(co G x).bind fun x=>(co G y).map fun y=> .store s x y
 | .convert s d x=>
  match P.underlying s,P.underlying d with
  |some (.int _),some (.int k)=>(co G x).map fun x=> .Dh k x
  |some .string,some .string=>(co G x).map .u6
  |some .string,some (.slice e)=>match P.underlying e with
   |some (.int .u8)=>(co G x).map .QE
   |_=>none
  |some (.slice e),some .string=>match P.underlying e with
   |some (.int .u8)=>(co G x).map .Ms
   |_=>none
  |_,_=>none
 | .makeInterface t x=>
  match P.underlying t with
  |some (.interface _)=>none
  |some _=>(co G x).map fun x=> .Di t x
  |none=>none
 | .field t x f=>
  match P.underlying t with
  |some (.struct fs)=>fs[f]?.bind fun fd=>(Kl P fd.type).bind fun m=>(co G x).map fun x=> .zM x fd.offset m
  |_=>none
 | .buildSlice t n ps=>
  match P.underlying t with
  |some (.slice e)=>match P.info? e with
   |some i=>match i.zero with
    |some z=>if z.cells.size=i.size∧0<i.size∧n*i.size≤2^24 then(u6 z.cells.toList).bind fun zs=>(cos G (ps.toList.map (·.2))).map fun xs=> .lits n i.size zs ((ps.toList.map (·.1)).zip xs) else none
    |none=>none
   |none=>none
  |_=>none
 | .build t ps=>
  match P.info? t,P.underlying t with
  |some it,some (.struct fields)=>match it.zero,fields.toList.mapM (fun f=>(P.info? f.type).map fun i=>(f.offset,i.size)) with
   |some z,some places=>(u6 z.cells.toList).bind fun zs=>(cos G (ps.toList.map (·.2))).bind fun xs=>(ve places (ps.toList.map (·.1)) xs).map fun qs=> .oa zs qs
   |_,_=>none
  |_,_=>none
 | .call c=>
  match c.callee with
  | .builtin .len=>match c.args.toList,c.argTypes[0]?.bind P.underlying with
   |[x],some .string=>(co G x).map .lens
   |[x],some (.slice _)=>(co G x).map .len
   |_,_=>none
  | .builtin .max=>match c.args.toList with
   |[x,y]=>(co G x).bind fun x=>(co G y).map fun y=> .max x y
   |_=>none
  | .builtin .min=>match c.args.toList with
   |[x,y]=>(co G x).bind fun x=>(co G y).map fun y=> .min x y
   |_=>none
  | .builtin .append=>match c.args.toList,c.argTypes.toList with
   |[s,x],[st,xt]=>match P.underlying st with
    |some (.slice e)=>match P.info? e with
     |some i=>if(i.zero.map (·.cells.size))==some i.size&&decide (0<i.size)&&YH P xt then
      (co G s).bind fun s=>(co G x).map fun x=> .app s x i.size i.bytes else match P.underlying xt,i.zero with
       |some (.int _),some z=>if z.cells.size=i.size∧0<i.size∧0<i.bytes then(u6 z.cells.toList).bind fun zs=>(co G s).bind fun s=>(co G x).map fun x=> .zO s x i.size i.bytes zs else none
       |_,_=>none
     |none=>none
    |_=>none
   |_,_=>none
  | .builtin .cap=>match c.args.toList,c.argTypes[0]?.bind P.underlying with
   |[x],some (.slice _)=>(co G x).map .cap
   |_,_=>none
  | .builtin .copy=>match c.args.toList,c.argTypes.toList with
   |[d,x],[dt,_]=>match P.underlying dt with
    |some (.slice e)=>(zQ P e).bind fun s=>if s=0 then none else(co G d).bind fun d=>(co G x).map fun x=> .xu d x s
    |_=>none
   |_,_=>none
  | .builtin .clear=>match c.args.toList,c.argTypes[0]?.bind P.underlying with
   |[x],some (.slice e)=>match P.info? e with
    |some i=>match i.zero with
     |some z=>if z.cells.size=i.size∧0<i.size then(u6 z.cells.toList).bind fun zs=>(co G x).map fun x=> .Ek x i.size zs else none
     |none=>none
    |none=>none
   |_,_=>none
  | .builtin _=>none
  | .invoke _ _=>none
  | .value (.func f)=>if jQ P f then(cos G c.args.toList).map fun xs=> .call f xs else(cos G c.args.toList).map fun xs=> .o3 f xs
  | .value f=>(co G f).bind fun y=>(cos G c.args.toList).map fun xs=> .jH y xs
 |_=>none
def comp (P:Program) (G:Nat→Option (List IV)) (o:Oper):Option eF:=match MJ P G o with
 |some i=>some i
 |none=>some .stuck
open Classical in
noncomputable def mW (env:Env) (o:Option O) (aby mx:Nat):Option Nat:=
 match o with
 |none=>some aby
 |some x=>match ev env x with
  | .int _ v=>if 0≤v∧v.toNat≤mx then some v.toNat else none
  |_=>none
def Flt (xs:List IV):Prop:=∀y∈xs,∀z∈y.cells,∀cs,z≠ .agg cs
def ko (sz:Nat) (xs:List IV):Prop:=∀x∈xs,x.cells.length=sz
def ja (op:BinOp) (x y:AV):Option AV:=
 match x,y with
 | .int k a,.int k' b=>if k=k' then match op with
   | .add=>some (.int k (k.wrap (a+b)))
   | .sub=>some (.int k (k.wrap (a - b)))
   | .mul=>some (.int k (k.wrap (a*b)))
   | .quo=>if b=0 then none else some (.int k (k.wrap (a.tdiv b)))
   | .rem=>if b=0 then none else some (.int k (a.tmod b))
   | .eql=>some (.bool (a==b))
   | .neq=>some (.bool (a !=b))
   | .lss=>some (.bool (a<b))
   | .leq=>some (.bool (a≤b))
   | .gtr=>some (.bool (a>b))
   | .geq=>some (.bool (a≥b))
   | .shr=>if 0≤b then some (.int k (a/2^min b.toNat k.bits)) else none
   |_=>none
  else none
 | .str a,.str b=>match op with
   | .add=>if a.length+b.length≤9223372036854775807 then some (.str (a++b)) else none
   | .eql=>some (.bool (a==b))
   | .neq=>some (.bool !(a==b))
   | .lss=>some (.bool (Op.bytesLess a b))
   | .leq=>some (.bool (Op.bytesLess a b||a==b))
   | .gtr=>some (.bool !(Op.bytesLess a b||a==b))
   | .geq=>some (.bool !(Op.bytesLess a b))
   |_=>none
 |_,_=>none
def eq1:Kd→AV→AV→Option Bool
 | .b,.bool a,.bool b=>some (a==b)
 | .i,.int k a,.int k' b=>if k=k' then some (a==b) else none
 | .s,.str a,.str b=>some (a==b)
 |_,_,_=>none
def eqs:List Kd→List AV→List AV→Option Bool
 |[],[],[]=>some true
 |k::ks,x::r,y::s=>(eq1 k x y).bind fun a=>(eqs ks r s).map fun b=>a&&b
 |_,_,_=>none
def YI:AV→AV→Option Bool
 | .nD,.nD=>some true
 | .nD,.ptr ..=>some false
 | .nD,.lptr ..=>some false
 | .ptr ..,.nD=>some false
 | .lptr ..,.nD=>some false
 |_,_=>none
noncomputable def rK (env:Env) (lo hi mx:Option O) (n:Nat):Option (Nat×Nat×Option Nat):=
 match mx with
 |none=>(mW env hi n n).bind fun h=>(mW env lo 0 h).map fun l=>(l,h,none)
 |some m=>if hi.isNone then none else(mW env (some m) 0 n).bind fun m=>(mW env hi 0 m).bind fun h=>(mW env lo 0 h).map fun l=>(l,h,some m)
noncomputable def oR (env:Env) (lo hi mx:Option O) (n c:Nat):Option (Nat×Nat×Option Nat):=
 match mx with
 |none=>(mW env hi n c).bind fun h=>(mW env lo 0 h).map fun l=>(l,h,none)
 |some m=>if hi.isNone then none else(mW env (some m) 0 c).bind fun m=>(mW env hi 0 m).bind fun h=>(mW env lo 0 h).map fun l=>(l,h,some m)
open Classical in
noncomputable def nG (env:Env) (x:AV) (lo hi mx:Option O) (sz:Nat):Option AV:=
 match x with
 | .nil0=>(rK env lo hi mx 0).map fun _=> .nil0
 | .list xs=>if ko sz xs then(rK env lo hi mx xs.length).map fun b=>if b.2.2=some b.1 then .nil0 else .list ((xs.take b.2.1).drop b.1) else none
 | .sl lb s i n=>if s=sz then(rK env lo hi mx n).bind fun b=>if b.2.2.isSome then none else some (.sl lb s (i+b.1) (b.2.1 - b.1)) else none
 | .slk lb s i n c=>if s=sz then(oR env lo hi mx n c).bind fun b=>if b.2.2.isSome then some .any else some (.slk lb s (i+b.1) (b.2.1 - b.1) (c - b.1)) else none
 |_=>none
def AV.one:AV→Bool
 | .any| .un| .agg _| .dM _=>false
 |_=>true
def AV.GF:AV→Bool
 | .agg cs=>cs.all AV.one
 |x=>x.one
def lO:List AV→List (Nat×Nat×AV)→Option (List AV)
 |cs,[]=>some cs
 |cs,(off,sz,x)::r=>if x.GF=true∧x.cells.length=sz∧off+sz≤cs.length then lO (cs.take off++x.cells++cs.drop (off+sz)) r else none
def QF:List IV→IV
 |[y]=>y
 |ys=> .agg ys
def chunks (sz:Nat):Nat→List IV→List IV
 |0,_=>[]
 |n+1,ys=>QF (ys.take sz)::chunks sz n (ys.drop sz)
def s7:List IV→Option (List UInt8)
 |[]=>some []
 | .int .u8 n::r=>(s7 r).map (UInt8.ofNat n.toNat::·)
 |_=>none
def GR:AV→Option AV
 | .list xs=>(s7 xs).map .str
 | .nil0=>some (.str [])
 |_=>none
open Classical in
noncomputable def aj (i:eF) (env:Env):Option AV:=
 match i with
 | .nE x=>some (ev env x)
 | .pick c a b=>match ev env c with
  | .bool t=>some (if t then ev env a else ev env b)
  |_=>none
 | .Mq a off=>match ev env a with
  | .ptr l sz i j=>some (.ptr l sz i (j+off))
  | .lptr cs=>some (.lptr (cs.drop off))
  |_=>none
 | .Dg x i sz=>match ev env x,ev env i with
  | .list xs,.int _ n=>if 0≤n then match xs[n.toNat]? with
    |some y=>if ko sz xs then some (.lptr y.cells) else none
    |none=>none
   else none
  | .sl l s i0 m,.int _ n=>if 0≤n∧n.toNat<m∧s=sz then some (.ptr l s (i0+n.toNat) 0) else none
  |_,_=>none
 | .vd x i=>match ev env x,ev env i with
  | .str s,.int _ n=>if 0≤n then match s[n.toNat]? with
    |some c=>some (.int .u8 c.toNat)
    |none=>none
   else none
  |_,_=>none
 | .lens x=>match ev env x with
  | .str s=>some (.int .i64 s.length)
  |_=>none
 | .len x=>match ev env x with
  | .list xs=>some (.int .i64 xs.length)
  | .nil0=>some (.int .i64 0)
  | .sl _ _ _ n=>some (.int .i64 n)
  | .slk _ _ _ n _=>some (.int .i64 n)
  |_=>none
 | .qd x lo hi mx sz=>nG env (ev env x) lo hi mx sz
 | .ot x lo hi=>match ev env x with
  | .str s=>(mW env hi s.length s.length).bind fun h=>(mW env lo 0 h).map fun l=> .str ((s.take h).drop l)
  |_=>none
 | .bin op x y=>ja op (ev env x) (ev env y)
 | .Mr neg x y=>match ev env x,ev env y with
  | .bool a,.bool b=>some (.bool (neg ^^ (a==b)))
  |_,_=>none
 | .Kj neg x y=>(YI (ev env x) (ev env y)).map fun b=> .bool (neg ^^ b)
 | .Qn neg x _=>match ev env x with
  | .mH=>some (.bool (neg ^^ true))
  | .ifc _ _=>some (.bool (neg ^^ false))
  |_=>none
 | .zc neg ks x y=>match ev env x,ev env y with
  | .agg xs,.agg ys=>(eqs ks xs ys).map fun b=> .bool (neg ^^ b)
  |_,_=>none
 | .not x=>match ev env x with
  | .bool b=>some (.bool !b)
  |_=>none
 | .neg x=>match ev env x with
  | .int k n=>some (.int k (k.wrap (0 - n)))
  |_=>none
 | .max x y=>match ev env x,ev env y with
  | .int k a,.int k' b=>if k=k' then some (.int k (if b>a then b else a)) else none
  |_,_=>none
 | .min x y=>match ev env x,ev env y with
  | .int k a,.int k' b=>if k=k' then some (.int k (if b<a then b else a)) else none
  |_,_=>none
 | .ext x i=>match ev env x with
  | .dM cs=>cs[i]?
  |_=>none
 | .dc x=>match ev env x with
  | .ptr l sz i j=>some (.ptr l sz i j)
  | .lptr cs=>some (.lptr cs)
  | .fn f a b=>some (.fn f a b)
  |_=>none
 | .Qo f cap=>some (.fn f [] (cap.map (ev env)))
 | .Qp f q cap=>some (.fn f (q.map (ev env)) (cap.map (ev env)))
 | .Dh k x=>match ev env x with
  | .int _ n=>some (.int k (k.wrap n))
  |_=>none
 | .u6 x=>match ev env x with
  | .str s=>some (.str s)
  |_=>none
 | .Di t x=>some (.ifc t (ev env x))
 | .oa z ps=>(lO z (ps.map fun p=>(p.1,p.2.1,ev env p.2.2))).map .agg
 | .zM x off m=>match ev env x with
  | .agg cs=>match m with
   |none=>cs[off]?
   |some k=>if off+k≤cs.length then some (.agg ((cs.drop off).take k)) else none
  |_=>none
 | .BK x=>(Ex (ev env x).cells).map .lptr
 | .lits n sz z ps=>if sz*n=0 then(if n=0∧ps.isEmpty=true then some .nil0 else none) else(lO ((List.replicate n z).flatten) (ps.map fun p=>(p.1*sz,sz,ev env p.2))).bind fun cs=>(Ex cs).map fun ys=>
   .list (chunks sz n ys)
 | .load m a=>match ev env a with
  | .lptr cs=>match m with
   |none=>cs[0]?.map IV.gK
   |some k=>if k≤cs.length then some (.agg ((cs.take k).map IV.gK)) else none
  |_=>none
 | .QE x=>match ev env x with
  | .str s=>if s.length≤140737488355328 then some (.list (s.map fun c=> .int .u8 c.toNat)) else none
  |_=>none
 | .Ms x=>GR (ev env x)
 | .ME x i n sz=>match ev env x,ev env i with
  | .ptr l s a j,.int _ m=>if 0≤m∧m.toNat<n then some (.ptr l s a (j+m.toNat*sz)) else none
  | .lptr cs,.int _ m=>if 0≤m∧m.toNat<n then some (.lptr (cs.drop (m.toNat*sz))) else none
  |_,_=>none
 | .zN x n sz=>match ev env x with
  | .lptr cs=>if cs.length=n*sz∧n≤maxLen∧(∀y∈cs,y.cells=[y]) then some (.list (chunks sz n cs)) else none
  |_=>none
 | .xw s x sz bytes=>match ev env s,ev env x with
  | .nil0,.list xs=>if ko sz xs∧Flt xs∧xs.length*bytes≤140737488355328∧0<bytes∧0<sz then some (.list xs) else none
  | .nil0,.nil0=>if 0<sz then some (.list []) else none
  |_,_=>none
 |_=>none
end Go.Am

namespace Go.Am
open Go Go.RowKit
def bD (K:Kx) (β:Lb→Option Nat) (H:Hp) (a:Act) (w:World) (o:Oper) (x:AV):Prop:=
 ∃v w',(execOp a.eval o).run K.P w= .ok (.value v) w'∧rJ w w'∧RV w' β H (Im K β H) x v∧∀l∈x.aB,H l≠ .unused
def bD.same {K:Kx} {β:Lb→Option Nat} {H:Hp} {a:Act} {w:World} {o:Oper} {x:AV} {v:Value} (h:(execOp a.eval o).run K.P w= .ok (.value v) w)
 (hv:RV w β H (Im K β H) x v) (hm:∀l∈x.aB,H l≠ .unused):bD K β H a w o x:=⟨v,w,h,Below.refl _ _,hv,hm⟩
section
variable {K:Kx} {β:Lb→Option Nat} {env:Env} {H:Hp} {a:Act} {w:World}
def Tx (hr:bu K β env H a w) {o:Oper} {x:Operand} {y:O} (ho:o.op= .move x∨o.op= .assign x) (hy:co K.G x=some y):bD K β H a w o (ev env y):=by
 refine bD.same (v:=a.eval x) ?_ (hr.ev hy) (hr.kI hy);rcases ho with ho|ho<;>simp[execOp,ho]
def UN (hr:bu K β env H a w) {o:Oper} {c x y:Operand} {c' x' y':O} (ho:o.op= .pick c x y) (hc:co K.G c=some c') (hx:co K.G x=some x') (hy:co K.G y=some y')
  {t:Bool} (ht:ev env c'= .bool t):bD K β H a w o (if t then ev env x' else ev env y'):=by
 have h:=hr.ev hc;rw[ht] at h;simp only[RV] at h;refine bD.same (v:=if t then a.eval x else a.eval y) ?_ ?_ ?_
 ·cases t<;>simp[execOp,ho,h,asBool]
 ·cases t
  ·simpa using hr.ev hy
  simpa using hr.ev hx
 cases t
 ·simpa using hr.kI hy
 simpa using hr.kI hx
def addr_add (g off n:Nat):(⟨g,off,none⟩:Addr).add n=⟨g,off+n,none⟩:=by
 unfold Addr.add;split<;>simp_all
def fQ {P:Program} {t:TypeId} {s:Nat} (h:zQ P t=some s) (w:World):(sizeOf t).run P w= .ok s w:=by
 unfold zQ at h;obtain⟨i,h1,h2⟩:=ag4.1 h;simp[sizeOf,typeInfo,h1,h2]
theorem qj {w:World} {I:Nat→Prop}:∀(n:Nat) (cs:List IV) (b o:Nat),dF w I cs b o→dF w I (cs.drop n) b (o+n)
 |0,cs,b,o,h=>by simpa using h
 |n+1,[],b,o,_=>by simp[dF]
 |n+1,x::r,b,o,h=>by
  simp only[dF] at h;have:=qj n r b (o+1) h.2;rw[aet]
  rwa[show o+1+n=o+(n+1) by omega] at this
def YJ (hr:bu K β env H a w) {o:Oper} {t:TypeId} {x:Operand} {f:Nat} {fs:Array Field} {fd:Field} {s:Nat} {x':O} (ho:o.op= .fieldAddr t x f)
  (ht:K.P.underlying t=some (.struct fs)) (hf:fs[f]?=some fd) (hs:zQ K.P fd.type=some s) (Qq:s≠0) (hx:co K.G x=some x') {y:AV}
  (hy:aj (.Mq x' fd.offset) env=some y):bD K β H a w o y:=by
 have h:=hr.ev hx;have hm:=hr.kI hx;have run:∀ad:Addr,a.eval x= .pointer (some ad)→(execOp a.eval o).run K.P w= .ok (.value (.pointer (some (ad.add fd.offset)))) w:=fun ad had=>by
  simp[execOp,ho,had,Instr.fieldAt,run_underlying ht,hf,Instr.sureAddr,fieldPlace,fQ hs,Qq,Result.andThen]
 simp only[aj] at hy;split at hy<;>simp at hy<;>subst hy<;>rename_i heq
 ·rw[heq] at h hm;simp only[RV] at h;obtain⟨ad,h1,h2⟩:=h;refine bD.same (run ad h1) ?_ (by simpa[AV.aB] using hm);simp only[RV];refine⟨_,rfl,fun hl=> ?_⟩;obtain⟨g,k1,rfl⟩:=h2 hl;exact⟨g,k1,by rw[addr_add];simp[aer]⟩
 rw[heq] at h;simp only[RV] at h;obtain⟨b,o',h1,h2,h3,h4⟩:=h;refine bD.same (run _ h1) ?_ (by simp[AV.aB]);rw[addr_add];exact⟨b,_,rfl,h2,h3,qj _ _ _ _ h4⟩
theorem B1 {w:World} {I:Nat→Prop} {sz:Nat}:∀(k:Nat) (xs:List IV) (b o:Nat) (y:IV),xs[k]?=some y→dS w I xs b o sz→nJ w I y b (o+k*sz) sz
 |0,[],_,_,_,h,_=>by simp at h
 |0,x::r,b,o,y,h,he=>by
  simp at h;subst h;simp only[dS] at he;simpa using he.1
 |k+1,[],_,_,_,h,_=>by simp at h
 |k+1,x::r,b,o,y,h,he=>by
  simp only[dS] at he;have:=B1 k r b (o+sz) y (by simpa using h) he.2
  rwa[show o+sz+k*sz=o+(k+1)*sz by rw[ad_];omega] at this
def run_indexAt_slice {P:Program} {w:World} {t e:TypeId} {s:Nat} (ht:P.underlying t=some (.slice e)) (hs:zQ P e=some s) (ad:Addr) (n c:Nat) (k:IntKind) (i:Int) (h0:0≤i) (hi:i.toNat<n) :
  (Instr.indexAt t (.slice (some ad) n c) (.int k i)).run P w= .ok (.pointer (some (ad.add (i.toNat*s)))) w:=by
 have:i<(n:Int):=by omega
 simp[Instr.indexAt,asIntOf,run_underlying ht,fQ hs,h0,this,Result.andThen]
def YK (hr:bu K β env H a w) {o:Oper} {t e:TypeId} {x i:Operand} {n s:Nat} {x' i':O} (ho:o.op= .indexAddr t x i)
  (ht:K.P.underlying t=some (.array n e)) (hs:zQ K.P e=some s) (hx:co K.G x=some x') (hi:co K.G i=some i') {y:AV}
  (hy:aj (.ME x' i' n s) env=some y):bD K β H a w o y:=by
 have h:=hr.ev hx;have h2:=hr.ev hi;have hm:=hr.kI hx;have run:∀(ad:Addr) (k:IntKind) (m:Int),a.eval x= .pointer (some ad)→a.eval i= .int k m→0≤m→m.toNat<n→(execOp a.eval o).run K.P w= .ok (.value (.pointer (some (ad.add (m.toNat*s))))) w:=fun ad k m had qW h0 bO=>by
  have QG:m<(n:Int):=by omega
  simp[execOp,ho,had,qW,Instr.indexAt,asIntOf,run_underlying ht,Instr.sureAddr,fQ hs,Result.andThen,h0,QG]
 simp only[aj] at hy;split at hy
 ·rename_i l sz a0 j k m e1 e2;rw[e1] at h hm;rw[e2] at h2;simp only[RV,kP] at h h2;split at hy
  ·rename_i hn;simp only[jl] at hy;subst hy;obtain⟨ad,h3,h4⟩:=h;refine bD.same (run ad k m h3 h2 hn.1 hn.2) ?_ (by simpa[AV.aB] using hm);simp only[RV];refine⟨_,rfl,fun hl=> ?_⟩;obtain⟨g,k1,rfl⟩:=h4 hl;exact⟨g,k1,by rw[addr_add];simp[aer]⟩
  simp at hy
 ·rename_i cs k m e1 e2;rw[e1] at h;rw[e2] at h2;simp only[RV,kP] at h h2;split at hy
  ·rename_i hn;simp only[jl] at hy;subst hy;obtain⟨b,o',h3,h4,h5,h6⟩:=h;refine bD.same (run _ k m h3 h2 hn.1 hn.2) ?_ (by simp[AV.aB]);rw[addr_add];exact⟨b,_,rfl,h4,h5,qj _ _ _ _ h6⟩
  simp at hy
 simp at hy
def YL (hr:bu K β env H a w) {o:Oper} {t e:TypeId} {x i:Operand} {s:Nat} {x' i':O} (ho:o.op= .indexAddr t x i)
  (ht:K.P.underlying t=some (.slice e)) (hs:zQ K.P e=some s) (hx:co K.G x=some x') (hi:co K.G i=some i') {y:AV}
  (hy:aj (.Dg x' i' s) env=some y):bD K β H a w o y:=by
 have h:=hr.ev hx;have h2:=hr.ev hi;have hm:=hr.kI hx;simp only[aj] at hy;split at hy
 ·rename_i xs k n e1 e2;rw[e1] at h;rw[e2] at h2;simp only[RV,kP] at h h2;split at hy
  ·rename_i hn;split at hy
   ·rename_i z hz;split at hy
    ·rename_i oS;simp only[jl] at hy;subst hy;obtain⟨ad,c,h3,h4,h5,h6⟩:=h;have bO:n.toNat<xs.length:=(ag6.1 hz).1;rcases h6 with h6|⟨b,of,sz,rfl,h7,h8,h9,GS⟩
     ·omega
     have UO:=B1 n.toNat xs b of z hz GS;rw[ku] at UO;have hz':sz=s:=(by rw[UO.1];exact oS z (adu hz));subst hz';refine bD.same (v:= .pointer (some ⟨b,of+n.toNat*sz,none⟩)) ?_ ⟨b,_,rfl,h7,h8,UO.2⟩ (by simp[AV.aB]);simp[execOp,ho,h3,h2,run_indexAt_slice ht hs _ _ _ _ _ hn bO,addr_add]
    simp at hy
   simp at hy
  simp at hy
 ·rename_i l s' i0 m k n e1 e2;rw[e1] at h hm;rw[e2] at h2;simp only[RV] at h h2;split at hy
  ·rename_i hn;obtain⟨qX,IQ,rfl⟩:=hn;simp only[jl] at hy;subst hy;obtain⟨ad,c,h3,h4,h5,h6,h7⟩:=h;obtain⟨ad',rfl⟩:=afj.1 (h6 (by omega));refine bD.same (v:= .pointer (some (ad'.add (n.toNat*s')))) ?_ ?_ (by simpa[AV.aB] using hm)
   ·simp[execOp,ho,h3,h2,run_indexAt_slice ht hs _ _ _ _ _ qX IQ]
   refine⟨_,rfl,fun hl=> ?_⟩;rcases h7 hl with h8|⟨g,S,k1,k2,k3,k4⟩
   ·omega
   simp only[jl] at k2;subst k2;exact⟨g,k1,by rw[addr_add];simp[ad_]⟩
  simp at hy
 simp at hy
def YM (hr:bu K β env H a w) {o:Oper} {t:TypeId} {x i:Operand} {x' i':O} (ho:o.op= .index t x i)
  (ht:K.P.underlying t=some .string) (hx:co K.G x=some x') (hi:co K.G i=some i') {y:AV}
  (hy:aj (.vd x' i') env=some y):bD K β H a w o y:=by
 have h:=hr.ev hx;have h2:=hr.ev hi;simp only[aj] at hy;split at hy
 ·rename_i s k n e1 e2;rw[e1] at h;rw[e2] at h2;simp only[RV] at h h2;split at hy
  ·rename_i hn;split at hy
   ·rename_i c hc;simp only[jl] at hy;subst hy;have bO:n.toNat<s.length:=(ag6.1 hc).1;refine bD.same (v:= .int .u8 c.toNat) ?_ (by simp[RV]) (by simp[AV.aB]);have hc':(⟨s.toArray⟩:ByteArray)[n.toNat]?=some c:=by
     have e:s[n.toNat]=c:=(ag6.1 hc).2;have hs:n.toNat<(⟨s.toArray⟩:ByteArray).size:=(by show n.toNat<s.toArray.size;simpa using bO);rw[getElem?_pos (⟨s.toArray⟩:ByteArray) n.toNat hs];exact afb some e
    simp[execOp,ho,h,h2,Instr.index,asIntOf,run_underlying ht,hn,hc']
   simp at hy
  simp at hy
 simp at hy
def s8 (s:List UInt8):(⟨s.toArray⟩:ByteArray).size=s.length:=by show s.toArray.size=_;simp
def UP (hr:bu K β env H a w) {o:Oper} {c:Call} {x:Operand} {x':O} (ho:o.op= .call c) (hc:c.callee= .builtin .len) (ha:c.args.toList=[x])
  (ht:c.argTypes[0]?.bind K.P.underlying=some .string) (hx:co K.G x=some x') {y:AV} (hy:aj (.lens x') env=some y):bD K β H a w o y:=by
 have h:=hr.ev hx;obtain⟨t,GG,Dj⟩:=adx.1 ht;have Dk:c.args=#[x]:=by cases hh:c.args;simp_all
 simp only[aj] at hy;split at hy
 ·rename_i s hs;rw[hs] at h;simp only[RV,jl] at h hy;subst hy;refine bD.same (v:= .int .i64 s.length) ?_ (by simp[RV]) (by simp[AV.aB]);simp[execOp,ho,resolve,hc,Dk,h,invoke,builtin,Builtin.len_,GG,run_underlying Dj,goInt,s8]
 simp at hy
def YN (hr:bu K β env H a w) {o:Oper} {c:Call} {x:Operand} {x':O} {e:TypeId} (ho:o.op= .call c) (hc:c.callee= .builtin .len) (ha:c.args.toList=[x])
  (ht:c.argTypes[0]?.bind K.P.underlying=some (.slice e)) (hx:co K.G x=some x') {y:AV} (hy:aj (.len x') env=some y):bD K β H a w o y:=by
 have h:=hr.ev hx;obtain⟨t,GG,Dj⟩:=adx.1 ht;have Dk:c.args=#[x]:=by cases hh:c.args;simp_all
 have sl:∀(ad:Option Addr) (n c':Nat),a.eval x= .slice ad n c'→(execOp a.eval o).run K.P w= .ok (.value (.int .i64 n)) w:=by
  intro ad n c' hv;simp[execOp,ho,resolve,hc,Dk,hv,invoke,builtin,Builtin.len_,GG,run_underlying Dj,goInt]
 simp only[aj] at hy;split at hy
 ·rename_i xs hs;rw[hs] at h;simp only[RV,kP,jl] at h hy;subst hy;obtain⟨ad,c',h3,h4⟩:=h;exact bD.same (sl _ _ _ h3) (by simp[RV]) (by simp[AV.aB])
 ·rename_i hs;rw[hs] at h;simp only[RV,jl] at h hy;subst hy;obtain⟨ad,h3⟩:=h;exact bD.same (sl _ _ _ h3) (by simp[RV]) (by simp[AV.aB])
 ·rename_i l sz i n hs;rw[hs] at h;simp only[RV,jl] at h hy;subst hy;obtain⟨ad,c',h3,h4⟩:=h;exact bD.same (sl _ _ _ h3) (by simp[RV]) (by simp[AV.aB])
 ·rename_i l sz i n c hs;rw[hs] at h;simp only[RV,jl] at h hy;subst hy;obtain⟨ad,h3,h4⟩:=h;exact bD.same (sl _ _ _ h3) (by simp[RV]) (by simp[AV.aB])
 simp at hy
def zd (op:BinOp) (t:TypeId) (x y:Operand) (k k':IntKind) (m n:Int) {P:Program} {w:World}:(eqGuard op t x y (.int k m) (.int k' n)).run P w= .ok () w:=by
 cases op<;>simp[eqGuard]
def ze (op:BinOp) (t:TypeId) (x y:Operand) (m n:ByteArray) {P:Program} {w:World}:(eqGuard op t x y (.string m) (.string n)).run P w= .ok () w:=by
 cases op<;>simp[eqGuard]
def Ty (hr:bu K β env H a w) {o:Oper} {op:BinOp} {t t2:TypeId} {x y:Operand} {x' y':O} (ho:o.op= .binOp op t x y t2)
  (hx:co K.G x=some x') (hy:co K.G y=some y') {z:AV} (hz:aj (.bin op x' y') env=some z):bD K β H a w o z:=by
 have h:=hr.ev hx;have h2:=hr.ev hy;simp only[aj,ja] at hz;split at hz
 ·rename_i k m k' n e1 e2;rw[e1] at h;rw[e2] at h2;simp only[RV] at h h2;split at hz
  ·rename_i hk;subst hk;have key:∀v,(binOp op t (.int k m) (.int k n)).run K.P w= .ok v w→RV w β H (Im K β H) z v→z.aB=[]→bD K β H a w o z:=by
    intro v hv Tz hl;refine bD.same (v:=v) ?_ Tz (by simp[hl]);simp[execOp,ho,h,h2,zd,hv]
   cases op<;>simp only[jl,reduceCtorEq] at hz
   case quo=>
    split at hz
    ·simp at hz
    rename_i hn;simp only[jl] at hz;subst hz;exact key (.int k (k.wrap (m.tdiv n))) (by simp[binOp,Op.intDiv,hn]) (by simp[RV]) (by simp[AV.aB])
   case rem=>
    split at hz
    ·simp at hz
    rename_i hn;simp only[jl] at hz;subst hz;exact key (.int k (m.tmod n)) (by simp[binOp,Op.intDiv,hn]) (by simp[RV]) (by simp[AV.aB])
   case shr=>
    split at hz
    ·rename_i hn;simp only[jl] at hz;subst hz;exact key (.int k (m/2^min n.toNat k.bits)) (by rw[binOp_shr,shift_shr_any k k m n hn];rfl) (by simp[RV]) (by simp[AV.aB])
    simp at hz
   all_goals (subst hz;refine key _ (by simp[binOp,Op.intArith,Op.intCmp];rfl) (by simp[RV]) (by simp[AV.aB]))
  simp at hz
 ·rename_i s u e1 e2;rw[e1] at h;rw[e2] at h2;simp only[RV] at h h2;have key:∀v,(binOp op t (.string ⟨s.toArray⟩) (.string ⟨u.toArray⟩)).run K.P w= .ok v w→RV w β H (Im K β H) z v→z.aB=[]→bD K β H a w o z:=by
   intro v hv Tz hl;refine bD.same (v:=v) ?_ Tz (by simp[hl]);simp[execOp,ho,h,h2,ze,hv]
  cases op<;>simp only[jl,reduceCtorEq] at hz
  case add=>
   split at hz
   ·rename_i hn;simp only[jl] at hz;subst hz;refine key (.string ⟨(s++u).toArray⟩) ?_ (by simp[RV]) (by simp[AV.aB]);have h1:¬((((⟨s.toArray⟩:ByteArray).size+(⟨u.toArray⟩:ByteArray).size:Nat):Int)>IntKind.i64.max):=by
     rw[s8,s8];simp only[IntKind.max,IntKind.signed,IntKind.bits];simp;omega
    have h3:(⟨s.toArray⟩:ByteArray)++⟨u.toArray⟩=⟨(s++u).toArray⟩:=by
     apply agT;show((⟨s.toArray⟩:ByteArray)++⟨u.toArray⟩).data=(s++u).toArray;simp[ByteArray.data_append]
    simp only[binOp,Op.stringOp,h1,adS,h3,Sem.run_pure]
   simp at hz
  all_goals (subst hz;refine key _ (by simp[binOp,Op.stringOp,ByteArray.toList_mk];rfl) (by simp[RV]) (by simp[AV.aB]))
 simp at hz
end
end Go.Am
