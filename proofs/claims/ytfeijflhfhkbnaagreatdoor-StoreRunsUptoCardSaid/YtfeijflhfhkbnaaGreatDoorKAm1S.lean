import Derived.WalkKit
set_option linter.all false
/- THE ABSTRACT MACHINE, part 1: abstract values, labelled rows, and what they say of a world. -/
namespace Go.Am
open Go Go.RowKit
theorem eD:type_of% @List.length_map:=@List.length_map
theorem acF:type_of% @Option.map_eq_some_iff:=@Option.map_eq_some_iff
theorem afX:type_of% @Option.bind_eq_some_iff:=@Option.bind_eq_some_iff
theorem afY:type_of% @List.getElem?_eq_some_iff:=@List.getElem?_eq_some_iff
theorem afZ:type_of% @Option.some.injEq:=@Option.some.injEq
theorem af0:type_of% @Int.toNat_natCast:=@Int.toNat_natCast
def af1:=@Bool.not_false
def af2:=@List.take_of_length_le
theorem af3:type_of% @List.mem_of_getElem?:=@List.mem_of_getElem?
def af4:=@Bool.not_true
def af5:=@Int.natCast_nonneg
def af6:=@Nat.le_refl
def af7:=@List.getElem?_eq_getElem
def af8:=@if_neg
theorem af9:type_of% @Option.map_some:=@Option.map_some
theorem af':type_of% @List.mem_singleton:=@List.mem_singleton
theorem af_:type_of% @Option.bind_some:=@Option.bind_some
theorem aga:type_of% @List.mem_cons:=@List.mem_cons
def agb:=@List.append_nil
def agc:=@if_pos
theorem agd:type_of% @List.length_cons:=@List.length_cons
def age:=@List.length_append
def agf:=@List.not_mem_nil
def agh:=@Nat.zero_add
theorem agi:type_of% @List.mem_append:=@List.mem_append
def agj:=@List.drop_zero
def agk:=@if_false
def agl:=@Bool.false_eq_true
def agm:=@Bool.and_eq_true
def agn:=@if_true
def ago:=@List.getElem?_map
theorem agp:type_of% @List.mem_map:=@List.mem_map
theorem agq:type_of% @Prod.mk.injEq:=@Prod.mk.injEq
def agr:=@List.getElem?_append_right
def ags:=@Array.getD_eq_getD_getElem?
def agt:=@true_and
def agu:=@List.take_length
def agv:=@decide_eq_true_eq
def agw:=@List.length_mapIdx
def agx:=@List.length_nil
def agy:=@Nat.mul_le_mul_right
theorem agz:type_of% @List.take_add_one:=@List.take_add_one
def agA:=@List.length_take
def agB:=@List.getElem?_append_left
def agC:=@List.map_cons
theorem agD:type_of% @List.take_append_drop:=@List.take_append_drop
def agE:=@List.getElem?_of_mem
def agF:=@List.getElem?_cons_zero
theorem agG:type_of% @List.getElem?_take:=@List.getElem?_take
def agH:=@List.mem_of_mem_take
def agI:=@or_false
theorem agJ:type_of% @List.all_eq_true:=@List.all_eq_true
def agK:=@List.getElem?_eq_none
theorem agL:type_of% @List.length_eq_zero_iff:=@List.length_eq_zero_iff
theorem agM:type_of% @List.append_assoc:=@List.append_assoc
def agN:=@List.isPrefixOf_iff_prefix
def agO:=@Nat.zero_le
def agP:=@Bool.eq_iff_iff
def agQ:=@Ne.symm
def agR:=@and_self
def agS:=@Array.getElem?_eq_some_iff
theorem agT:type_of% @Nat.add_assoc:=@Nat.add_assoc
def agU:=@List.eq_nil_of_length_eq_zero
def agV:=@List.ext_getElem?
def agW:=@List.getD_eq_getElem?_getD
theorem agX:type_of% @List.map_congr_left:=@List.map_congr_left
def agY:=@List.cons.injEq
def agZ:=@beq_eq_false_iff_ne
theorem ag0:type_of% @Nat.add_mul:=@Nat.add_mul
def ag1:=@List.drop_eq_getElem_cons
def ag2:=@List.map_append
def ag3:=@decide_true
def ag4:=@decide_false
def ag5:=@Array.getElem?_eq_getElem
def ag6:=@List.map_nil
def ag7:=@Bool.true_and
theorem ag8:type_of% @List.dropWhile_suffix:=@List.dropWhile_suffix
def ag9:=@beq_iff_eq
def ag':=@Nat.le_trans
def ag_:=@List.drop_succ_cons
def aha:=@Bool.false_and
def ahb:=@List.getElem?_mapIdx
def ahc:=@Nat.sub_self
theorem ahd:type_of% @List.filter_append:=@List.filter_append
def ahe:=@List.length_drop
def ahf:=@List.mem_of_mem_drop
def ahg:=@List.getElem?_set_ne
def ahh:=@Classical.byContradiction
def ahi:=@Nat.lt_of_lt_of_le
def ahj:=@List.getElem?_set_self
def ahk:=@List.eq_of_mem_replicate
def ahl:=@List.length_singleton
theorem ahm:type_of% @List.takeWhile_append_dropWhile:=@List.takeWhile_append_dropWhile
def ahn:=@decide_eq_false_iff_not
def aho:=@List.getElem?_cons_succ
def ahp:=@congrArg
def ahq:=@List.mem_or_eq_of_mem_set
def ahr:=@List.set_append_right
def ahs:=@Nat.add_zero
def aht:=@Bool.and_false
def ahu:=@Bool.or_eq_true
def ahv:=@List.getElem?_drop
def ahw:=@Nat.le_mul_of_pos_right
def ahx:=@Int.eq_ofNat_of_zero_le
def ahy:=@Option.getD_some
def ahz:=@List.filter_eq_nil_iff
def ahA:=@List.take_succ_cons
theorem ahB:type_of% @List.mem_filter:=@List.mem_filter
def ahC:=@Decidable.byContradiction
def ahD:=@Array.getElem?_toList
def ahE:=@List.singleton_append
def ahF:=@List.drop_append_of_le_length
def ahG:=@Option.isSome_none
theorem ahH:type_of% @List.map_take:=@List.map_take
def ahI:=@Array.getElem?_setIfInBounds
theorem ahJ:type_of% @List.drop_drop:=@List.drop_drop
def ahK:=@Nat.min_eq_left
theorem ahL:type_of% @List.length_pos_iff:=@List.length_pos_iff
def ahM:=@Nat.zero_mul
def ahN:=@List.drop_of_length_le
def ahO:=@List.isSuffixOf_iff_suffix
theorem ahP:type_of% @List.filter_cons:=@List.filter_cons
def ahQ:=@decide_eq_true
def ahR:=@Option.toList_some
def ahS:=@Option.isSome_iff_exists
def ahT:=@List.contains_eq_mem
def ahU:=@List.pairwise_append
def ahV:=@decide_eq_false
def ahW:=@List.getElem?_replicate
theorem ahX:type_of% @List.dropWhile_cons:=@List.dropWhile_cons
def ahY:=@List.getElem_mem
def ahZ:=@List.mem_range
def ah0:=@List.append_eq_nil_iff
def ah1:=@ge_iff_le
theorem ah2:type_of% @List.foldl_cons:=@List.foldl_cons
def ah3:=@List.nodup_cons
def ah4:=@Option.some.inj
def ah5:=@List.take_left'
def ah6:=@Bool.or_false
def ah7:=@List.flatMap_cons
def ah8:=@List.getElem?_set
def ah9:=@List.mem_cons_of_mem
def ah':=@Bool.or_eq_false_iff
def ah_:=@List.findIdx?_eq_some_iff_getElem
def aia:=@Array.getElem?_replicate
def aib:=@Option.bind_none
def aic:=@List.drop_length
def aid:=@beq_self_eq_true
def aie:=@Array.length_toList
def aif:=@List.takeWhile_cons
def aih:=@Bool.false_or
theorem aii:type_of% @List.head?_drop:=@List.head?_drop
def aij:=@List.eq_nil_iff_forall_not_mem
def aik:=@List.pairwise_cons
def ail:=@List.filter_nil
def aim:=@UInt8.toNat_inj
def ain:=@List.drop_left'
def aio:=@List.drop_eq_nil_of_le
def aip:=@List.take_append_of_le_length
def aiq:=@Bool.not_eq_true'
def air:=@of_decide_eq_true
def ais:=@Nat.mul_comm
def ait:=@Nat.sub_zero
def aiu:=@List.length_filter_le
def aiv:=@List.dropLast_concat_getLast
def aiw:=@UInt8.le_iff_toNat_le
def aix:=@Array.mem_toList_iff
def aiy:=@decide_eq_decide
def aiz:=@Bool.and_true
def aiA:=@List.mem_map_of_mem
def aiB:=@List.getElem?_eq_none_iff
def aiC:=@List.findIdx?_eq_none_iff
def aiD:=@Nat.le_of_eq
def aiE:=@List.map_map
def aiF:=@gt_iff_lt
def aiG:=@List.size_toArray
def aiH:=@not_false_eq_true
def aiI:=@List.foldl_append
def aiJ:=@List.drop_nil
def aiK:=@List.map_drop
def aiL:=@Array.all_eq_true_iff_forall_mem
def aiM:=@List.all_reverse
def aiN:=@List.length_replicate
def aiO:=@Bool.and_eq_false_iff
def aiP:=@ite_false
def aiQ:=@List.eq_nil_or_concat
def aiR:=@Nat.div_lt_of_lt_mul
def aiS:=@List.mem_append_left
def aiT:=@List.map_set
def aiU:=@List.length_set
def aiV:=@Bool.or_true
def aiW:=@List.count_le_length
def aiX:=@Option.bind_eq_bind
def aiY:=@List.flatMap_append
def aiZ:=@List.replicate_succ
def ai0:=@List.take_zero
def ai1:=@Nat.one_mul
def ai2:=@Option.isSome_some
def ai3:=@of_decide_eq_false
def ai4:=@List.set_cons_zero
def ai5:=@List.filter_filter
def ai6:=@Array.getElem?_append_left
def ai7:=@Nat.eq_of_mul_eq_mul_right
def ai8:=@Bool.and_self
def ai9:=@List.all_cons
def ai':=@Nat.mul_assoc
def ai_:=@Bool.eq_false_iff
def aja:=@List.filter_congr
def ajb:=@List.getElem?_zip_eq_some
def ajc:=@List.mem_of_find?_eq_some
def ajd:=@List.append_eq_append_iff
def aje:=@Array.toList_map
def ajf:=@Nat.add_comm
def ajg:=@and_true
def ajh:=@List.foldlM_cons
def aji:=@List.flatMap_nil
def ajj:=@List.range'_succ
def ajk:=@Bool.true_or
def ajl:=@ite_true
def ajm:=@Option.map_none
def ajn:=@exists_eq_left'
def ajo:=@ByteArray.data_extract
def ajp:=@Nat.mul_one
def ajq:=@List.getElem?_toArray
def ajr:=@List.mem_append_right
def ajs:=@Classical.choose_spec
def ajt:=@List.foldl_nil
def aju:=@Nat.mul_le_mul
def ajv:=@bne_iff_ne
def ajw:=@Nat.add_le_add_right
def ajx:=@List.mem_of_getLast?
def ajy:=@List.length_reverse
def ajz:=@List.filter_eq_self
def ajA:=@List.replicate_zero
def ajB:=@List.IsSuffix.trans
def ajC:=@Nat.add_sub_cancel
def ajD:=@Nat.lt_or_ge
def ajE:=@Nat.pow_succ
def ajF:=@List.find?_eq_none
def ajG:=@List.mapIdx_append
def ajH:=@List.flatMap_assoc
def ajI:=@dif_pos
def ajJ:=@List.map_id
def ajK {p:Prop} (h:p:=by omega):p:=h
def ajL {p:Prop} (h:p:=by simp):p:=h
def ajM {p:Prop} (h:p:=by simp only;omega):p:=h
def ajN {p:Prop} (h:p:=by decide):p:=h
def ajO {p:Prop} (h:p:=by simp[ai,AV.aq]):p:=h
def ajP {p:Prop} (h:p:=by simp[AV.aq]):p:=h
def ajR {p:Prop} (h:p:=by simp[ae]):p:=h
def ajS {p:Prop} (h:p:=by simp[aD]):p:=h
def ajT {p:Prop} (h:p:=by repeat' constructor):p:=h
def ajU {p:Prop} (h:p:=by simp[AV.aq,ai]):p:=h
def ajV {p:Prop} (h:p:=by grind):p:=h
def ajW {p:Prop} (h:p:=by rw[wrap64 (by omega) (by omega)];omega):p:=h
def ajX {p:Prop} (h:p:=by simp[ae,Hp.none]):p:=h
def ajY {p:Prop} (h:p:=by simp;omega):p:=h
def ajZ {p:Prop} (h:p:=by unfold B at hx;omega):p:=h
def aj0 {p:Prop} (h:p:=by simp[IV.cells]):p:=h
def aj1 {p:Prop} (h:p:=by simp[aA,aH,iP]):p:=h
def aj2 {p:Prop} (h:p:=by simp[ai,AV.aq,cx]):p:=h
def aj3 {p:Prop} (h:p:=by simp[Lb.app,Lb.fresh]):p:=h
def aj4 {p:Prop} (h:p:=by simp only[↓aX,mX,seval]):p:=h
def aj5 {p:Prop} (h:p:=by simp[NC]):p:=h
def aj6 {p:Prop} (h:p:=by simpa using h):p:=h
def aj7 {p:Prop} (h:p:=by decide +kernel):p:=h
def aj8 {p:Prop} (h:p:=by simpa using h1):p:=h
def aj9 {p:Prop} (h:p:=by rintro rfl;simp[fl,Lb.entry] at he):p:=h
def aj' {p:Prop} (h:p:=by rintro l (rfl|rfl);exact .inl rfl;exact .inr rfl):p:=h
def aj_ {p:Prop} (h:p:=by simp[ai,AV.aq,aW,Op.av];omega):p:=h
def aka {p:Prop} (h:p:=by simp[ai,AV.aq,Doc.av]):p:=h
def akb {p:Prop} (h:p:=by simp[ai,AV.aq,Tree.av]):p:=h
def akc {p:Prop} (h:p:=by rintro l (rfl|rfl)<;>simp[Lb.ix]):p:=h
def akd {p:Prop} (h:p:=by rintro rfl;simp[Lb.entry] at he):p:=h
def ake {p:Prop} (h:p:=by simp[RV]):p:=h
def akf {p:Prop} (h:p:=by intro p' _;simp[bf];split<;>simp):p:=h
def akg {p:Prop} (h:p:=by simp[fw,AV.aq,ai]):p:=h
def akh {p:Prop} (h:p:=by unfold B;omega):p:=h
def aki {p:Prop} (h:p:=by simp at h;omega):p:=h
def akj {p:Prop} (h:p:=by intro p';simp[bf];split<;>simp):p:=h
def akk {p:Prop} (h:p:=by simpa using he):p:=h
def akl {p:Prop} (h:p:=by simp[ae,cx,eJ]):p:=h
def akm {p:Prop} (h:p:=by simp only[List.length_append,List.length_singleton];omega):p:=h
def akn {p:Prop} (h:p:=by intro y hy;simp only[agp] at hy;obtain⟨w',_,rfl⟩:=hy;rfl):p:=h
def ako {p:Prop} (h:p:=by rw[qg];rfl):p:=h
def akq {p:Prop} (h:p:=by simp[lc]):p:=h
def akr {p:Prop} (h:p:=by rw[wrap64 (by omega) (by unfold B at hx;omega)];omega):p:=h
def aks {p:Prop} (h:p:=by simp[bu];omega):p:=h
def akt {p:Prop} (h:p:=by simp[ae,j8]):p:=h
def aku {p:Prop} (h:p:=by simp[Lb.app,Lb.fresh,ae,KQ]):p:=h
def akv {p:Prop} (h:p:=by simp only[afZ,Node.mk.injEq] at e1;exact e1.2.2.2.2):p:=h
def akw {p:Prop} (h:p:=by simp[put,e3]):p:=h
def akx {p:Prop} (h:p:=by simp only[wq,It.sz,AC.sz] at hn ⊢;omega):p:=h
def aky {p:Prop} (h:p:=by simp only[wq,It.sz,AC.sz] at hn;omega):p:=h
def akz {p:Prop} (h:p:=by intro l' e;simp[NC] at e;exact hc e.2):p:=h
def akA {p:Prop} (h:p:=by intro y hy;simp only[List.mem_map] at hy;obtain⟨w',_,rfl⟩:=hy;rfl):p:=h
def akB {p:Prop} (h:p:=by rw[h.n0];omega):p:=h
def akC {p:Prop} (h:p:=by have:=bA.len _ _ (mU _ _ Bu w β H (Im K β H));simp at this;omega):p:=h
def akD {p:Prop} (h:p:=by rw[ar];omega):p:=h
def akE {p:Prop} (h:p:=by rw[bb,af8 Bc,af8 Et,af8 (by rintro(h|h);exact absurd h (by simpa using Eu);rw[Sb] at h;cases h)]):p:=h
def akF {p:Prop} (h:p:=by cases b with|true=>exact absurd (Bg rfl) (by simp)|false=>rfl):p:=h
def akG {p:Prop} (h:p:=by intro z hz cs;simp only[IV.cells,aga,agf,agI] at hz;rcases hz with rfl|rfl|rfl|rfl|rfl<;>simp):p:=h
def akH {p:Prop} (h:p:=by rintro l (rfl|rfl)<;>simp[fl,Lb.ix,Lb.fresh]):p:=h
def akI {p:Prop} (h:p:=by simp[hz]):p:=h
def akJ {p:Prop} (h:p:=by simp[ay]):p:=h
def akK {p:Prop} (h:p:=by simp[NW]):p:=h
def akL {p:Prop} (h:p:=by simp[eQ,ae]):p:=h
def akM {p:Prop} (h:p:=by simp[ae,NW]):p:=h
def akN {p:Prop} (h:p:=by simpa using h2):p:=h
def akO {p:Prop} (h:p:=by simp[my,eQ,ae]):p:=h
def akP {p:Prop} (h:p:=by intro z hz cs;simp only[IV.cells,aga,agf,agI] at hz;rcases hz with rfl|rfl|rfl|rfl<;>simp):p:=h
def akQ {p:Prop} (h:p:=by rw[aE];omega):p:=h
def akR {p:Prop} (h:p:=by simp[put,e2]):p:=h
def akS {p:Prop} (h:p:=by simp[put,e6]):p:=h
def akT {p:Prop} (h:p:=by simp only[↓aX,mX,seval,bh]):p:=h
def akU {p:Prop} (h:p:=by simp[aD,Lb.fresh,Lb.entry]):p:=h
def akV {p:Prop} (h:p:=by simp[fl]):p:=h
def akW {p:Prop} (h:p:=by rw[aE,qo.length_eq];exact af6 _):p:=h
def akX {p:Prop} (h:p:=by rw[x6];rfl):p:=h
def akY {p:Prop} (h:p:=by rw[go]):p:=h
def akZ {p:Prop} (h:p:=by simp[maxLen]):p:=h
def ak0 {p:Prop} (h:p:=by simp[put]):p:=h
def ak1 {p:Prop} (h:p:=by simp only[nT,lH]):p:=h
def ak2 {p:Prop} (h:p:=by simp[aD,aK,ae,ll,Tree.mY,Tree.cs,Tree.text,Tree.s,Tree.attrs,Tree.kids,aQ,aM]):p:=h
def ak3 {p:Prop} (h:p:=by intro q g1 g2 g3;simp[ae,g1,g2,g3]):p:=h
def ak4 {p:Prop} (h:p:=by rw[ar]):p:=h
def ak5 {p:Prop} (h:p:=by simpa using hx):p:=h
def ak6 {p:Prop} (h:p:=by simpa using h3):p:=h
def ak7 {p:Prop} (h:p:=by simp[Lb.fresh]):p:=h
def ak8 {p:Prop} (h:p:=by simp[rk,eQ,ae]):p:=h
def ak9 {p:Prop} (h:p:=by simpa[AV.aq] using h):p:=h
def ak' {p:Prop} (h:p:=by rw[aE,qo.length_eq];omega):p:=h
def ak_ {p:Prop} (h:p:=by rintro rfl;simp[Lb.fresh] at hf):p:=h
def ala {p:Prop} (h:p:=by simp[bf];split<;>simp[Lb.fresh]):p:=h
def alb {p:Prop} (h:p:=by simp[ae,cx]):p:=h
def alc {p:Prop} (h:p:=by simp[hd]):p:=h
def ald {p:Prop} (h:p:=by rintro(h|h);exact absurd h (by simpa using Eu);rw[Sb] at h;cases h):p:=h
def ale {p:Prop} (h:p:=by simp[AV.aq,ai,Tree.av]):p:=h
def alf {p:Prop} (h:p:=by simpa using q1):p:=h
def alg {p:Prop} (h:p:=by simp[Lb.ix]):p:=h
def alh {p:Prop} (h:p:=by simp[ai,AV.aq,Op.av,Doc.av]):p:=h
def ali {p:Prop} (h:p:=by rw[agA];omega):p:=h
def alj {p:Prop} (h:p:=by simp at h1;omega):p:=h
def alk {p:Prop} (h:p:=by rw[x6,eJ];rfl):p:=h
def alm {p:Prop} (h:p:=by unfold B at hs;omega):p:=h
def aln {p:Prop} (h:p:=by simp only;rw[←f1];exact k1):p:=h
def alo {p:Prop} (h:p:=by simp only[kz,show(a6 91 w).1=[35] by simpa using Hj];rfl):p:=h
def alp {p:Prop} (h:p:=by simp[Builtin.lenOf]):p:=h
def alq {p:Prop} (h:p:=by simp[Flat,IV.cells]):p:=h
def alr {p:Prop} (h:p:=by exact lz (b:=b) (o:=o) h (by omega)):p:=h
def als {p:Prop} (h:p:=by exact lA (b:=b) (o:=o) h (by omega)):p:=h
def alu {p:Prop} (h:p:=by rw[Ne,iK];omega):p:=h
def alv {p:Prop} (h:p:=by simp only[kz,show(a6 91 w).1=[] by simpa using ov,ajl]):p:=h
def alw {p:Prop} (h:p:=by rw[ar];exact af6 _):p:=h
def alx {p:Prop} (h:p:=by simpa using hi):p:=h
def aly {p:Prop} (h:p:=by simpa using hn):p:=h
def alz {p:Prop} (h:p:=by simpa using qp):p:=h
def alA {p:Prop} (h:p:=by unfold B at hs ht;omega):p:=h
def alB {p:Prop} (h:p:=by simp only[gr,qY,Ap];rfl):p:=h
def alC {p:Prop} (h:p:=by unfold fY;rw[agc k1,hl]):p:=h
def alD {p:Prop} (h:p:=by intro l ⟨r,h⟩;simp[Hp.none] at h):p:=h
def alE {p:Prop} (h:p:=by simp[dV,IV.cells]):p:=h
def alF {p:Prop} (h:p:=by intro x hx;simp at hx;rcases hx with rfl|rfl<;>rfl):p:=h
def alG {p:Prop} (h:p:=by simp[ai,AV.aq,aW,Tree.av];omega):p:=h
def alH {p:Prop} (h:p:=by rintro rfl;simp[Lb.fresh] at hq):p:=h
def alI {p:Prop} (h:p:=by have:=x.dL;omega):p:=h
def alJ {p:Prop} (h:p:=by simp[gF,AV.cells,AV.Bq,AV.one]):p:=h
def alK {p:Prop} (h:p:=by simp[hy]):p:=h
def alL {p:Prop} (h:p:=by simp[ak]):p:=h
def alM {p:Prop} (h:p:=by simp[AV.aq,ai,Doc.av]):p:=h
def alN {p:Prop} (h:p:=by rw[rH];exact ko.oi (fun p1 p2 _ _ e=>lO NX e) _):p:=h
def alO {p:Prop} (h:p:=by rw[beq_eq_false_iff_ne];omega):p:=h
def alP {p:Prop} (h:p:=by rw[an _ _ (by simp)];exact oE):p:=h
def alQ {p:Prop} (h:p:=by rw[nq];omega):p:=h
def alR {p:Prop} (h:p:=by rintro(h|h);exact Eu h;rw[←pS,hp] at h;cases h):p:=h
def alS {p:Prop} (h:p:=by simp only[gr,qY];rfl):p:=h
def alT {p:Prop} (h:p:=by simp only[Lb.par.injEq] at e;subst e;exact fE):p:=h
def alU {p:Prop} (h:p:=by unfold X1;rw[w_];rfl):p:=h
def alV {p:Prop} (h:p:=by rw[LA];exact(Nat.min_eq_left (by omega)).symm):p:=h
def alW {p:Prop} (h:p:=by rw[jR];simp[fl]):p:=h
def alX {p:Prop} (h:p:=by simp[aA,aH,iP,de.av]):p:=h
def alY {p:Prop} (h:p:=by simp only[↓aX,mX,seval];simp):p:=h
def alZ {p:Prop} (h:p:=by have:=kP hx;have:=nZ x;omega):p:=h
def al0 {p:Prop} (h:p:=by first|rfl|exact hL9|exact yv):p:=h
def al1 {p:Prop} (h:p:=by rw[rH];exact ko.oi (fun p1 p2 _ _ e=>oo e) _):p:=h
def al2 {p:Prop} (h:p:=by intro y hy;simp only[af'] at hy;subst hy;rfl):p:=h
def al3 {p:Prop} (h:p:=by rw[pf];exact hr _ (fQ (bg.1 hl)) cs aZ q hq):p:=h
def al4 {p:Prop} (h:p:=by rw[ha];simp):p:=h
def al5 {p:Prop} (h:p:=by simp[ae,yv]):p:=h
def al6 {p:Prop} (h:p:=by have:=hl s hs;omega):p:=h
def al7 {p:Prop} (h:p:=by simpa using hb):p:=h
def al8 {p:Prop} (h:p:=by simp[Instr.findNow,Instr.sameNow,h1,e1,g2]):p:=h
def al9 {p:Prop} (h:p:=by intro p' e;subst e;simp[lc,Lb.entry] at he):p:=h
def al' {p:Prop} (h:p:=by simpa using hf.one):p:=h
def al_ {p:Prop} (h:p:=by unfold push;rw[x.gL,ht,x.BJ,hs,zF,Fk];rfl):p:=h
def ama {p:Prop} (h:p:=by simp at h9 ⊢;omega):p:=h
def amb {p:Prop} (h:p:=by rw[h0];exact wrap64 (by omega) (by omega)):p:=h
def amc {p:Prop} (h:p:=by rw[hf];exact wrap64 (by omega) (by omega)):p:=h
def amd {p:Prop} (h:p:=by rw[agj];exact af2 (by rw[aE];exact af6 _)):p:=h
def ame {p:Prop} (h:p:=by simp[hl]):p:=h
def amf {p:Prop} (h:p:=by simp[cU,qc,eQ,aS,Hp.none]):p:=h
def amg {p:Prop} (h:p:=by unfold Bn.ins;split<;>rfl):p:=h
def amh {p:Prop} (h:p:=by rw[eJ];rfl):p:=h
def ami {p:Prop} (h:p:=by simp[eZ,eY,qF,fw]):p:=h
def amj {p:Prop} (h:p:=by simp[ai,AV.aq,jz]):p:=h
def amk {p:Prop} (h:p:=by simp[Lb.app,Lb.fresh,KQ]):p:=h
def aml {p:Prop} (h:p:=by unfold dC;rw[h6,h5];simp):p:=h
def amm {p:Prop} (h:p:=by cases p<;>cases q<;>cases r<;>simp_all):p:=h
def amn {p:Prop} (h:p:=by simp only[maxLen];omega):p:=h
def amo {p:Prop} (h:p:=by rw[cn wE,ed];simp[aM,Tree.mY,Tree.cs]):p:=h
def amp {p:Prop} (h:p:=by rw[h1,h2,h3];rfl):p:=h
def amq {p:Prop} (h:p:=by simp[ae,ai,AV.aq,e1,e2]):p:=h
def amr {p:Prop} (h:p:=by simp[AV.aq];intro l hl;exact .inl hl):p:=h
def ams {p:Prop} (h:p:=by simp[AV.aq];intro l hl;exact .inr hl):p:=h
def amt {p:Prop} (h:p:=by rw[ag1 aF];congr 1;exact(afY.1 hs).2):p:=h
def amu {p:Prop} (h:p:=by rw[eD,zd];omega):p:=h
def amv {p:Prop} (h:p:=by simp[ae,fl];rfl):p:=h
def amw {p:Prop} (h:p:=by rw[adp,List.filter_append];simp[hg]):p:=h
def amx {p:Prop} (h:p:=by simpa[AV.aq] using hm):p:=h
def amy {p:Prop} (h:p:=by simp[hi]):p:=h
def amz {p:Prop} (h:p:=by simpa[AV.aq] using hl):p:=h
def amA {p:Prop} (h:p:=by rw[bb,af8 Bc,af8 Et,agc (.inr Sb)]):p:=h
def amB {p:Prop} (h:p:=by simp[HO]):p:=h
def amC {p:Prop} (h:p:=by split at hlen<;>omega):p:=h
def amD {p:Prop} (h:p:=by simp[bf];intro _ p' _;split<;>simp):p:=h
def amE {p:Prop} (h:p:=by rintro rfl;simp[NW,Lb.fresh] at hf):p:=h
def amF {p:Prop} (h:p:=by simpa using hk):p:=h
def amG {p:Prop} (h:p:=by simp[ai];intro l hl;exact .inl hl):p:=h
def amH {p:Prop} (h:p:=by simp[ai];intro l hl;exact .inr hl):p:=h
def amI {p:Prop} (h:p:=by simpa using k1):p:=h
def amJ {p:Prop} (h:p:=by simpa using hj):p:=h
def amK {p:Prop} (h:p:=by simpa[Function.comp_def] using h1):p:=h
def amL {p:Prop} (h:p:=by simpa using e1):p:=h
def amM {p:Prop} (h:p:=by simpa using k4):p:=h
def amN {p:Prop} (h:p:=by rw[pf];exact h.nf l (Lb.lC hf) hu):p:=h
def amO {p:Prop} (h:p:=by simpa using Eu):p:=h
def amP {p:Prop} (h:p:=by simp only[gr,Ap];cases qX w<;>rfl):p:=h
def amQ {p:Prop} (h:p:=by intro p';simp[bf,NC];split<;>simp):p:=h
def amR {p:Prop} (h:p:=by simpa using h4):p:=h
def amS {p:Prop} (h:p:=by simp[ae,j8,cx]):p:=h
def amT {p:Prop} (h:p:=by assumption):p:=h
def amU {p:Prop} (h:p:=by simp[aD,aP,aA,aH,ae]):p:=h
def amV {p:Prop} (h:p:=by simp[ai,AV.aq,Op.av]):p:=h
def amW {p:Prop} (h:p:=by simp[aA,aH,As,Op.av]):p:=h
def amX {p:Prop} (h:p:=by have:=growslice_fits xw hb;omega):p:=h
def amY {p:Prop} (h:p:=by rintro rfl;rw[g1] at g3;cases g3):p:=h
def amZ {p:Prop} (h:p:=by simp[Lb.app,Lb.fresh,ae,Hp.none]):p:=h
def am0 {p:Prop} (h:p:=by simp only[List.length_nil];omega):p:=h
def am1 {p:Prop} (h:p:=by rw[Tree.jI,h6,h5];simp[ar];omega):p:=h
def am2 {p:Prop} (h:p:=by rintro rfl;simp[Lb.fresh] at hl):p:=h
def am3 {p:Prop} (h:p:=by simp only[↓aX,mX,seval];try rfl):p:=h
def am4 {p:Prop} (h:p:=by rw[h1,h2];rfl):p:=h
def am5 {p:Prop} (h:p:=by rintro⟨p,h1,h2⟩;exact h p h1 h2):p:=h
def am6 {p:Prop} (h:p:=by rw[VP] at h;cases h):p:=h
def am7 {p:Prop} (h:p:=by simp[cU,oQ,eQ,ae,h2,h3,Hp.none]):p:=h
def am8 {p:Prop} (h:p:=by rw[mf,List.length_replicate,bw]):p:=h
def am9 {p:Prop} (h:p:=by rw[ar,List.length_append];omega):p:=h
def am' {p:Prop} (h:p:=by unfold N0;rw[if_pos (by omega)]):p:=h
def am_ {p:Prop} (h:p:=by simp[isAgg,run_underlying hfs]):p:=h
def ana {p:Prop} (h:p:=by rw[bw,hn]):p:=h
def anb {p:Prop} (h:p:=by simp[execOp,ho,h1]):p:=h
def anc {p:Prop} (h:p:=by simp at hlen;omega):p:=h
def ane {p:Prop} (h:p:=by cases t<;>simp_all):p:=h
def ang {p:Prop} (h:p:=by rw[aE];exact af6 _):p:=h
def anh {p:Prop} (h:p:=by rw[x.Fe];rfl):p:=h
def ani {p:Prop} (h:p:=by simp[bu,agT]):p:=h
def anj {p:Prop} (h:p:=by simp[Bn.set]):p:=h
def ank {p:Prop} (h:p:=by rw[aE,aE,Gi]):p:=h
def anl {p:Prop} (h:p:=by rw[j9];omega):p:=h
def anm {p:Prop} (h:p:=by rw[jR];exact gl _ (by decide)):p:=h
def ann {p:Prop} (h:p:=by rw[Tree.jI,h6];simp[ar];omega):p:=h
def ano {p:Prop} (h:p:=by rw[(iC r2 y env).1];exact h1):p:=h
def anp {p:Prop} (h:p:=by have:=kP hk;have:=nZ x;omega):p:=h
def anq {p:Prop} (h:p:=by have:=kP hx;omega):p:=h
def anr {p:Prop} (h:p:=by have:=kP hx;have:=PT x;omega):p:=h
def ans {p:Prop} (h:p:=by simp[cU,oQ,eQ,ae]):p:=h
def ant {p:Prop} (h:p:=by rw[hk];cases y.text<;>decide):p:=h
def anu {p:Prop} (h:p:=by simp only[ae,if_true];rw[sZ]):p:=h
def anv {p:Prop} (h:p:=by simp[hq]):p:=h
def anw {p:Prop} (h:p:=by simp[gB]):p:=h
def anx {p:Prop} (h:p:=by simp[bH]):p:=h
def anz {p:Prop} (h:p:=by simp[ar]):p:=h
def anA {p:Prop} (h:p:=by simp; omega):p:=h
def anB {p:Prop} (h:p:=by rw[e,zp] at nE;cases nE;rfl):p:=h
def anC {p:Prop} (h:p:=by rw[aE];unfold B at hx;omega):p:=h
def anD {p:Prop} (h:p:=by rw[eD];unfold B at hx;omega):p:=h
def anE {p:Prop} (h:p:=by simp[bf,h1]):p:=h
def anF {p:Prop} (h:p:=by simp[ae,ht]):p:=h
def anG {p:Prop} (h:p:=by rw[ar];simp only[ahl];omega):p:=h
def anH {p:Prop} (h:p:=by simpa using hlen):p:=h
def anI {p:Prop} (h:p:=by rw[kn,h1,h2];rfl):p:=h
def anJ {p:Prop} (h:p:=by rw[ek,agA];omega):p:=h
def anK {p:Prop} (h:p:=by rw[lV,if_pos ql]):p:=h
def anL {p:Prop} (h:p:=by rw[lV,if_neg ql]):p:=h
def anM {p:Prop} (h:p:=by simp[h]):p:=h
def anN {p:Prop} (h:p:=by rw[h1];rfl):p:=h
def anO {p:Prop} (h:p:=by simpa using hm):p:=h
def anP {p:Prop} (h:p:=by simpa using g3):p:=h
def anQ {p:Prop} (h:p:=by simpa using hz):p:=h
def anR {p:Prop} (h:p:=by simpa using JR):p:=h
def anS {p:Prop} (h:p:=by simpa using hd):p:=h
def anT {p:Prop} (h:p:=by simpa using hy):p:=h
def anU {p:Prop} (h:p:=by simpa using hs):p:=h
def anV {p:Prop} (h:p:=by simpa using R0):p:=h
def anW {p:Prop} (h:p:=by simp[aA,aH,As]):p:=h
def anX {p:Prop} (h:p:=by simpa using h7):p:=h
def anY {p:Prop} (h:p:=by rw[ago,hx];rfl):p:=h
def anZ {p:Prop} (h:p:=by rw[bw,ar]):p:=h
def an0 {p:Prop} (h:p:=by simp[Hp.none]):p:=h
def an1 {p:Prop} (h:p:=by split<;>omega):p:=h
def an2 {p:Prop} (h:p:=by rw[ht,hd];rfl):p:=h
def an3 {p:Prop} (h:p:=by simp[e1]):p:=h
def an4 {p:Prop} (h:p:=by simp[j8]):p:=h
def an5 {p:Prop} (h:p:=by simp[hx]):p:=h
def an6 {p:Prop} (h:p:=by simp[wk]):p:=h
def an7 {p:Prop} (h:p:=by simp[eP];rfl):p:=h
def an8 {p:Prop} (h:p:=by rw[DV];omega):p:=h
def an9 {p:Prop} (h:p:=by rw[Eh];omega):p:=h
def an' {p:Prop} (h:p:=by simp[Lj,put]):p:=h
def an_ {p:Prop} (h:p:=by simp[e]):p:=h
def aaa {p:Prop} (h:p:=by
 rename_i Bc;simp only[afX,acF,agq] at hb;obtain⟨m',h0,h',h1,l',h2,rfl,rfl,rfl⟩:=hb;rcases lf hr NK h0 with⟨rfl,h9,rfl⟩|⟨x1,k1,v1,rfl,_,e1,e2,e3,rfl⟩
 ·simp at h9
 rcases lf hr NL h1 with⟨rfl,rfl,rfl⟩|⟨x2,k2,v2,rfl,_,f1,f2,f3,rfl⟩
 ·simp at Bc
 have q1:v1.toNat<=c:=ajK
 rcases lf hr JC h2 with⟨rfl,rfl,rfl⟩|⟨x3,k3,v3,rfl,_,g1,g2,g3,rfl⟩
 ·exact⟨by simp[Instr.sliceBounds,e1,f1,run_sliceBound _ e2 q1,run_sliceBound _ f2 f3],ajK,ajK,f3,q1⟩
 exact⟨by simp[Instr.sliceBounds,e1,f1,g1,run_sliceBound _ e2 q1,run_sliceBound _ f2 f3,run_sliceBound _ g2 g3],g3,ajK,f3,q1⟩):p:=h
def aab {p:Prop} (h:p:=by
 intro i' j cs y hi hj;rw[agG] at hi;split at hi
 ·rename_i aF;rw[ahv] at hi;obtain⟨v,q1,q2⟩:=k5 _ j cs y hi hj;have ZU:j<r.sz:=by
   have:=(hr.rows l r hl).2.1 cs (af3 hi);have:=(afY.1 hj).1;omega
  refine⟨v,?_,q2⟩;have iw:i'*r.sz+j<n*r.sz:=by
   have:=agy r.sz (show i'+1<=n by omega);rw[ag0] at this;omega
  rw[agG,agc iw,ahv,ahD,<-q1];congr 1;rw[ag0];omega
 simp at hi):p:=h
def Wb {p:Prop} (h:p:=by
 rw[an _ _ hq];by_cases BU:∃l',q=NW c l'
 ·obtain⟨l',rfl⟩:=BU;rw[hN l',g6 l' λp hp=>by rw[iN.1 hp,hl];exact agQ hq]
 exact g4 q (λp hp=>absurd hp j_) λl' e=>BU ⟨l',e⟩):p:=h
def Bp {p:Prop} (h:p:=by
 rw[bc aZ] at hz;simp at hz):p:=h
def aac {p:Prop} (h:p:=by
 rcases lf hr JC h2 with⟨rfl,rfl,rfl⟩|⟨y,k',u,rfl,_,e4,e5,e6,rfl⟩
 ·exact⟨by simp[Instr.sliceBounds,e1,run_sliceBound _ e2 (show v.toNat<=c by omega)],ajK,e3,ajY,ajL⟩
 exact⟨by simp[Instr.sliceBounds,e1,e4,run_sliceBound _ e2 (show v.toNat<=c by omega),run_sliceBound _ e5 e6],e6,e3,ajY,ajL⟩):p:=h
def aad {p:Prop} (h:p:=by
 rcases lf hr JC h2 with⟨rfl,rfl,rfl⟩|⟨y,k,u,rfl,_,e4,e5,e6,rfl⟩
 ·exact⟨by simp[Instr.sliceBounds],ajK,ajK,by simpa using Wc,ajL⟩
 exact⟨by simp[Instr.sliceBounds,e4,run_sliceBound _ e5 e6],ajK,ajK,by simpa using Wc,ajL⟩):p:=h
def Lr {p:Prop} (h:p:=by
 exact .inr ⟨g,S,k2.trans e1,e2,k3 g S e1 e3,e4⟩):p:=h
def aae {p:Prop} (h:p:=by
 subst hn;refine⟨[],ajL,alp,?_,ajL,ajL,ajL⟩;intro k hk w1 _;have pe:k=0:=amF
 subst pe;cases ad with
 |none=>simp[Builtin.firstCells]
 |some q=>simp[Builtin.firstCells,loadCells,loadCellsFrom]):p:=h
def So {p:Prop} (h:p:=by
 rw[eP,an _ _ e] at h;simp[Hp.none] at h):p:=h
def Wd {p:Prop} (h:p:=by
 simp only[wa] at hr;by_cases h:p=0
 ·simp[h] at hr;subst hr;exact hL
 simp[h] at hr):p:=h
def Sp {p:Prop} (h:p:=by
 simp[execOp,ho,h,show a.eval (.const .nilIface)= .nilIface from rfl,eqGuard,binOp,hq]):p:=h
def aaf {p:Prop} (h:p:=by
 rintro e W' ⟨v,rfl,h1,h2⟩;refine⟨v,rfl,h1,RV.mono _ _ ?_ h2⟩;exact {im:=λk _ hs=>⟨trivial,hs,rfl⟩,lb:=λl _ ⟨r,h⟩=>by simp[Hp.none] at h}):p:=h
def aag {p:Prop} (h:p:=by
 right;rcases h7 hl with h8|⟨g,S,k1,k2,k3,k4⟩
 ·omega
 subst k2;refine⟨g,S,k1,?_,k3,?_⟩
 ·rw[af8 hc];simp[addr_add,ag0]
 rw[<-k4];congr 1;omega):p:=h
def We {p:Prop} (h:p:=by
 rintro q q' ⟨r,h⟩ ⟨r',h'⟩ _;rw[(aT q r h).1,(aT q' r' h').1]):p:=h
def Wf {p:Prop} (h:p:=by
 rintro q q' ⟨r,h⟩ ⟨r',h'⟩ _;rw[(hH q r h).1,(hH q' r' h').1]):p:=h
def aah {p:Prop} (h:p:=by
 intro q hq;by_cases e:q= .par 0
 ·subst e;exact⟨_,an7⟩
 rw[eP,an _ _ e] at hq;simp[Hp.none] at hq):p:=h
def aai {p:Prop} (h:p:=by
 intro g cs hg;obtain⟨h1,h2,h3⟩:=hr.iO g cs hg;exact⟨((d_ []).im g h1 h2).1,h2,dD.mono (d_ []).tojt h1 h2 h3⟩):p:=h
def aaj {p:Prop} (h:p:=by
 rw[an _ _ e] at h;refine .inl ⟨h,?_⟩;rintro z ⟨r',hz⟩;rw[(aT z r' hz).1];simp only[iP,agn];exact agQ e):p:=h
def Wg {p:Prop} (h:p:=by
 rintro l ⟨r,h⟩;by_cases e:l= .par 0
 ·subst e;rfl
 exact So):p:=h
def aak {p:Prop} (h:p:=by
 exact {im:=λk _ hs=>⟨hI k,hs,rfl⟩,lb:=λl _ ⟨r,h⟩=>by simp[Hp.none] at h}):p:=h
inductive Lb where
 |loc (n:Nat)
 |par (n:Nat)
 |gen (n:Nat)
 |nest (l:Lb) (i j:Nat)
 deriving DecidableEq
def Lb.fresh:Lb->Bool
 | .loc _=>true
 | .nest l _ _=>l.fresh
 |_=>false
def Lb.entry:Lb->Bool
 | .par _=>true
 |_=>false
def Lb.lC {l:Lb} (h:l.entry=true):l.fresh=false:=by
 cases l<;>simp_all[Lb.entry,Lb.fresh]
def Lb.ix:Lb->Lb
 | .nest l _ j=> .nest l 0 j
 |l=>l
def JD (n:Nat):(Lb.loc n).ix= .loc n:=rfl
def C4 (n:Nat):(Lb.par n).ix= .par n:=rfl
def JE (n:Nat):(Lb.gen n).ix= .gen n:=rfl
def EA (l:Lb) (i j:Nat):(Lb.nest l i j).ix= .nest l 0 j:=rfl
def Lb.app (l:Lb) (d:Nat):Lb:=if l.fresh then .loc d else .gen d
def Lb.rA (l:Lb) (d:Nat) (h:(l.app d).fresh=true):l.fresh=true:=by
 grind [Lb.app,Lb.fresh]
inductive IV where
 |bool (b:Bool)
 |int (k:IntKind) (n:Int)
 |str (s:List UInt8)
 |list (xs:List IV)
 |agg (cs:List IV)
 |ifc (t:Nat)
def IV.cells:IV->List IV
 | .agg cs=>cs
 |x=>[x]
inductive AV where
 |any
 |un
 |bool (b:Bool)
 |int (k:IntKind) (n:Int)
 |str (s:List UInt8)
 |list (xs:List IV)
 |nil0
 |mT
 |jS
 |agg (cs:List AV)
 |bq (cs:List AV)
 |sl (l:Lb) (sz i n:Nat)
 |slk (l:Lb) (sz i n c:Nat)
 |ptr (l:Lb) (sz i j:Nat)
 |lptr (cs:List IV)
 |fn (f:Nat) (first cap:List AV)
 |ifc (t:Nat) (x:AV)
 |mis (es:List (Int×List UInt8))
def IV.dw:IV->AV
 | .bool b=> .bool b
 | .int k n=> .int k n
 | .str s=> .str s
 | .list xs=> .list xs
 | .agg _=> .any
 | .ifc t=> .ifc t .any
def IV.av:IV->AV
 | .agg cs=> .agg (cs.map IV.dw)
 |x=>x.dw
structure Row where
 sz:Nat
 els:List (List AV)
inductive Slot where
 |unused
 |dead
 |live (r:Row)
abbrev Hp:=Lb->Slot
abbrev Env:=Nat->AV
def live (H:Hp) (l:Lb):Prop:=∃r,H l= .live r
def oy (w:World) (k:Nat):Option Nat:=
 match w.heap[k]? with
 |some (.cells c _ _)=>some c.size
 |_=>none
def U_ (w:World) (Im:Nat->Prop) (n:Nat) (els:Nat->Nat->Nat->Prop) (v:Value):Prop:=
 ∃a c,v= .slice a n c/\n<=c/\c<=maxLen /\
  (n=0\/∃b o sz,a=some ⟨b,o,none⟩/\Im b/\b<w.heap.size/\0<sz/\els b o sz)
mutual
def iM (w:World) (Im:Nat->Prop):IV->Value->Prop
 | .bool b,v=>v= .bool b
 | .int k n,v=>v= .int k n
 | .str s,v=>v= .string ⟨s.toArray⟩
 | .list xs,v=>U_ w Im xs.length (λb o sz=>cd w Im xs b o sz) v
 | .agg _,_=>False
 | .ifc t,v=>∃u,v= .iface t u
def b7 (w:World) (Im:Nat->Prop):List IV->Nat->Nat->Prop
 |[],_,_=>True
 |x::r,b,o=>(∃v,w.cell? ⟨b,o,none⟩=some v/\iM w Im x v)/\b7 w Im r b (o+1)
def kt (w:World) (Im:Nat->Prop):IV->Nat->Nat->Nat->Prop
 | .agg cs,b,o,sz=>sz=cs.length/\b7 w Im cs b o
 | .bool x,b,o,sz=>sz=1/\∃v,w.cell? ⟨b,o,none⟩=some v/\v= .bool x
 | .int k n,b,o,sz=>sz=1/\∃v,w.cell? ⟨b,o,none⟩=some v/\v= .int k n
 | .str s,b,o,sz=>sz=1/\∃v,w.cell? ⟨b,o,none⟩=some v/\v= .string ⟨s.toArray⟩
 | .list xs,b,o,sz=>sz=1/\∃v,w.cell? ⟨b,o,none⟩=some v/\U_ w Im xs.length (λb o sz=>cd w Im xs b o sz) v
 | .ifc t,b,o,sz=>sz=1/\∃v,w.cell? ⟨b,o,none⟩=some v/\∃u,v= .iface t u
def cd (w:World) (Im:Nat->Prop):List IV->Nat->Nat->Nat->Prop
 |[],_,_,_=>True
 |x::r,b,o,sz=>kt w Im x b o sz/\cd w Im r b (o+sz) sz
end
theorem hQ (w:World) (Im:Nat->Prop) (x:IV) (b o sz:Nat):kt w Im x b o sz↔sz=x.cells.length/\b7 w Im x.cells b o:=by
 cases x<;>simp[kt,IV.cells,b7,iM]
structure jt (w w':World) (Im sF:Nat->Prop):Prop where
 im:∀k,Im k->k<w.heap.size->sF k/\k<w'.heap.size/\w'.heap[k]?=w.heap[k]?
def U_.mono {w w':World} {Im sF:Nat->Prop} (h:jt w w' Im sF) {n:Nat} {e e':Nat->Nat->Nat->Prop}
  (he:∀b o sz,Im b->b<w.heap.size->e b o sz->e' b o sz) {v:Value} (hv:U_ w Im n e v):U_ w' sF n e' v:=by
 obtain⟨a,c,h1,h2,h3,h4⟩:=hv;refine⟨a,c,h1,h2,h3,h4.imp id ?_⟩;rintro⟨b,o,sz,e1,e2,e3,e4,e5⟩;obtain⟨k1,k2,_⟩:=h.im b e2 e3
 grind
def mA {w w':World} {b o:Nat} (h:w'.heap[b]?=w.heap[b]?):w'.cell? ⟨b,o,none⟩=w.cell? ⟨b,o,none⟩:=
 World.cell?_of_block (w:=w) (a:=⟨b,o,none⟩) h
mutual
theorem iM.mono {w w':World} {Im sF:Nat->Prop} (h:jt w w' Im sF):∀(x:IV) (v:Value),iM w Im x v->iM w' sF x v
 | .bool b,v,hv=>by simpa[iM] using hv
 | .int k n,v,hv=>by simpa[iM] using hv
 | .str s,v,hv=>by simpa[iM] using hv
 | .list xs,v,hv=>by
  simp only[iM] at hv ⊢;exact U_.mono h (λb o sz hb hs he=>cd.mono h xs b o sz hb hs he) hv
 | .agg _,v,hv=>by simp[iM] at hv
 | .ifc t,v,hv=>by simpa[iM] using hv
theorem b7.mono {w w':World} {Im sF:Nat->Prop} (h:jt w w' Im sF):∀(xs:List IV) (b o:Nat),Im b->b<w.heap.size->b7 w Im xs b o->b7 w' sF xs b o
 |[],_,_,_,_,_=>by simp[b7]
 |x::r,b,o,hb,hs,hv=>by
  simp only[b7] at hv ⊢;obtain⟨⟨v,h1,h2⟩,h3⟩:=hv;obtain⟨_,_,k3⟩:=h.im b hb hs;exact⟨⟨v,(mA k3).trans h1,iM.mono h x v h2⟩,b7.mono h r b (o+1) hb hs h3⟩
theorem kt.mono {w w':World} {Im sF:Nat->Prop} (h:jt w w' Im sF):∀(x:IV) (b o sz:Nat),Im b->b<w.heap.size->kt w Im x b o sz->kt w' sF x b o sz
 | .agg cs,b,o,sz,hb,hs,hv=>by
  simp only[kt] at hv ⊢;exact⟨hv.1,b7.mono h cs b o hb hs hv.2⟩
 | .bool x,b,o,sz,hb,hs,hv=>by
  simp only[kt] at hv ⊢;obtain⟨h0,v,h1,h2⟩:=hv;exact⟨h0,v,(mA (h.im b hb hs).2.2).trans h1,h2⟩
 | .int k n,b,o,sz,hb,hs,hv=>by
  simp only[kt] at hv ⊢;obtain⟨h0,v,h1,h2⟩:=hv;exact⟨h0,v,(mA (h.im b hb hs).2.2).trans h1,h2⟩
 | .str s,b,o,sz,hb,hs,hv=>by
  simp only[kt] at hv ⊢;obtain⟨h0,v,h1,h2⟩:=hv;exact⟨h0,v,(mA (h.im b hb hs).2.2).trans h1,h2⟩
 | .ifc t,b,o,sz,hb,hs,hv=>by
  simp only[kt] at hv ⊢;obtain⟨h0,v,h1,h2⟩:=hv;exact⟨h0,v,(mA (h.im b hb hs).2.2).trans h1,h2⟩
 | .list xs,b,o,sz,hb,hs,hv=>by
  simp only[kt] at hv ⊢;obtain⟨h0,v,h1,h2⟩:=hv;exact⟨h0,v,(mA (h.im b hb hs).2.2).trans h1,U_.mono h (λb o sz hb hs he=>cd.mono h xs b o sz hb hs he) h2⟩
theorem cd.mono {w w':World} {Im sF:Nat->Prop} (h:jt w w' Im sF):∀(xs:List IV) (b o sz:Nat),Im b->b<w.heap.size->cd w Im xs b o sz->cd w' sF xs b o sz
 |[],_,_,_,_,_,_=>by simp[cd]
 |x::r,b,o,sz,hb,hs,hv=>by
  simp only[cd] at hv ⊢;exact⟨kt.mono h x b o sz hb hs hv.1,cd.mono h r b (o+sz) sz hb hs hv.2⟩
end
def Hs (w:World) (Im:Nat->Prop) (es:List (Int×List UInt8)) (v:Value):Prop:=
 ∃r xs c,v= .map (some r)/\Im r/\r<w.heap.size/\w.heap[r]?=some (.map xs c)/\xs.toList.map (λe=>(e.key,e.val))=es.map λp=>(Value.int .i64 p.1,Value.string ⟨p.2.toArray⟩)
def Hs.mono {w w':World} {Im sF:Nat->Prop} (h:jt w w' Im sF) {es:List (Int×List UInt8)} {v:Value} (hv:Hs w Im es v):Hs w' sF es v:=by
 obtain⟨r,xs,c,h1,h2,h3,h4,h5⟩:=hv;obtain⟨k1,k2,k3⟩:=h.im r h2 h3;exact⟨r,xs,c,h1,k1,k2,k3.trans h4,h5⟩
def Sq (w:World) (β:Lb->Option Nat) (l:Lb) (sz i c:Nat) (a:Option Addr):Prop:=
 c=0\/∃g S,β l=some g/\a=some ⟨g,i*sz,none⟩/\oy w g=some S/\(i+c)*sz=S
mutual
def RV (w:World) (β:Lb->Option Nat) (H:Hp) (Im:Nat->Prop):AV->Value->Prop
 | .any,_=>True
 | .un,v=>v=undef
 | .bool b,v=>v= .bool b
 | .int k n,v=>v= .int k n
 | .str s,v=>v= .string ⟨s.toArray⟩
 | .list xs,v=>iM w Im (.list xs) v
 | .nil0,v=>∃a,v= .slice a 0 0
 | .mT,v=>v= .pointer none
 | .jS,v=>v= .nilIface
 | .agg cs,v=>∃vs:List Value,v= .agg vs.toArray/\bA w β H Im cs vs
 | .bq cs,v=>∃vs:List Value,v= .tuple vs.toArray/\bA w β H Im cs vs
 | .sl l sz i n,v=>∃a c,v= .slice a n c/\n<=c/\c<=maxLen/\(0<n->a.isSome=true)/\(live H l->Sq w β l sz i c a)
 | .slk l sz i n c,v=>∃a,v= .slice a n c/\n<=c/\c<=maxLen/\(0<c->a.isSome=true)/\(live H l->Sq w β l sz i c a)
 | .ptr l sz i j,v=>∃a,v= .pointer (some a)/\(live H l->∃g,β l=some g/\a=⟨g,i*sz+j,none⟩)
 | .lptr cs,v=>∃b o,v= .pointer (some ⟨b,o,none⟩)/\Im b/\b<w.heap.size/\b7 w Im cs b o
 | .fn f fs cs,v=>∃vs us:List Value,v= .func (.func f) vs.toArray us.toArray/\bA w β H Im fs vs/\bA w β H Im cs us
 | .ifc t x,v=>∃u,v= .iface t u/\RV w β H Im x u
 | .mis es,v=>Hs w Im es v
def bA (w:World) (β:Lb->Option Nat) (H:Hp) (Im:Nat->Prop):List AV->List Value->Prop
 |[],vs=>vs=[]
 |x::r,vs=>∃v us,vs=v::us/\RV w β H Im x v/\bA w β H Im r us
end
mutual
def AV.aq:AV->List Lb
 | .sl l _ _ _=>[l]
 | .slk l _ _ _ _=>[l]
 | .ptr l _ _ _=>[l]
 | .agg cs=>ai cs
 | .bq cs=>ai cs
 | .fn _ fs cs=>ai fs++ai cs
 | .ifc _ x=>x.aq
 |_=>[]
def ai:List AV->List Lb
 |[]=>[]
 |x::r=>x.aq++ai r
end
structure ic (w w':World) (β β':Lb->Option Nat) (H H':Hp) (Im sF:Nat->Prop) (ls:List Lb):Prop extends jt w w' Im sF where
 lb:∀l∈ls,live H' l->live H l/\β' l=β l/\∀g S,β l=some g->oy w g=some S->oy w' g=some S
def ic.sub {w w':World} {β β':Lb->Option Nat} {H H':Hp} {Im sF:Nat->Prop} {ls ls':List Lb} (h:ic w w' β β' H H' Im sF ls) (hs:∀l∈ls',l∈ls) :
 ic w w' β β' H H' Im sF ls':=⟨h.tojt,λl hl=>h.lb l (hs l hl)⟩
mutual
theorem RV.mono {w w':World} {β β':Lb->Option Nat} {H H':Hp} {Im sF:Nat->Prop}:∀(x:AV) (v:Value),ic w w' β β' H H' Im sF x.aq->RV w β H Im x v->RV w' β' H' sF x v
 | .any,_,_,_=>by simp[RV]
 | .un,_,_,hv=>by simpa[RV] using hv
 | .bool _,_,_,hv=>by simpa[RV] using hv
 | .int _ _,_,_,hv=>by simpa[RV] using hv
 | .str _,_,_,hv=>by simpa[RV] using hv
 | .nil0,_,_,hv=>by simpa[RV] using hv
 | .mT,_,_,hv=>by simpa[RV] using hv
 | .jS,_,_,hv=>by simpa[RV] using hv
 | .list xs,v,h,hv=>by simp only[RV] at hv ⊢;exact iM.mono h.tojt _ _ hv
 | .agg cs,v,h,hv=>by
  simp only[RV] at hv ⊢;obtain⟨vs,rfl,h1⟩:=hv;exact⟨vs,rfl,bA.mono cs vs ak9 h1⟩
 | .bq cs,v,h,hv=>by
  simp only[RV] at hv ⊢;obtain⟨vs,rfl,h1⟩:=hv;exact⟨vs,rfl,bA.mono cs vs ak9 h1⟩
 | .sl l sz i n,v,h,hv=>by
  simp only[RV] at hv ⊢;obtain⟨a,c,h1,h2,h3,h4,h5⟩:=hv;refine⟨a,c,h1,h2,h3,h4,λhl=> ?_⟩;obtain⟨k1,k2,k3⟩:=h.lb l ajP hl;rcases h5 k1 with h6|⟨g,S,e1,e2,e3,e4⟩
  ·exact .inl h6
  exact Lr
 | .slk l sz i n c,v,h,hv=>by
  simp only[RV] at hv ⊢;obtain⟨a,h1,h2,h3,h4,h5⟩:=hv;refine⟨a,h1,h2,h3,h4,λhl=> ?_⟩;obtain⟨k1,k2,k3⟩:=h.lb l ajP hl;rcases h5 k1 with h6|⟨g,S,e1,e2,e3,e4⟩
  ·exact .inl h6
  exact Lr
 | .ptr l sz i j,v,h,hv=>by
  simp only[RV] at hv ⊢;obtain⟨a,h1,h2⟩:=hv;refine⟨a,h1,λhl=> ?_⟩;obtain⟨k1,k2,k3⟩:=h.lb l ajP hl;obtain⟨g,e1,e2⟩:=h2 k1;exact⟨g,k2.trans e1,e2⟩
 | .lptr cs,v,h,hv=>by
  simp only[RV] at hv ⊢;obtain⟨b,o,h1,h2,h3,h4⟩:=hv;obtain⟨k1,k2,_⟩:=h.im b h2 h3;exact⟨b,o,h1,k1,k2,b7.mono h.tojt cs b o h2 h3 h4⟩
 | .fn f fs cs,v,h,hv=>by
  simp only[RV] at hv ⊢;obtain⟨vs,us,rfl,h1,h2⟩:=hv;exact⟨vs,us,rfl,bA.mono fs vs (h.sub amr) h1,bA.mono cs us (h.sub ams) h2⟩
 | .ifc t x,v,h,hv=>by
  simp only[RV] at hv ⊢;obtain⟨u,rfl,h1⟩:=hv;exact⟨u,rfl,RV.mono x u ak9 h1⟩
 | .mis es,v,h,hv=>by simp only[RV] at hv ⊢;exact Hs.mono h.tojt hv
theorem bA.mono {w w':World} {β β':Lb->Option Nat} {H H':Hp} {Im sF:Nat->Prop}:∀(xs:List AV) (vs:List Value),ic w w' β β' H H' Im sF (ai xs)->bA w β H Im xs vs->bA w' β' H' sF xs vs
 |[],_,_,hv=>by simpa[bA] using hv
 |x::r,vs,h,hv=>by
  simp only[bA] at hv ⊢;obtain⟨v,us,rfl,h1,h2⟩:=hv;exact⟨v,us,rfl,RV.mono x v (h.sub amG) h1,bA.mono r us (h.sub amH) h2⟩
end
def yg (w:World) (β:Lb->Option Nat) (H:Hp) (Im:Nat->Prop) (l:Lb) (r:Row):Prop:=
 0<r.sz/\(∀cs∈r.els,cs.length=r.sz) /\
 match β l with
 |none=>r.els=[]
 |some g=>∃cur e cap,w.heap[g]?=some (.cells cur e (0,0))/\cur.size=cap*r.sz/\cap<=maxLen/\r.els.length<=cap /\
  ∀i j cs x,r.els[i]?=some cs->cs[j]?=some x->∃v,cur[i*r.sz+j]?=some v/\RV w β H Im x v
def dD (w:World) (Im:Nat->Prop) (cs:List IV) (g:Nat):Prop:=b7 w Im cs g 0/\oy w g=some cs.length
def dD.mono {w w':World} {Im sF:Nat->Prop} (h:jt w w' Im sF) {cs:List IV} {g:Nat} (hb:Im g) (hs:g<w.heap.size) (hg:dD w Im cs g):dD w' sF cs g:=
 ⟨b7.mono h cs g 0 hb hs hg.1,by unfold oy;rw[(h.im g hb hs).2.2];exact hg.2⟩
end Go.Am

namespace Go.Am
open Go Go.RowKit
inductive O where
 |t (n:Nat)
 |c (x:AV)
def ev (env:Env):O->AV
 | .t n=>env n
 | .c x=>x
inductive Kd where
 |b|i|s
 deriving DecidableEq
inductive ju where
 |ea (x:O)
 |pick (c a b:O)
 |Va (a:O) (off:Nat)
 |ZV (x i:O) (sz:Nat)
 |ixs (x i:O)
 |len (x:O)
 |lens (x:O)
 |Bd (x:O) (lo hi mx:Option O) (sz:Nat)
 |Ls (x:O) (lo hi:Option O)
 |bin (op:BinOp) (x y:O)
 |eqb (neg:Bool) (x y:O)
 |eqp (neg:Bool) (x y:O)
 |eqi (neg:Bool) (x y:O)
 |N1 (neg:Bool) (ks:List Kd) (x y:O)
 |not (x:O)
 |max (x y:O)
 |min (x y:O)
 |ext (x:O) (i:Nat)
 |ZW (z:List AV) (ps:List (Nat×Nat×O))
 |lits (n sz:Nat) (z:List AV) (ps:List (Nat×O))
 |N2 (x:O)
 |stuck
 |ZX (f:Nat) (cap:List O)
 |cvi (k:IntKind) (x:O)
 |cvb (x:O)
 |cvt (x:O)
 |load (m:Option Nat) (a:O)
 |box (x:O)
 |new (cs:List AV)
 |RZ (n c:O) (sz bytes:Nat) (z:List AV)
 |store (m:Nat) (a x:O)
 |app (s x:O) (sz bytes:Nat)
 |Hi (s x:O) (sz:Nat)
 |call (f:Nat) (args:List O)
 |qq (x:O) (args:List O)
 |ZY (neg:Bool) (x:O)
 |ixp (x i:O) (n sz:Nat)
 |cap (x:O)
 |N3 (x:O) (sz:Nat) (z:List AV)
 |y6 (f:Nat) (args:List O)
 |N4 (x:O) (n sz:Nat)
 |Ht (s x:O) (sz bytes:Nat)
 |Hu (s n:O) (sz bytes:Nat) (z:List AV)
 |ZZ (f:Nat) (first cs:List O)
 |oz (sz:Nat) (z:List AV) (ps:List (Nat×O))
 |Lt (es:List (Int×List UInt8))
 |N5 (x i:O)
structure bd where
 d:Option Nat
 g:Option (Nat×Bool)
 i:ju
abbrev zzA (k:Nat) (i:ju):bd:=⟨some k,none,i⟩
abbrev zzM (k j:Nat):bd:=⟨some k,none, .ea (.t j)⟩
abbrev zzL (k j:Nat):bd:=⟨some k,none, .load none (.t j)⟩
abbrev zzF (k j n:Nat):bd:=⟨some k,none, .Va (.t j) n⟩
abbrev zzW (i:ju):bd:=⟨none,none,i⟩
abbrev zzY (k j:Nat) (i:ju):bd:=⟨some k,some (j,true),i⟩
abbrev zzN (k j:Nat) (i:ju):bd:=⟨some k,some (j,false),i⟩
abbrev zzI (n:Int):O:= .c (.int .i64 n)
abbrev zzB (n:Bool):O:= .c (.bool n)
abbrev zzD (k:Nat) (b:BinOp) (i j:Nat):bd:=⟨some k,none, .bin b (.t i) (.t j)⟩
abbrev zzE (k:Nat) (b:BinOp) (i:Nat) (c:Int):bd:=⟨some k,none, .bin b (.t i) (.c (.int .i64 c))⟩
abbrev zzG (k n j:Nat):bd:=⟨some k,none, .load (some n) (.t j)⟩
abbrev zzH (k i j n:Nat):bd:=⟨some k,none, .ZV (.t i) (.t j) n⟩
abbrev zzJ (k i j:Nat):bd:=⟨some k,none, .pick (.t i) (.t j) (.c (.bool false))⟩
abbrev zzK (k i j:Nat):bd:=⟨some k,none, .pick (.t i) (.c (.bool true)) (.t j)⟩
abbrev zzP (k:Nat) (c:Int):bd:=⟨some k,none, .ea (.c (.int .i64 c))⟩
abbrev zzQ (k:Nat) (c:Bool):bd:=⟨some k,none, .ea (.c (.bool c))⟩
abbrev zzR (k j n:Nat):bd:=⟨some k,none, .ext (.t j) n⟩
abbrev zzT (k j:Nat):bd:=⟨some k,none, .len (.t j)⟩
abbrev zzU (k j:Nat):bd:=⟨some k,none, .lens (.t j)⟩
abbrev zzV (k j:Nat):bd:=⟨some k,none, .not (.t j)⟩
abbrev zzX (k j:Nat):bd:=⟨some k,none, .box (.t j)⟩
abbrev zzZ (k:Nat):bd:=⟨some k,none, .ea (.c .nil0)⟩
abbrev afy (k g j:Nat):bd:=⟨some k,some (g,true), .ea (.t j)⟩
abbrev afz (k g j:Nat):bd:=⟨some k,some (g,false), .ea (.t j)⟩
abbrev afA (k g j:Nat):bd:=⟨some k,some (g,true), .load none (.t j)⟩
abbrev afB (k g j:Nat):bd:=⟨some k,some (g,false), .load none (.t j)⟩
abbrev afC (k g j n:Nat):bd:=⟨some k,some (g,true), .Va (.t j) n⟩
abbrev afD (k g j n:Nat):bd:=⟨some k,some (g,false), .Va (.t j) n⟩
structure Kx where
 P:Program
 G:Nat->Option (List IV)
 w0:World
 A:Nat->Prop
 D:Nat->Prop
 N:Nat
 H0:Hp
 β0:Lb->Option Nat
def Im (K:Kx) (β:Lb->Option Nat) (H:Hp) (k:Nat):Prop:=(K.A k\/K.w0.heap.size<=k)/\∀l,live H l->β l≠some k
structure Frm (D:Nat->Prop) (w0 w:World):Prop where
 os:w.os=w0.os
 tape:w.tape=w0.tape
 output:w.output=w0.output
 size:w0.heap.size<=w.heap.size
 block:∀k,k<w0.heap.size->¬D k->w.heap[k]?=w0.heap[k]?
 bs:∀k S,oy w0 k=some S->oy w k=some S
structure aO (K:Kx) (β:Lb->Option Nat) (env:Env) (H:Hp) (a:Act) (w:World):Prop where
 defers:a.defers=[]
 size:a.tmps.size=K.N
 jc:∀n,RV w β H (Im K β H) (env n) (a.tmps.getD n undef)
 rows:∀l r,H l= .live r->yg w β H (Im K β H) l r
 own:∀l g,live H l->β l=some g->(K.D g\/K.w0.heap.size<=g)
 inj:∀l l' g,live H l->live H l'->β l=some g->β l'=some g->l=l'
 iq:∀n,∀l∈(env n).aq,H l≠ .unused
 cB:∀l r,H l= .live r->∀cs∈r.els,∀l'∈ai cs,H l'≠ .unused
 frame:Frm K.D K.w0 w
 iO:∀g cs,K.G g=some cs->Im K β H g/\g<w.heap.size/\dD w (Im K β H) cs g
 jv:∀l,live K.H0 l->H l≠ .unused/\(live H l->β l=K.β0 l)
 fr:∀l g,live H l->l.fresh=true->β l=some g->K.w0.heap.size<=g
def put (env:Env) (d:Nat) (x:AV):Env:=λn=>if n=d then x else env n
def eh (env:Env):Option Nat->AV->Env
 |some d,x=>put env d x
 |none,_=>env
abbrev oB (w w':World):Prop:=Below w.heap.size w w'
def oB.BV {w w':World} (h:oB w w') (β:Lb->Option Nat) (H:Hp) (I:Nat->Prop) (ls:List Lb):ic w w' β β H H I I ls where
 im k hk hs:=⟨hk,ahi hs h.size,h.block k hs⟩
 lb l _ hl:=⟨hl,rfl,λg S _ hS=>by
  unfold oy at *;have:g<w.heap.size:=by
   cases hg:w.heap[g]? with
   |none=>simp[hg] at hS
   |some o=>exact(agS.1 hg).1
  rwa[h.block g this]⟩
def yg.N6 {w w':World} (h:oB w w') {β:Lb->Option Nat} {H:Hp} {I:Nat->Prop} {l:Lb} {r:Row} (hr:yg w β H I l r):yg w' β H I l r:=by
 obtain⟨h1,h2,h3⟩:=hr;refine⟨h1,h2,?_⟩;cases hb:β l with
 |none=>simpa[hb] using h3
 |some g=>
 simp only[hb] at h3 ⊢;obtain⟨cur,e,cap,e1,e2,e3,e4,e5⟩:=h3;have hg:g<w.heap.size:=(agS.1 e1).1;refine⟨cur,e,cap,(h.block g hg).trans e1,e2,e3,e4,λi j cs x hi hj=> ?_⟩;obtain⟨v,k1,k2⟩:=e5 i j cs x hi hj;exact⟨v,k1,RV.mono x v (h.BV _ _ _ _) k2⟩
def Frm.N6 {D:Nat->Prop} {w0 w w':World} (h:Frm D w0 w) (g:oB w w'):Frm D w0 w':=
 ⟨g.os.trans h.os,g.tape.trans h.tape,g.output.trans h.output,ag' h.size g.size,
   fun k hk hd => (g.block k (ahi hk h.size)).trans (h.block k hk hd),fun k S hS => by
     have h1:=h.bs k S hS
     unfold oy at h1 ⊢
     have:k<w.heap.size:=by
       cases hg:w.heap[k]? with
       |none=>simp[hg] at h1
       |some o=>exact(agS.1 hg).1
     rwa[g.block k this]⟩
def EB (t:Array Value) (d n:Nat) (v:Value):(t.setIfInBounds d v).getD n undef=if n=d/\d<t.size then v else t.getD n undef:=by
 simp only[ags,ahI];by_cases h:d=n
 ·subst h;by_cases h2:d<t.size
  ·simp[h2]
  simp[h2,Array.getElem?_eq_none (Nat.le_of_not_lt h2)]
 simp[h,agQ h,eq_comm]
def aO.step {K:Kx} {β:Lb->Option Nat} {env:Env} {H:Hp} {a:Act} {w w':World} (h:aO K β env H a w) (g:oB w w')
  {d:Option Nat} {x:AV} {v:Value} (hd:∀n,d=some n->n<K.N) (hx:d.isSome=true->RV w' β H (Im K β H) x v) (hm:d.isSome=true->∀l∈x.aq,H l≠ .unused):aO K β (eh env d x) H (a.put d v) w' where
 defers:=by cases d<;>simp[Act.put,h.defers]
 size:=by cases d<;>simp[Act.put,h.size]
 jc n:=by
  have ho:=RV.mono (env n) (a.tmps.getD n undef) (g.BV β H (Im K β H) _) (h.jc n);cases d with
  |none=>simpa[eh,Act.put] using ho
  |some d=>
  simp only[eh,Act.put,put,EB];by_cases e:n=d
  ·subst e;have:=hd n rfl;rw[<-h.size] at this;simpa[this] using hx rfl
  simpa[e] using ho
 rows l r hl:=(h.rows l r hl).N6 g
 own:=h.own
 inj:=h.inj
 iq n:=by
  cases d with
  |none=>exact h.iq n
  |some d=>
  simp only[eh,put];split
  ·exact hm rfl
  exact h.iq n
 cB:=h.cB
 frame:=h.frame.N6 g
 iO k cs hk:=by
  obtain⟨h1,h2,h3⟩:=h.iO k cs hk;exact⟨h1,ahi h2 g.size,dD.mono (g.BV β H (Im K β H) []).tojt h1 h2 h3⟩
 jv:=h.jv
 fr:=h.fr
def Z0:Value->Option AV
 | .bool b=>some (.bool b)
 | .int k n=>some (.int k n)
 | .string s=>some (.str s.data.toList)
 | .slice none 0 0=>some .nil0
 | .pointer none=>some .mT
 | .nilIface=>some .jS
 |_=>none
def Vb:List Value->Option (List AV)
 |[]=>some []
 |v::r=>(Z0 v).bind λx=>(Vb r).map λs=>x::s
def cv:Value->Option AV
 | .agg a=>(Vb a.toList).map .agg
 |v=>Z0 v
def co (G:Nat->Option (List IV)):Operand->Option O
 | .tmp t=>some (.t t)
 | .const v=>(cv v).map .c
 | .func f=>some (.c (.fn f [] []))
 | .global g=>(G g).map λcs=> .c (.lptr cs)
def JF {v:Value} {x:AV} (h:Z0 v=some x):x.aq=[]:=by
 unfold Z0 at h;split at h<;>simp at h<;>subst h<;>simp[AV.aq]
def N7 {v:Value} {x:AV} (h:Z0 v=some x) (w:World) (β:Lb->Option Nat) (H:Hp) (I:Nat->Prop):RV w β H I x v:=by
 unfold Z0 at h;split at h<;>simp at h<;>subst h<;>simp[RV]
theorem JG:∀(l:List Value) (xs:List AV),Vb l=some xs->ai xs=[]
 |[],xs,h=>by simp[Vb] at h;subst h;rfl
 |v::r,xs,h=>by
  simp only[Vb,afX,acF] at h;obtain⟨x,h1,s,h2,rfl⟩:=h;simp[ai,JF h1,JG r s h2]
theorem N8 (w:World) (β:Lb->Option Nat) (H:Hp) (I:Nat->Prop):∀(l:List Value) (xs:List AV),Vb l=some xs->bA w β H I xs l
 |[],xs,h=>by simp[Vb] at h;subst h;simp[bA]
 |v::r,xs,h=>by
  simp only[Vb,afX,acF] at h;obtain⟨x,h1,s,h2,rfl⟩:=h;simp only[bA];exact⟨v,r,rfl,N7 h1 _ _ _ _,N8 w β H I r s h2⟩
theorem Hv {v:Value} {x:AV} (h:cv v=some x):x.aq=[]:=by
 unfold cv at h;split at h
 ·obtain⟨cs,h1,rfl⟩:=acF.1 h;simp[AV.aq,JG _ _ h1]
 exact JF h
def Vc {v:Value} {x:AV} (h:cv v=some x) (w:World) (β:Lb->Option Nat) (H:Hp) (I:Nat->Prop):RV w β H I x v:=by
 unfold cv at h;split at h
 ·rename_i a;obtain⟨cs,h1,rfl⟩:=acF.1 h;simp only[RV];exact⟨a.toList,ajL,N8 w β H I _ _ h1⟩
 exact N7 h _ _ _ _
def aO.ev {K:Kx} {β:Lb->Option Nat} {env:Env} {H:Hp} {a:Act} {w:World} (h:aO K β env H a w) {x:Operand} {o:O} (hx:co K.G x=some o) :
  RV w β H (Im K β H) (ev env o) (a.eval x):=by
 cases x with
 |tmp t=>simp[co] at hx;subst hx;exact h.jc t
 |const v=>
  simp only[co,acF] at hx;obtain⟨y,h1,rfl⟩:=hx;exact Vc h1 _ _ _ _
 |func f=>simp[co] at hx;subst hx;simp[Am.ev,RV,bA,Act.eval]
 |global g=>
 simp only[co,acF] at hx;obtain⟨cs,h1,rfl⟩:=hx;obtain⟨h2,h3,h4⟩:=h.iO g cs h1;exact⟨g,0,rfl,h2,h3,h4.1⟩
def aO.jG {K:Kx} {β:Lb->Option Nat} {env:Env} {H:Hp} {a:Act} {w:World} (h:aO K β env H a w) {x:Operand} {o:O} (hx:co K.G x=some o) :
  ∀l∈(Am.ev env o).aq,H l≠ .unused:=by
 cases x with
 |tmp t=>simp[co] at hx;subst hx;exact h.iq t
 |const v=>
  simp only[co,acF] at hx;obtain⟨y,h1,rfl⟩:=hx;simp[Am.ev,Hv h1]
 |func f=>simp[co] at hx;subst hx;simp[Am.ev,AV.aq,ai]
 |global g=>
 simp only[co,acF] at hx;obtain⟨cs,h1,rfl⟩:=hx;simp[Am.ev,AV.aq]

def Be (P:Program) (t:TypeId):Option Nat:=(P.info? t).map (·.size)
def Sr (P:Program) (t:TypeId):Option (Option Nat):=
 match P.underlying t with
 |some (.struct _)|some (.array _ _)=>(Be P t).map some
 |some _=>some none
 |none=>none
def cos (G:Nat->Option (List IV)):List Operand->Option (List O)
 |[]=>some []
 |x::r=>(co G x).bind λy=>(cos G r).map λs=>y::s
def iW (G:Nat->Option (List IV)):Option Operand->Option (Option O)
 |none=>some none
 |some x=>(co G x).map some
def AV.iv:AV->Option IV
 | .bool b=>some (.bool b)
 | .int k n=>some (.int k n)
 | .str s=>some (.str s)
 | .list xs=>some (.list xs)
 | .nil0=>some (.list [])
 | .ifc t _=>some (.ifc t)
 |_=>none
def Hw:List AV->Option (List IV)
 |[]=>some []
 |x::r=>x.iv.bind λy=>(Hw r).map λs=>y::s
def AV.cells:AV->List AV
 | .agg cs=>cs
 |x=>[x]
def y7 (l:List Value):Option (List AV):=
 match l with
 |[]=>some []
 |v::r=>(cv v).bind λx=>(y7 r).map λs=>x::s
def iy (P:Program):Nat->List Field->Option (List Kd)
 |_,[]=>some []
 |n,f::r=>if f.name != "_"&&f.offset==n then
   match P.underlying f.type with
   |some .string=>(iy P (n+1) r).map λs=> .s::s
   |some .bool=>(iy P (n+1) r).map λs=> .b::s
   |some (.int _)=>(iy P (n+1) r).map λs=> .i::s
   |_=>none
  else none
def qt (P:Program) (t:TypeId):Option (List Kd):=
 match P.underlying t with
 |some (.struct fs)=>if !P.stoodInHeld t&& !P.eqGuardType P.depth t then iy P 0 fs.toList else none
 |_=>none
def pU:BinOp->Option Bool
 | .eql=>some false
 | .neq=>some true
 |_=>none
def Hx:Operand->Bool
 | .const .nilIface=>true
 |_=>false
def sK (pl:List (Nat×Nat)):List Nat->List O->Option (List (Nat×Nat×O))
 |j::js,x::xs=>(pl[j]?).bind λp=>(sK pl js xs).map λr=>(p.1,p.2,x)::r
 |[],[]=>some []
 |_,_=>none
def Wh (P:Program) (xt:TypeId):Bool:=match P.underlying xt with|some .string|some (.slice _)=>true|_=>false
def dE (P:Program) (f:Nat):Bool:=(P.funcs[f]?).any (fun fn=>fn.body.isSome&&fn.name != "runtime.NumGoroutine")
def Hy:Operand->Bool
 | .const (.slice none 0 0)=>true
 |_=>false
def N9 (P:Program) (G:Nat->Option (List IV)) (o:Oper):Option ju:=
 match o.op with
 | .move x| .assign x=>(co G x).map .ea
 | .pick c a b=>(co G c).bind λc=>(co G a).bind λa=>(co G b).map λb=> .pick c a b
 | .fieldAddr t x f=>
  match P.underlying t with
  |some (.struct fs)=>fs[f]?.bind λfd=>(Be P fd.type).bind λs=>if s=0 then none else(co G x).map λx=> .Va x fd.offset
  |_=>none
 | .indexAddr t x i=>
  match P.underlying t with
  |some (.slice e)=>(Be P e).bind λs=>(co G x).bind λx=>(co G i).map λi=> .ZV x i s
  |some (.array n e)=>(Be P e).bind λs=>(co G x).bind λx=>(co G i).map λi=> .ixp x i n s
  |_=>none
 | .index t x i=>
  match P.underlying t with
  |some .string=>(co G x).bind λx=>(co G i).map λi=> .ixs x i
  |_=>none
 | .slice t x lo hi mx=>
  match P.underlying t with
  |some (.slice e)=>(Be P e).bind λs=>(co G x).bind λx=>(iW G lo).bind λlo=>(iW G hi).bind λhi=>(iW G mx).map λmx=> .Bd x lo hi mx s
  |some .string=>if mx.isSome then none else(co G x).bind λx=>(iW G lo).bind λlo=>(iW G hi).map λhi=> .Ls x lo hi
  |some (.array n e)=>if lo.isNone&&hi.isNone&&mx.isNone then(Be P e).bind λs=>if s=0 then none else(co G x).map λx=> .N4 x n s else none
  |_=>none
 | .makeSlice t n c=>
  match P.underlying t with
  |some (.slice e)=>match P.info? e with
   |some i=>match i.zero with
    |some z=>if z.cells.size=i.size/\0<i.size/\0<i.bytes then(y7 z.cells.toList).bind λzs=>(co G n).bind λn=>(co G c).map λc=> .RZ n c i.size i.bytes zs else none
    |none=>none
   |none=>none
  |_=>none
 | .binOp op t x y _=>
  match P.underlying t with
  |some (.int _)|some .string=>(co G x).bind λx=>(co G y).map λy=> .bin op x y
  |some .bool=>(pU op).bind λn=>(co G x).bind λx=>(co G y).map λy=> .eqb n x y
  |some (.pointer _)=>(pU op).bind λn=>(co G x).bind λx=>(co G y).map λy=> .eqp n x y
  |some (.interface _)=>if Hx y then(pU op).bind λn=>(co G x).bind λx=>(co G y).map λy=> .eqi n x y else none
  |some (.struct _)=>(qt P t).bind λks=>(pU op).bind λn=>(co G x).bind λx=>(co G y).map λy=> .N1 n ks x y
  |some (.slice _)=>if Hy y then(pU op).bind λn=>(co G x).map λx=> .ZY n x else none
  |_=>none
 | .unOp .not _ x=>(co G x).map .not
 | .extract x i=>(co G x).map λx=> .ext x i
 | .nilCheck x=>(co G x).map .N2
 | .box _ x=>(co G x).map .box
 | .makeFunc (.func f) first cap=>if first.isEmpty then(cos G cap.toList).map λc=> .ZX f c else(cos G first.toList).bind λq=>(cos G cap.toList).map λc=> .ZZ f q c
 | .load t x=>(Sr P t).bind λm=>(co G x).map λx=> .load m x
 | .alloc t=>match P.info? t with
  |some i=>match i.zero with
   |some z=>if z.cells.size=i.size then(y7 z.cells.toList).map .new else none
   |none=>none
  |none=>none
 | .store t x y=>(Be P t).bind λs=>(co G x).bind λx=>(co G y).map λy=> .store s x y
 | .convert s d x=>
  match P.underlying s,P.underlying d with
  |some (.int _),some (.int k)=>(co G x).map λx=> .cvi k x
  |some .string,some (.slice e)=>match P.underlying e with
   |some (.int .u8)=>(co G x).map .cvb
   |_=>none
  |some (.slice e),some .string=>match P.underlying e with
   |some (.int .u8)=>(co G x).map .cvt
   |_=>none
  |_,_=>none
 | .lookup t x i ok=>if ok then none else match P.underlying t with
  |some (.map k e)=>match P.underlying k,(P.info? e).bind (·.zero) with
   |some (.int _),some (.string z)=>if z.data.toList=[] then(co G x).bind λx=>(co G i).map λi=> .N5 x i else none
   |_,_=>none
  |_=>none
 | .buildSlice t n ps=>
  match P.underlying t with
  |some (.slice e)=>match P.info? e with
   |some i=>match i.zero with
    |some z=>if z.cells.size=i.size/\0<i.size/\n*i.size<=2^24 then(y7 z.cells.toList).bind λzs=>(cos G (ps.toList.map (·.2))).map λxs=> .lits n i.size zs ((ps.toList.map (·.1)).zip xs) else none
    |none=>none
   |none=>none
  |_=>none
 | .build t ps=>
  match P.info? t,P.underlying t with
  |some it,some (.struct fields)=>match it.zero,fields.toList.mapM (λf=>(P.info? f.type).map λi=>(f.offset,i.size)) with
   |some z,some places=>(y7 z.cells.toList).bind λzs=>(cos G (ps.toList.map (·.2))).bind λxs=>(sK places (ps.toList.map (·.1)) xs).map λqs=> .ZW zs qs
   |_,_=>none
  |_,_=>none
 | .call c=>
  match c.callee with
  | .builtin .len=>match c.args.toList,c.argTypes[0]?.bind P.underlying with
   |[x],some .string=>(co G x).map .lens
   |[x],some (.slice _)=>(co G x).map .len
   |_,_=>none
  | .builtin .max=>match c.args.toList with
   |[x,y]=>(co G x).bind λx=>(co G y).map λy=> .max x y
   |_=>none
  | .builtin .min=>match c.args.toList with
   |[x,y]=>(co G x).bind λx=>(co G y).map λy=> .min x y
   |_=>none
  | .builtin .append=>match c.args.toList,c.argTypes.toList with
   |[s,x],[st,xt]=>match P.underlying st with
    |some (.slice e)=>match P.info? e with
     |some i=>if(i.zero.map (·.cells.size))==some i.size&&decide (0<i.size)&&Wh P xt then
      (co G s).bind λs=>(co G x).map λx=> .app s x i.size i.bytes else match P.underlying xt,i.zero with
       |some (.int _),some z=>if z.cells.size=i.size/\0<i.size/\0<i.bytes then(y7 z.cells.toList).bind λzs=>(co G s).bind λs=>(co G x).map λx=> .Hu s x i.size i.bytes zs else none
       |_,_=>none
     |none=>none
    |_=>none
   |_,_=>none
  | .builtin .cap=>match c.args.toList,c.argTypes[0]?.bind P.underlying with
   |[x],some (.slice _)=>(co G x).map .cap
   |_,_=>none
  | .builtin .copy=>match c.args.toList,c.argTypes.toList with
   |[d,x],[dt,_]=>match P.underlying dt with
    |some (.slice e)=>(Be P e).bind λs=>if s=0 then none else(co G d).bind λd=>(co G x).map λx=> .Hi d x s
    |_=>none
   |_,_=>none
  | .builtin .clear=>match c.args.toList,c.argTypes[0]?.bind P.underlying with
   |[x],some (.slice e)=>match P.info? e with
    |some i=>match i.zero with
     |some z=>if z.cells.size=i.size/\0<i.size then(y7 z.cells.toList).bind λzs=>(co G x).map λx=> .N3 x i.size zs else none
     |none=>none
    |none=>none
   |_,_=>none
  | .builtin _=>none
  | .invoke _ _=>none
  | .value (.func f)=>if dE P f then(cos G c.args.toList).map λxs=> .call f xs else(cos G c.args.toList).map λxs=> .y6 f xs
  | .value f=>(co G f).bind λy=>(cos G c.args.toList).map λxs=> .qq y xs
 |_=>none
def comp (P:Program) (G:Nat->Option (List IV)) (o:Oper):Option ju:=match N9 P G o with
 |some i=>some i
 |none=>some .stuck
open Classical in
noncomputable def iz (env:Env) (o:Option O) (adA mx:Nat):Option Nat:=
 match o with
 |none=>some adA
 |some x=>match ev env x with
  | .int _ v=>if 0≤v∧v.toNat≤mx then some v.toNat else none
  |_=>none
def Flt (xs:List IV):Prop:=∀y∈xs,∀z∈y.cells,∀cs,z≠ .agg cs
def dV (sz:Nat) (xs:List IV):Prop:=∀x∈xs,x.cells.length=sz
def fu (op:BinOp) (x y:AV):Option AV:=
 match x,y with
 | .int k a,.int k' b=>if k=k' then match op with
   | .add=>some (.int k (k.wrap (a+b)))
   | .sub=>some (.int k (k.wrap (a - b)))
   | .mul=>some (.int k (k.wrap (a*b)))
   | .quo=>if b=0 then none else some (.int k (k.wrap (a.tdiv b)))
   | .rem=>if b=0 then none else some (.int k (a.tmod b))
   | .eql=>some (.bool (a==b))
   | .neq=>some (.bool (a !=b))
   | .lss=>some (.bool (a<b))
   | .leq=>some (.bool (a<=b))
   | .gtr=>some (.bool (a>b))
   | .geq=>some (.bool (a>=b))
   | .shr=>if 0<=b then some (.int k (a/2^min b.toNat k.bits)) else none
   |_=>none
  else none
 | .str a,.str b=>match op with
   | .add=>if a.length+b.length<=9223372036854775807 then some (.str (a++b)) else none
   | .eql=>some (.bool (a==b))
   | .neq=>some (.bool !(a==b))
   | .lss=>some (.bool (Op.bytesLess a b))
   | .leq=>some (.bool (Op.bytesLess a b||a==b))
   | .gtr=>some (.bool !(Op.bytesLess a b||a==b))
   | .geq=>some (.bool !(Op.bytesLess a b))
   |_=>none
 |_,_=>none
def eq1:Kd->AV->AV->Option Bool
 | .b,.bool a,.bool b=>some (a==b)
 | .i,.int k a,.int k' b=>if k=k' then some (a==b) else none
 | .s,.str a,.str b=>some (a==b)
 |_,_,_=>none
def eqs:List Kd->List AV->List AV->Option Bool
 |[],[],[]=>some true
 |k::ks,x::r,y::s=>(eq1 k x y).bind λa=>(eqs ks r s).map λb=>a&&b
 |_,_,_=>none
def JH:AV->AV->Option Bool
 | .mT,.mT=>some true
 | .mT,.ptr ..=>some false
 | .mT,.lptr ..=>some false
 | .ptr ..,.mT=>some false
 | .lptr ..,.mT=>some false
 |_,_=>none
noncomputable def nG (env:Env) (lo hi mx:Option O) (n:Nat):Option (Nat×Nat×Option Nat):=
 match mx with
 |none=>(iz env hi n n).bind λh=>(iz env lo 0 h).map λl=>(l,h,none)
 |some m=>if hi.isNone then none else(iz env (some m) 0 n).bind λm=>(iz env hi 0 m).bind λh=>(iz env lo 0 h).map λl=>(l,h,some m)
noncomputable def sG (env:Env) (lo hi mx:Option O) (n c:Nat):Option (Nat×Nat×Option Nat):=
 match mx with
 |none=>(iz env hi n c).bind λh=>(iz env lo 0 h).map λl=>(l,h,none)
 |some m=>if hi.isNone then none else(iz env (some m) 0 c).bind λm=>(iz env hi 0 m).bind λh=>(iz env lo 0 h).map λl=>(l,h,some m)
open Classical in
noncomputable def nH (env:Env) (x:AV) (lo hi mx:Option O) (sz:Nat):Option AV:=
 match x with
 | .nil0=>(nG env lo hi mx 0).map fun _=> .nil0
 | .list xs=>if dV sz xs then(nG env lo hi mx xs.length).map fun b=>if b.2.2=some b.1 then .nil0 else .list ((xs.take b.2.1).drop b.1) else none
 | .sl lb s i n=>if s=sz then(nG env lo hi mx n).bind fun b=>if b.2.2.isSome then none else some (.sl lb s (i+b.1) (b.2.1 - b.1)) else none
 | .slk lb s i n c=>if s=sz then(sG env lo hi mx n c).bind fun b=>if b.2.2.isSome then some .any else some (.slk lb s (i+b.1) (b.2.1 - b.1) (c - b.1)) else none
 |_=>none
def AV.one:AV->Bool
 | .any| .un| .agg _| .bq _=>false
 |_=>true
def AV.Bq:AV->Bool
 | .agg cs=>cs.all AV.one
 |x=>x.one
def gF:List AV->List (Nat×Nat×AV)->Option (List AV)
 |cs,[]=>some cs
 |cs,(off,sz,x)::r=>if x.Bq=true/\x.cells.length=sz/\off+sz<=cs.length then gF (cs.take off++x.cells++cs.drop (off+sz)) r else none
def Vd:List IV->IV
 |[y]=>y
 |ys=> .agg ys
def chunks (sz:Nat):Nat->List IV->List IV
 |0,_=>[]
 |n+1,ys=>Vd (ys.take sz)::chunks sz n (ys.drop sz)
def qu:List IV->Option (List UInt8)
 |[]=>some []
 | .int .u8 n::r=>(qu r).map (UInt8.ofNat n.toNat::·)
 |_=>none
def Hz:AV->Option AV
 | .list xs=>(qu xs).map .str
 | .nil0=>some (.str [])
 |_=>none
open Classical in
noncomputable def aw (i:ju) (env:Env):Option AV:=
 match i with
 | .ea x=>some (ev env x)
 | .pick c a b=>match ev env c with
  | .bool t=>some (if t then ev env a else ev env b)
  |_=>none
 | .Va a off=>match ev env a with
  | .ptr l sz i j=>some (.ptr l sz i (j+off))
  | .lptr cs=>some (.lptr (cs.drop off))
  |_=>none
 | .ZV x i sz=>match ev env x,ev env i with
  | .list xs,.int _ n=>if 0<=n then match xs[n.toNat]? with
    |some y=>if dV sz xs then some (.lptr y.cells) else none
    |none=>none
   else none
  | .sl l s i0 m,.int _ n=>if 0<=n/\n.toNat<m/\s=sz then some (.ptr l s (i0+n.toNat) 0) else none
  |_,_=>none
 | .ixs x i=>match ev env x,ev env i with
  | .str s,.int _ n=>if 0<=n then match s[n.toNat]? with
    |some c=>some (.int .u8 c.toNat)
    |none=>none
   else none
  |_,_=>none
 | .lens x=>match ev env x with
  | .str s=>some (.int .i64 s.length)
  |_=>none
 | .len x=>match ev env x with
  | .list xs=>some (.int .i64 xs.length)
  | .nil0=>some (.int .i64 0)
  | .sl _ _ _ n=>some (.int .i64 n)
  | .slk _ _ _ n _=>some (.int .i64 n)
  |_=>none
 | .Bd x lo hi mx sz=>nH env (ev env x) lo hi mx sz
 | .Ls x lo hi=>match ev env x with
  | .str s=>(iz env hi s.length s.length).bind λh=>(iz env lo 0 h).map λl=> .str ((s.take h).drop l)
  |_=>none
 | .bin op x y=>fu op (ev env x) (ev env y)
 | .eqb neg x y=>match ev env x,ev env y with
  | .bool a,.bool b=>some (.bool (neg ^^ (a==b)))
  |_,_=>none
 | .eqp neg x y=>(JH (ev env x) (ev env y)).map λb=> .bool (neg ^^ b)
 | .eqi neg x _=>match ev env x with
  | .jS=>some (.bool (neg ^^ true))
  | .ifc _ _=>some (.bool (neg ^^ false))
  |_=>none
 | .N1 neg ks x y=>match ev env x,ev env y with
  | .agg xs,.agg ys=>(eqs ks xs ys).map λb=> .bool (neg ^^ b)
  |_,_=>none
 | .not x=>match ev env x with
  | .bool b=>some (.bool !b)
  |_=>none
 | .max x y=>match ev env x,ev env y with
  | .int k a,.int k' b=>if k=k' then some (.int k (if b>a then b else a)) else none
  |_,_=>none
 | .min x y=>match ev env x,ev env y with
  | .int k a,.int k' b=>if k=k' then some (.int k (if b<a then b else a)) else none
  |_,_=>none
 | .ext x i=>match ev env x with
  | .bq cs=>cs[i]?
  |_=>none
 | .N2 x=>match ev env x with
  | .ptr l sz i j=>some (.ptr l sz i j)
  | .lptr cs=>some (.lptr cs)
  | .fn f a b=>some (.fn f a b)
  |_=>none
 | .ZX f cap=>some (.fn f [] (cap.map (ev env)))
 | .ZZ f q cap=>some (.fn f (q.map (ev env)) (cap.map (ev env)))
 | .cvi k x=>match ev env x with
  | .int _ n=>some (.int k (k.wrap n))
  |_=>none
 | .ZW z ps=>(gF z (ps.map λp=>(p.1,p.2.1,ev env p.2.2))).map .agg
 | .lits n sz z ps=>if sz*n=0 then(if n=0/\ps.isEmpty=true then some .nil0 else none) else(gF ((List.replicate n z).flatten) (ps.map λp=>(p.1*sz,sz,ev env p.2))).bind λcs=>(Hw cs).map λys=>
   .list (chunks sz n ys)
 | .load m a=>match ev env a with
  | .lptr cs=>match m with
   |none=>cs[0]?.map IV.dw
   |some k=>if k<=cs.length then some (.agg ((cs.take k).map IV.dw)) else none
  |_=>none
 | .cvb x=>match ev env x with
  | .str s=>if s.length<=140737488355328 then some (.list (s.map λc=> .int .u8 c.toNat)) else none
  |_=>none
 | .cvt x=>Hz (ev env x)
 | .ixp x i n sz=>match ev env x,ev env i with
  | .ptr l s a j,.int _ m=>if 0<=m/\m.toNat<n then some (.ptr l s a (j+m.toNat*sz)) else none
  | .lptr cs,.int _ m=>if 0<=m/\m.toNat<n then some (.lptr (cs.drop (m.toNat*sz))) else none
  |_,_=>none
 | .N4 x n sz=>match ev env x with
  | .lptr cs=>if cs.length=n*sz/\n<=maxLen/\(∀y∈cs,y.cells=[y]) then some (.list (chunks sz n cs)) else none
  |_=>none
 | .Ht s x sz bytes=>match ev env s,ev env x with
  | .nil0,.list xs=>if dV sz xs/\Flt xs/\xs.length*bytes<=140737488355328/\0<bytes/\0<sz then some (.list xs) else none
  | .nil0,.nil0=>if 0<sz then some (.list []) else none
  |_,_=>none
 | .Lt es=>some (.mis es)
 | .N5 x i=>match ev env x,ev env i with
  | .mis es,.int .i64 n=>some (.str ((es.lookup n).getD []))
  |_,_=>none
 |_=>none
end Go.Am

namespace Go.Am
open Go Go.RowKit
def a7 (K:Kx) (β:Lb->Option Nat) (H:Hp) (a:Act) (w:World) (o:Oper) (x:AV):Prop:=
 ∃v w',(execOp a.eval o).run K.P w= .ok (.value v) w'/\oB w w'/\RV w' β H (Im K β H) x v/\∀l∈x.aq,H l≠ .unused
theorem a7.same {K:Kx} {β:Lb->Option Nat} {H:Hp} {a:Act} {w:World} {o:Oper} {x:AV} {v:Value} (h:(execOp a.eval o).run K.P w= .ok (.value v) w)
 (hv:RV w β H (Im K β H) x v) (hm:∀l∈x.aq,H l≠ .unused):a7 K β H a w o x:=⟨v,w,h,Below.refl _ _,hv,hm⟩
section
variable {K:Kx} {β:Lb->Option Nat} {env:Env} {H:Hp} {a:Act} {w:World}
def Ve (hr:aO K β env H a w) {o:Oper} {x:Operand} {y:O} (ho:o.op= .move x\/o.op= .assign x) (hy:co K.G x=some y):a7 K β H a w o (ev env y):=by
 refine a7.same (v:=a.eval x) ?_ (hr.ev hy) (hr.jG hy);rcases ho with ho|ho<;>simp[execOp,ho]
def Wi (hr:aO K β env H a w) {o:Oper} {c x y:Operand} {c' x' y':O} (ho:o.op= .pick c x y) (hc:co K.G c=some c') (hx:co K.G x=some x') (hy:co K.G y=some y')
  {t:Bool} (ht:ev env c'= .bool t):a7 K β H a w o (if t then ev env x' else ev env y'):=by
 have h:=hr.ev hc;rw[ht] at h;simp only[RV] at h;refine a7.same (v:=if t then a.eval x else a.eval y) ?_ ?_ ?_
 ·cases t<;>simp[execOp,ho,h,asBool]
 ·cases t
  ·simpa using hr.ev hy
  simpa using hr.ev hx
 cases t
 ·simpa using hr.jG hy
 simpa using hr.jG hx
theorem addr_add (g off n:Nat):(⟨g,off,none⟩:Addr).add n=⟨g,off+n,none⟩:=by
 unfold Addr.add;split<;>simp_all
def dy {P:Program} {t:TypeId} {s:Nat} (h:Be P t=some s) (w:World):(sizeOf t).run P w= .ok s w:=by
 unfold Be at h;obtain⟨i,h1,h2⟩:=acF.1 h;simp[sizeOf,typeInfo,h1,h2]
theorem nO {w:World} {I:Nat->Prop}:∀(n:Nat) (cs:List IV) (b o:Nat),b7 w I cs b o->b7 w I (cs.drop n) b (o+n)
 |0,cs,b,o,h=>by simpa using h
 |n+1,[],b,o,_=>by simp[b7]
 |n+1,x::r,b,o,h=>by
  simp only[b7] at h;have:=nO n r b (o+1) h.2
  grind
def aal (hr:aO K β env H a w) {o:Oper} {t:TypeId} {x:Operand} {f:Nat} {fs:Array Field} {fd:Field} {s:Nat} {x':O} (ho:o.op= .fieldAddr t x f)
  (ht:K.P.underlying t=some (.struct fs)) (hf:fs[f]?=some fd) (hs:Be K.P fd.type=some s) (R0:s≠0) (hx:co K.G x=some x') {y:AV}
  (hy:aw (.Va x' fd.offset) env=some y):a7 K β H a w o y:=by
 have h:=hr.ev hx;have hm:=hr.jG hx;have run:∀ad:Addr,a.eval x= .pointer (some ad)->(execOp a.eval o).run K.P w= .ok (.value (.pointer (some (ad.add fd.offset)))) w:=λad had=>by
  simp[execOp,ho,had,Instr.fieldAt,run_underlying ht,hf,Instr.sureAddr,fieldPlace,dy hs,R0]
 simp only[aw] at hy;split at hy<;>simp at hy<;>subst hy<;>rename_i heq
 ·grind [RV,a7.same,AV.aq,addr_add]
 rw[heq] at h;obtain⟨b,o',h1,h2,h3,h4⟩:=h;refine a7.same (run _ h1) ?_ ajP;rw[addr_add];exact⟨b,_,rfl,h2,h3,nO _ _ _ _ h4⟩
theorem BW {w:World} {I:Nat->Prop} {sz:Nat}:∀(k:Nat) (xs:List IV) (b o:Nat) (y:IV),xs[k]?=some y->cd w I xs b o sz->kt w I y b (o+k*sz) sz
 |0,[],_,_,_,h,_=>by simp at h
 |0,x::r,b,o,y,h,he=>by
  grind [cd]
 |k+1,[],_,_,_,h,_=>by simp at h
 |k+1,x::r,b,o,y,h,he=>by
  simp only[cd] at he;have:=BW k r b (o+sz) y ajV he.2
  rwa[show o+sz+k*sz=o+(k+1)*sz by rw[ag0];omega] at this
def run_indexAt_slice {P:Program} {w:World} {t e:TypeId} {s:Nat} (ht:P.underlying t=some (.slice e)) (hs:Be P e=some s) (ad:Addr) (n c:Nat) (k:IntKind) (i:Int) (h0:0<=i) (hi:i.toNat<n) :
  (Instr.indexAt t (.slice (some ad) n c) (.int k i)).run P w= .ok (.pointer (some (ad.add (i.toNat*s)))) w:=by
 have:i<(n:Int):=ajK
 simp[Instr.indexAt,asIntOf,run_underlying ht,dy hs,h0,this]
def aam (hr:aO K β env H a w) {o:Oper} {t e:TypeId} {x i:Operand} {n s:Nat} {x' i':O} (ho:o.op= .indexAddr t x i)
  (ht:K.P.underlying t=some (.array n e)) (hs:Be K.P e=some s) (hx:co K.G x=some x') (hi:co K.G i=some i') {y:AV}
  (hy:aw (.ixp x' i' n s) env=some y):a7 K β H a w o y:=by
 have h:=hr.ev hx;have h2:=hr.ev hi;have hm:=hr.jG hx;have run:∀(ad:Addr) (k:IntKind) (m:Int),a.eval x= .pointer (some ad)->a.eval i= .int k m->0<=m->m.toNat<n->(execOp a.eval o).run K.P w= .ok (.value (.pointer (some (ad.add (m.toNat*s))))) w:=λad k m had qe h0 aF=>by
  have hmn:m<(n:Int):=ajK
  simp[execOp,ho,had,qe,Instr.indexAt,asIntOf,run_underlying ht,Instr.sureAddr,dy hs,h0,hmn]
 simp only[aw] at hy;split at hy
 ·grind [RV,iM,a7.same,AV.aq,addr_add]
 ·rename_i cs k m e1 e2;rw[e1] at h;rw[e2] at h2;split at hy
  ·rename_i hn;simp at hy;subst hy;obtain⟨b,o',h3,h4,h5,h6⟩:=h;refine a7.same (run _ k m h3 h2 hn.1 hn.2) ?_ ajP;rw[addr_add];exact⟨b,_,rfl,h4,h5,nO _ _ _ _ h6⟩
  grind
 grind
def aan (hr:aO K β env H a w) {o:Oper} {t e:TypeId} {x i:Operand} {s:Nat} {x' i':O} (ho:o.op= .indexAddr t x i)
  (ht:K.P.underlying t=some (.slice e)) (hs:Be K.P e=some s) (hx:co K.G x=some x') (hi:co K.G i=some i') {y:AV}
  (hy:aw (.ZV x' i' s) env=some y):a7 K β H a w o y:=by
 have h:=hr.ev hx;have h2:=hr.ev hi;have hm:=hr.jG hx;simp only[aw] at hy;split at hy
 ·rename_i xs k n e1 e2;rw[e1] at h;rw[e2] at h2;simp[RV,iM] at h h2;split at hy
  ·rename_i hn;split at hy
   ·rename_i z hz;split at hy
    ·rename_i j5;simp at hy;subst hy;obtain⟨ad,c,h3,h4,h5,h6⟩:=h;have aF:n.toNat<xs.length:=(afY.1 hz).1;rcases h6 with h6|⟨b,of,sz,rfl,h7,h8,h9,JI⟩
     ·omega
     have Wj:=BW n.toNat xs b of z hz JI;rw[hQ] at Wj;have hz':sz=s:=(by rw[Wj.1];exact j5 z (af3 hz));subst hz';refine a7.same (v:= .pointer (some ⟨b,of+n.toNat*sz,none⟩)) ?_ ⟨b,_,rfl,h7,h8,Wj.2⟩ ajP;simp[execOp,ho,h3,h2,run_indexAt_slice ht hs _ _ _ _ _ hn aF,addr_add]
    grind
   grind
  grind
 ·rename_i l s' i0 m k n e1 e2;rw[e1] at h hm;rw[e2] at h2;simp only[RV] at h h2;split at hy
  ·rename_i hn;obtain⟨ov,JJ,rfl⟩:=hn;simp at hy;subst hy;obtain⟨ad,c,h3,h4,h5,h6,h7⟩:=h;obtain⟨ad',rfl⟩:=ahS.1 (h6 ajK);refine a7.same (v:= .pointer (some (ad'.add (n.toNat*s')))) ?_ ?_ amx
   ·simp[execOp,ho,h3,h2,run_indexAt_slice ht hs _ _ _ _ _ ov JJ]
   refine⟨_,rfl,λhl=> ?_⟩;rcases h7 hl with h8|⟨g,S,k1,k2,k3,k4⟩
   ·omega
   grind [addr_add]
  grind
 grind
def aao (hr:aO K β env H a w) {o:Oper} {t:TypeId} {x i:Operand} {x' i':O} (ho:o.op= .index t x i)
  (ht:K.P.underlying t=some .string) (hx:co K.G x=some x') (hi:co K.G i=some i') {y:AV}
  (hy:aw (.ixs x' i') env=some y):a7 K β H a w o y:=by
 have h:=hr.ev hx;have h2:=hr.ev hi;simp only[aw] at hy;split at hy
 ·rename_i s k n e1 e2;rw[e1] at h;rw[e2] at h2;simp only[RV] at h h2;split at hy
  ·rename_i hn;split at hy
   ·rename_i c hc;simp at hy;subst hy;have aF:n.toNat<s.length:=(afY.1 hc).1;refine a7.same (v:= .int .u8 c.toNat) ?_ ake ajP;have Lu:(⟨s.toArray⟩:ByteArray)[n.toNat]?=some c:=by
     have e:s[n.toNat]=c:=(afY.1 hc).2;have hs:n.toNat<(⟨s.toArray⟩:ByteArray).size:=(by show n.toNat<s.toArray.size;simpa using aF);rw[getElem?_pos (⟨s.toArray⟩:ByteArray) n.toNat hs];exact ahp some e
    simp[execOp,ho,h,h2,Instr.index,asIntOf,run_underlying ht,hn,Lu]
   grind
  grind
 grind
def qv (s:List UInt8):(⟨s.toArray⟩:ByteArray).size=s.length:=by show s.toArray.size=_;simp
def Wl (hr:aO K β env H a w) {o:Oper} {c:Call} {x:Operand} {x':O} (ho:o.op= .call c) (hc:c.callee= .builtin .len) (ha:c.args.toList=[x])
  (ht:c.argTypes[0]?.bind K.P.underlying=some .string) (hx:co K.G x=some x') {y:AV} (hy:aw (.lens x') env=some y):a7 K β H a w o y:=by
 have h:=hr.ev hx;obtain⟨t,yh,C5⟩:=afX.1 ht;have Br:c.args=#[x]:=ajV
 simp only[aw] at hy;split at hy
 ·rename_i s hs;rw[hs] at h;simp[RV,afZ] at h hy;subst hy;refine a7.same (v:= .int .i64 s.length) ?_ ake ajP;simp[execOp,ho,resolve,hc,Br,h,invoke,builtin,Builtin.len_,yh,run_underlying C5,goInt,qv]
 grind
def aap (hr:aO K β env H a w) {o:Oper} {c:Call} {x:Operand} {x':O} {e:TypeId} (ho:o.op= .call c) (hc:c.callee= .builtin .len) (ha:c.args.toList=[x])
  (ht:c.argTypes[0]?.bind K.P.underlying=some (.slice e)) (hx:co K.G x=some x') {y:AV} (hy:aw (.len x') env=some y):a7 K β H a w o y:=by
 have h:=hr.ev hx;obtain⟨t,yh,C5⟩:=afX.1 ht;have Br:c.args=#[x]:=ajV
 have sl:∀(ad:Option Addr) (n c':Nat),a.eval x= .slice ad n c'->(execOp a.eval o).run K.P w= .ok (.value (.int .i64 n)) w:=by
  intro ad n c' hv;simp[execOp,ho,resolve,hc,Br,hv,invoke,builtin,Builtin.len_,yh,run_underlying C5,goInt]
 simp only[aw] at hy;split at hy
 ·rename_i xs hs;rw[hs] at h;simp at h hy;subst hy;obtain⟨ad,c',h3,h4⟩:=h
  grind [a7.same,RV,AV.aq]
 ·grind [RV,a7.same,AV.aq]
 ·grind [RV,a7.same,AV.aq]
 ·grind [RV,a7.same,AV.aq]
 grind
def yi (op:BinOp) (t:TypeId) (x y:Operand) (k k':IntKind) (m n:Int) {P:Program} {w:World}:(eqGuard op t x y (.int k m) (.int k' n)).run P w= .ok () w:=by
 cases op<;>simp[eqGuard]
def yj (op:BinOp) (t:TypeId) (x y:Operand) (m n:ByteArray) {P:Program} {w:World}:(eqGuard op t x y (.string m) (.string n)).run P w= .ok () w:=by
 cases op<;>simp[eqGuard]
def aaq (hr:aO K β env H a w) {o:Oper} {op:BinOp} {t t2:TypeId} {x y:Operand} {x' y':O} (ho:o.op= .binOp op t x y t2)
  (hx:co K.G x=some x') (hy:co K.G y=some y') {z:AV} (hz:aw (.bin op x' y') env=some z):a7 K β H a w o z:=by
 have h:=hr.ev hx;have h2:=hr.ev hy;simp[aw,fu] at hz;split at hz
 ·rename_i k m k' n e1 e2;rw[e1] at h;rw[e2] at h2;simp only[RV] at h h2;split at hz
  ·rename_i hk;subst hk;have key:∀v,(binOp op t (.int k m) (.int k n)).run K.P w= .ok v w->RV w β H (Im K β H) z v->z.aq=[]->a7 K β H a w o z:=by
    intro v hv NM hl;refine a7.same (v:=v) ?_ NM ajV;simp[execOp,ho,h,h2,yi,hv]
   cases op<;>simp only[afZ,reduceCtorEq] at hz
   case quo=>
    split at hz
    ·simp at hz
    rename_i hn;simp at hz;subst hz;exact key (.int k (k.wrap (m.tdiv n))) (by simp[binOp,Op.intDiv,hn]) ake ajP
   case rem=>
    split at hz
    ·simp at hz
    rename_i hn;simp at hz;subst hz;exact key (.int k (m.tmod n)) (by simp[binOp,Op.intDiv,hn]) ake ajP
   case shr=>
    split at hz
    ·rename_i hn;simp at hz;subst hz;exact key (.int k (m/2^min n.toNat k.bits)) (by rw[binOp_shr,shift_shr_any k k m n hn];rfl) ake ajP
    simp at hz
   all_goals (subst hz;refine key _ (by simp[binOp,Op.intCmp];rfl) ake ajP)
  grind
 ·rename_i s u e1 e2;rw[e1] at h;rw[e2] at h2;simp only[RV] at h h2;have key:∀v,(binOp op t (.string ⟨s.toArray⟩) (.string ⟨u.toArray⟩)).run K.P w= .ok v w->RV w β H (Im K β H) z v->z.aq=[]->a7 K β H a w o z:=by
   intro v hv NM hl;refine a7.same (v:=v) ?_ NM ajV;simp[execOp,ho,h,h2,yj,hv]
  cases op<;>simp only[afZ,reduceCtorEq] at hz
  case add=>
   split at hz
   ·rename_i hn;simp at hz;subst hz;refine key (.string ⟨(s++u).toArray⟩) ?_ ake ajP;have h1:¬((((⟨s.toArray⟩:ByteArray).size+(⟨u.toArray⟩:ByteArray).size:Nat):Int)>IntKind.i64.max):=by
     rw[qv,qv];simp;omega
    have h3:(⟨s.toArray⟩:ByteArray)++⟨u.toArray⟩=⟨(s++u).toArray⟩:=by
     rfl
    simp only[binOp,Op.stringOp,h1,agk,h3,Sem.run_pure]
   simp at hz
  all_goals (subst hz;refine key _ (by simp[binOp,Op.stringOp];rfl) ake ajP)
 grind
theorem y8 (kd:IntKind) (n:Int):∀(l:List MapEntry) (es:List (Int×List UInt8)) (i:Nat),(l.map λe=>(e.key,e.val))=(es.map λp=>(Value.int .i64 p.1,Value.string ⟨p.2.toArray⟩)) ->
  (es.lookup n=none/\Instr.findNow (.int kd) (.int .i64 n) l i=some none)\/∃j s,es.lookup n=some s/\Instr.findNow (.int kd) (.int .i64 n) l i=some (some (j,.string ⟨s.toArray⟩))
 |[],[],i,_=> .inl ⟨rfl,rfl⟩
 |[],_::_,_,h=>by simp at h
 |_::_,[],_,h=>by simp at h
 |e::l,p::es,i,h=>by
  simp at h;obtain⟨⟨h1,h2⟩,h3⟩:=h;by_cases hp:n=p.1
  ·refine .inr ⟨i,p.2,?_,?_⟩
   ·grind
   simp[Instr.findNow,Instr.sameNow,h1,h2,hp]
  have e1:(n==p.1)=false:=ajV
  rcases y8 kd n l es (i+1) h3 with⟨g1,g2⟩|⟨j,s,g1,g2⟩
  ·exact .inl ⟨by simp[List.lookup,e1,g1],al8⟩
  exact .inr ⟨j,s,by simp[List.lookup,e1,g1],al8⟩
def pk {P:Program} {w:World} {t:TypeId} {kd k:IntKind} {n:Int} (h:P.underlying t=some (.int kd)) (e:Bool) (m:Nat):(Instr.checkKey e (m+1) t (.int k n)).run P w= .ok () w:=by
 unfold Instr.checkKey;simp only[Sem.run_bind,run_underlying h];simp
def Wm (hr:aO K β env H a w) {o:Oper} {t k e:TypeId} {x i:Operand} {kd:IntKind} {z:ByteArray} {x' i':O} {ok:Bool} (ho:o.op= .lookup t x i ok) (kn:¬ok=true) (ht:K.P.underlying t=some (.map k e))
  (hk:K.P.underlying k=some (.int kd)) (hz:(K.P.info? e).bind (·.zero)=some (.string z)) (hze:z.data.toList=[]) (hx:co K.G x=some x') (hi:co K.G i=some i') {y:AV}
  (hy:aw (.N5 x' i') env=some y):a7 K β H a w o y:=by
 obtain rfl:ok=false:=by simpa using kn
 have h:=hr.ev hx;have h2:=hr.ev hi;simp only[aw] at hy;split at hy
 ·rename_i es n e1 e2;rw[e1] at h;rw[e2] at h2;simp only[RV] at h h2;simp only[afZ] at hy;subst hy;obtain⟨r,xs,c,h3,_,_,h4,h5⟩:=h;obtain⟨q,hq,hqz⟩:=afX.1 hz;have HA:z=⟨(#[]:Array UInt8)⟩:=by cases z with|mk d=>simp at hze;simp[hze]
  rcases y8 kd n xs.toList es 0 h5 with⟨g1,g2⟩|⟨j,s,g1,g2⟩
  ·refine a7.same (v:= .string z) ?_ ?_ ajP
   ·simp[execOp,ho,h3,h2,Instr.lookup,run_underlying ht,run_underlying hk,getObj,Sem.run,h4,pk hk,Instr.findKey,g2,zeroValue,typeInfo,hq,hqz,Result.andThen]
   simp[RV,g1,HA]
  refine a7.same (v:= .string ⟨s.toArray⟩) ?_ ?_ ajP
  ·simp[execOp,ho,h3,h2,Instr.lookup,run_underlying ht,run_underlying hk,getObj,Sem.run,h4,pk hk,Instr.findKey,g2,Result.andThen]
  simp[RV,g1]
 simp at hy

def lf (hr:aO K β env H a w) {lo:Option Operand} {EC:Option O} {d m n:Nat} (hc:iW K.G lo=some EC) (h:iz env EC d m=some n) :
  (lo=none/\EC=none/\n=d)\/∃x k v,lo=some x/\EC.isSome=true/\a.eval x= .int k v/\0<=v/\v.toNat<=m/\n=v.toNat:=by
 cases lo with
 |none=>
  simp[iW] at hc;subst hc;simp[iz] at h;exact .inl ⟨rfl,rfl,h.symm⟩
 |some x=>
 simp only[iW,acF] at hc;obtain⟨y,h1,rfl⟩:=hc;have h2:=hr.ev h1;simp only[iz] at h;split at h
 ·rename_i k v e;rw[e] at h2;simp only[RV] at h2;split at h
  ·rename_i hv;simp only[afZ] at h;exact .inr ⟨x,k,v,rfl,rfl,h2,hv.1,hv.2,h.symm⟩
  simp at h
 simp at h
def run_sliceBound {P:Program} {w:World} {k:IntKind} {v:Int} {y:Nat} (code:BoundsCode) (h0:0<=v) (h1:v.toNat<=y):(Instr.sliceBound (.int k v) y code).run P w= .ok v.toNat w:=by
 have:v<=(y:Int):=ajK
 simp[Instr.sliceBound,asIntOf,h0,this,Result.andThen]
def uq (hr:aO K β env H a w) {lo hi mx:Option Operand} {EC gT mx':Option O} {n c l h:Nat} {m:Option Nat} (JC:iW K.G lo=some EC) (NL:iW K.G hi=some gT)
  (NK:iW K.G mx=some mx') (Wc:n<=c) (hb:nG env EC gT mx' n=some (l,h,m)) :
  (Instr.sliceBounds true n c (lo.map a.eval) (hi.map a.eval) (mx.map a.eval)).run K.P w= .ok (l,h,m.getD c) w/\l<=h/\h<=n/\h<=m.getD c/\m.getD c<=c:=by
 unfold nG at hb;cases mx' with
 |none=>
  simp only[afX,acF,agq] at hb;obtain⟨h',h1,l',h2,rfl,rfl,rfl⟩:=hb;have Wn:mx=none:=by cases mx with
   |none=>rfl
   |some x=>simp[iW] at NK
  subst Wn;rcases lf hr NL h1 with⟨rfl,rfl,rfl⟩|⟨x,k,v,rfl,_,e1,e2,e3,rfl⟩
  ·exact aad
  exact aac
 |some m0=>
 simp only at hb;split at hb
 ·simp at hb
 exact aaa
def N' (hr:aO K β env H a w) {lo hi mx:Option Operand} {EC gT mx':Option O} {n c l h:Nat} {m:Option Nat} (JC:iW K.G lo=some EC) (NL:iW K.G hi=some gT)
  (NK:iW K.G mx=some mx') (Wc:n<=c) (hb:sG env EC gT mx' n c=some (l,h,m)) :
  (Instr.sliceBounds true n c (lo.map a.eval) (hi.map a.eval) (mx.map a.eval)).run K.P w= .ok (l,h,m.getD c) w/\l<=h/\h<=c/\h<=m.getD c/\m.getD c<=c:=by
 unfold sG at hb;cases mx' with
 |none=>
  simp only[afX,acF,agq] at hb;obtain⟨h',h1,l',h2,rfl,rfl,rfl⟩:=hb;have Wn:mx=none:=by cases mx with
   |none=>rfl
   |some x=>simp[iW] at NK
  subst Wn;rcases lf hr NL h1 with⟨rfl,rfl,rfl⟩|⟨x,k,v,rfl,_,e1,e2,e3,rfl⟩
  ·exact aad
  exact aac
 |some m0=>
 simp only at hb;split at hb
 ·simp at hb
 exact aaa
theorem xo {w:World} {I:Nat->Prop} {sz:Nat}:∀(n:Nat) (xs:List IV) (b o:Nat),cd w I xs b o sz->cd w I (xs.take n) b o sz
 |0,_,_,_,_=>by simp[cd]
 |n+1,[],_,_,_=>by simp[cd]
 |n+1,x::r,b,o,h=>by
  simp only[cd] at h;simp only[ahA,cd];exact⟨h.1,xo n r b (o+sz) h.2⟩
theorem xp {w:World} {I:Nat->Prop} {sz:Nat}:∀(n:Nat) (xs:List IV) (b o:Nat),cd w I xs b o sz->cd w I (xs.drop n) b (o+n*sz) sz
 |0,_,_,_,h=>by simpa using h
 |n+1,[],_,_,_=>by simp[cd]
 |n+1,x::r,b,o,h=>by
  simp only[cd] at h;simp only[ag_];have:=xp n r b (o+sz) h.2
  rwa[show o+sz+n*sz=o+(n+1)*sz by rw[ag0];omega] at this
def BX {w:World} {I:Nat->Prop} {sz s:Nat} {xs:List IV} {b o:Nat} (h:cd w I xs b o sz) (hs:dV s xs) (hn:0<xs.length):sz=s:=by
 cases xs with
 |nil=>simp at hn
 |cons x r=>
 simp only[cd] at h;have:=(hQ w I x b o sz).1 h.1;rw[this.1];exact hs x ajL
def Ss {xs:List IV} {I:Nat->Prop} {ad:Option Addr} {c s l h m:Nat} (j5:dV s xs) (hl:l<=h) (hh:h<=xs.length) (hm:h<=m) (hmc:m<=c) (hc:c<=maxLen)
  (hx:xs.length=0\/∃b o sz,ad=some ⟨b,o,none⟩/\I b/\b<w.heap.size/\0<sz/\cd w I xs b o sz) :
  iM w I (.list ((xs.take h).drop l)) (.slice (if m=l then ad else ad.map (·.add (l*s))) (h - l) (m - l)):=by
 simp only[iM];have hlen:((xs.take h).drop l).length=h - l:=ajY
 refine⟨_,m - l,by rw[hlen],ajK,ajK,?_⟩;rw[hlen];by_cases e:h - l=0
 ·exact .inl e
 right;rcases hx with hx|⟨b,o,sz,rfl,e1,e2,e3,e4⟩
 ·omega
 have j9:sz=s:=BX e4 j5 ajK;subst j9;refine⟨b,o+l*sz,sz,?_,e1,e2,e3,xp _ _ _ _ (xo _ _ _ _ e4)⟩;rw[af8 ajK];simp[addr_add]
def aar (hr:aO K β env H a w) {o:Oper} {t e:TypeId} {x:Operand} {lo hi mx:Option Operand} {s:Nat} {x':O} {EC gT mx':Option O} (ho:o.op= .slice t x lo hi mx)
  (ht:K.P.underlying t=some (.slice e)) (hs:Be K.P e=some s) (hx:co K.G x=some x') (JC:iW K.G lo=some EC) (NL:iW K.G hi=some gT) (NK:iW K.G mx=some mx') {y:AV}
  (hy:aw (.Bd x' EC gT mx' s) env=some y):a7 K β H a w o y:=by
 have hv:=hr.ev hx;have hm:=hr.jG hx;have run:∀(ad:Option Addr) (n c l h m:Nat),a.eval x= .slice ad n c->(Instr.sliceBounds true n c (lo.map a.eval) (hi.map a.eval) (mx.map a.eval)).run K.P w= .ok (l,h,m) w ->
   (execOp a.eval o).run K.P w= .ok (.value (.slice (if m=l then ad else ad.map (·.add (l*s))) (h - l) (m - l))) w:=by
  intro ad n c l h m e1 e2;simp[execOp,ho,Instr.sliceAt,run_underlying ht,Instr.slice,e1,e2,dy hs,Result.andThen]
 simp only[aw,nH] at hy;split at hy
 ·rename_i e1;rw[e1] at hv;simp only[RV] at hv;obtain⟨ad,hv⟩:=hv;simp only[acF] at hy;obtain⟨⟨l,h,m⟩,h1,rfl⟩:=hy;obtain⟨r1,r2,r3,r4,r5⟩:=uq hr JC NL NK (af6 0) h1;refine a7.same (run ad 0 0 l h _ hv r1) ?_ ajP;have z1:h - l=0:=by omega
  have z2:m.getD 0 - l=0:=ajK
  rw[z1,z2];exact⟨_,rfl⟩
 ·rename_i xs e1;rw[e1] at hv;simp only[RV,iM] at hv;split at hy
  ·rename_i j5;obtain⟨ad,c,h3,h4,h5,h6⟩:=hv;simp only[acF] at hy;obtain⟨⟨l,h,m⟩,h1,rfl⟩:=hy;obtain⟨r1,r2,r3,r4,r5⟩:=uq hr JC NL NK h4 h1;refine a7.same (run ad _ c l h _ h3 r1) ?_ (by split<;>simp[AV.aq]);split
   ·rename_i hm';simp only at hm';subst hm';simp only[ahy] at r4 ⊢;have z1:h - l=0:=ajK;rw[z1];simp only[ahc,agn];exact⟨_,rfl⟩
   simp only[RV];exact Ss j5 r2 r3 r4 r5 h5 h6
  simp at hy
 ·rename_i lb s' i n e1;rw[e1] at hv hm;simp only[RV] at hv;split at hy
  ·rename_i hs';subst hs';obtain⟨ad,c,h3,h4,h5,h6,h7⟩:=hv;simp only[afX] at hy;obtain⟨⟨l,h,m⟩,h1,h2⟩:=hy;obtain⟨r1,r2,r3,r4,r5⟩:=uq hr JC NL NK h4 h1;cases m with
   |some m=>simp at h2
   |none=>
   simp only[ahG,agl,agk,afZ] at h2;subst h2;simp only[Option.getD_none] at r1 r4 r5;refine a7.same (run ad _ c l h _ h3 r1) ?_ amx;refine⟨_,_,rfl,ajK,ajK,λhn=> ?_,λhl=> ?_⟩
   ·obtain⟨q,rfl⟩:=ahS.1 (h6 ajK);split<;>simp
   by_cases hc:c=l
   ·exact .inl ajK
   exact aag
  simp at hy
 ·rename_i lb s' i n c0 e1;rw[e1] at hv hm;simp only[RV] at hv;split at hy
  ·rename_i hs';subst hs';obtain⟨ad,h3,h4,h5,h6,h7⟩:=hv;simp only[afX] at hy;obtain⟨⟨l,h,m⟩,h1,h2⟩:=hy;obtain⟨r1,r2,r3,r4,r5⟩:=N' hr JC NL NK h4 h1;cases m with
   |some m=>
    simp only[ai2,agn,afZ] at h2;subst h2;exact a7.same (run ad _ c0 l h _ h3 r1) ake ajP
   |none=>
   simp only[ahG,agl,agk,afZ] at h2;subst h2;simp only[Option.getD_none] at r1 r4 r5;refine a7.same (run ad _ c0 l h _ h3 r1) ?_ amx;refine⟨_,rfl,ajK,ajK,λhn=> ?_,λhl=> ?_⟩
   ·obtain⟨q,rfl⟩:=ahS.1 (h6 ajK);split<;>simp
   by_cases hc:c0=l
   ·exact .inl ajK
   exact aag
  simp at hy
 simp at hy
def Wo (hr:aO K β env H a w) {o:Oper} {t:TypeId} {x:Operand} {lo hi mx:Option Operand} {x':O} {EC gT:Option O} (ho:o.op= .slice t x lo hi mx) (hm:¬mx.isSome=true)
  (ht:K.P.underlying t=some .string) (hx:co K.G x=some x') (JC:iW K.G lo=some EC) (NL:iW K.G hi=some gT) {y:AV}
  (hy:aw (.Ls x' EC gT) env=some y):a7 K β H a w o y:=by
 obtain rfl:mx=none:=anO
 have hv:=hr.ev hx;simp only[aw] at hy;split at hy
 ·rename_i s e1;rw[e1] at hv;simp only[RV] at hv;simp only[afX,acF] at hy;obtain⟨h,h1,l,h2,rfl⟩:=hy;have hb:nG env EC gT none s.length=some (l,h,none):=by simp[nG,h1,h2]
  have Bt:∀isS,(Instr.sliceBounds isS s.length s.length (lo.map a.eval) (hi.map a.eval) none).run K.P w= .ok (l,h,s.length) w:=by
   intro isS;rcases lf hr NL h1 with⟨rfl,rfl,rfl⟩|⟨x,k,v,rfl,_,e1,e2,e3,rfl⟩
   ·rcases lf hr JC h2 with⟨rfl,rfl,rfl⟩|⟨y,k,u,rfl,_,e4,e5,e6,rfl⟩
    ·simp[Instr.sliceBounds]
    simp[Instr.sliceBounds,e4,run_sliceBound _ e5 e6]
   rcases lf hr JC h2 with⟨rfl,rfl,rfl⟩|⟨y,k',u,rfl,_,e4,e5,e6,rfl⟩
   ·simp[Instr.sliceBounds,e1,run_sliceBound _ e2 e3]
   simp[Instr.sliceBounds,e1,e4,run_sliceBound _ e2 e3,run_sliceBound _ e5 e6]
  obtain⟨_,r2,r3,_,_⟩:=uq hr JC NL (mx:=none) (mx':=none) (by simp[iW]) (af6 _) hb;refine a7.same (v:= .string ((⟨s.toArray⟩:ByteArray).extract l h)) ?_ ?_ ajP
  ·simp[execOp,ho,Instr.sliceAt,run_underlying ht,Instr.slice,hv,qv,Bt,Result.andThen]
  simp only[RV];congr 1;apply ByteArray.ext;show((⟨s.toArray⟩:ByteArray).extract l h).data=((s.take h).drop l).toArray;rw[ajo];simp only[List.extract_toArray];congr 1;simp[List.extract,List.drop_take]
 simp at hy
end

section
variable {w:World} {β:Lb->Option Nat} {H:Hp} {I:Nat->Prop}
theorem bA.len:∀(cs:List AV) (vs:List Value),bA w β H I cs vs->vs.length=cs.length
 |[],vs,h=>by simp[bA] at h;simp[h]
 |x::r,vs,h=>by
  simp only[bA] at h;obtain⟨v,us,rfl,_,h2⟩:=h;simp[bA.len r us h2]
theorem bA.get:∀(cs:List AV) (vs:List Value) (i:Nat) (x:AV),bA w β H I cs vs->cs[i]?=some x->∃v,vs[i]?=some v/\RV w β H I x v
 |[],vs,i,x,h,hx=>by simp at hx
 |y::r,vs,0,x,h,hx=>by
  simp only[bA] at h;obtain⟨v,us,rfl,h1,h2⟩:=h;simp at hx;subst hx;exact⟨v,ajL,h1⟩
 |y::r,vs,i+1,x,h,hx=>by
  simp only[bA] at h;obtain⟨v,us,rfl,h1,h2⟩:=h;obtain⟨u,k1,k2⟩:=bA.get r us i x h2 ak5;exact⟨u,amI,k2⟩
theorem bA.drop:∀(n:Nat) (cs:List AV) (vs:List Value),bA w β H I cs vs->bA w β H I (cs.drop n) (vs.drop n)
 |0,_,_,h=>by simpa using h
 |n+1,[],vs,h=>by simp[bA] at h;simp[h,bA]
 |n+1,x::r,vs,h=>by
  simp only[bA] at h;obtain⟨v,us,rfl,h1,h2⟩:=h;simpa using bA.drop n r us h2
theorem bA.take:∀(n:Nat) (cs:List AV) (vs:List Value),bA w β H I cs vs->bA w β H I (cs.take n) (vs.take n)
 |0,_,_,_=>by simp[bA]
 |n+1,[],vs,h=>by simp[bA] at h;simp[h,bA]
 |n+1,x::r,vs,h=>by
  simp only[bA] at h;obtain⟨v,us,rfl,h1,h2⟩:=h;simp only[ahA,bA];exact⟨v,us.take n,rfl,h1,bA.take n r us h2⟩
theorem bA.append:∀(cs:List AV) (vs:List Value) (ds:List AV) (us:List Value),bA w β H I cs vs->bA w β H I ds us->bA w β H I (cs++ds) (vs++us)
 |[],vs,ds,us,h,h2=>by simp[bA] at h;subst h;simpa using h2
 |x::r,vs,ds,us,h,h2=>by
  simp only[bA] at h;obtain⟨v,Su,rfl,h1,h3⟩:=h;simp only[List.cons_append,bA];exact⟨v,Su++us,rfl,h1,bA.append r Su ds us h3 h2⟩
theorem bA.C6:∀(cs:List IV) (b o:Nat),b7 w I cs b o->∃vs:List Value,bA w β H I (cs.map IV.dw) vs/\vs.length=cs.length/\∀j v,vs[j]?=some v->w.cell? ⟨b,o+j,none⟩=some v
 |[],b,o,h=>⟨[],by simp[bA],rfl,ajL⟩
 |x::r,b,o,h=>by
  simp only[b7] at h;obtain⟨⟨v,h1,h2⟩,h3⟩:=h;obtain⟨vs,k1,k2,k3⟩:=bA.C6 r b (o+1) h3;refine⟨v::vs,?_,by simp[k2],?_⟩
  ·simp only[agC,bA];refine⟨v,vs,rfl,?_,k1⟩;cases x<;>simp[iM] at h2<;>simp[IV.dw,RV,h2];simpa[iM] using h2
  intro j u hj;cases j with
  |zero=>simp at hj;subst hj;exact h1
  |succ j=>
  have:=k3 j u amJ
  rwa[show o+1+j=o+(j+1) by omega] at this
def RV.iv:∀{x:AV} {y:IV} {v:Value},x.iv=some y->RV w β H I x v->iM w I y v:=by
 intro x y v h hv;cases x<;>simp[AV.iv] at h<;>subst h<;>simp only[RV] at hv<;>simp only[iM]
 case nil0=>
  obtain⟨a,rfl⟩:=hv;exact⟨a,0,rfl,ajL,akZ,.inl ajL⟩
 case ifc=>
  obtain⟨u,rfl,_⟩:=hv;exact⟨u,rfl⟩
 all_goals first|exact hv|simpa[iM] using hv
def N_ {x:AV} {y:IV} (h:x.iv=some y):y.cells=[y]:=by
 cases x<;>simp[AV.iv] at h<;>subst h<;>rfl
theorem sL:∀(cs:List AV) (ys:List IV) (vs:List Value) (b o:Nat),Hw cs=some ys->bA w β H I cs vs->(∀j v,vs[j]?=some v->w.cell? ⟨b,o+j,none⟩=some v)->b7 w I ys b o
 |[],ys,vs,b,o,h,_,_=>by simp[Hw] at h;subst h;simp[b7]
 |x::r,ys,vs,b,o,h,hv,hc=>by
  simp only[Hw,afX,acF] at h;obtain⟨y,h1,s,h2,rfl⟩:=h;simp only[bA] at hv;obtain⟨v,us,rfl,k1,k2⟩:=hv;simp only[b7];refine⟨⟨v,by simpa using hc 0 v ajL,RV.iv h1 k1⟩,sL r s us b (o+1) h2 k2 (λj u hj=> ?_)⟩;have:=hc (j+1) u amJ
  rwa[show o+(j+1)=o+1+j by omega] at this
theorem JK:∀(cs:List AV) (ys:List IV),Hw cs=some ys->ys.length=cs.length
 |[],ys,h=>by simp[Hw] at h;subst h;rfl
 |x::r,ys,h=>by
  simp only[Hw,afX,acF] at h;obtain⟨y,h1,s,h2,rfl⟩:=h;simp[JK r s h2]
def RV.cells {x:AV} {v:Value} (h:RV w β H I x v) (hx:∀cs,x= .agg cs->True) (ha:(∃cs,x= .agg cs)\/v.oneCell'=true):bA w β H I x.cells v.cells.toList:=by
 cases x
 case agg cs=>
  simp only[RV] at h;obtain⟨vs,rfl,h1⟩:=h;simpa[AV.cells,Value.cells] using h1
 all_goals
  rcases ha with⟨cs,hc⟩|ha
  ·cases hc
  have:v.cells=#[v]:=by cases v<;>simp_all[Value.cells,Value.oneCell']
  simp only[AV.cells,bA,this];exact⟨v,[],ajL,h,rfl⟩
def RV.ur {x:AV} {v:Value} (h:RV w β H I x v) (hx:x.one=true):v.oneCell'=true:=by
 cases x<;>simp[AV.one] at hx<;>simp only[RV,iM] at h
 case list=>obtain⟨a,c,rfl,_⟩:=h;rfl
 case nil0=>obtain⟨a,rfl⟩:=h;rfl
 case sl=>obtain⟨a,c,rfl,_⟩:=h;rfl
 case slk=>obtain⟨a,rfl,_⟩:=h;rfl
 case ptr=>obtain⟨a,rfl,_⟩:=h;rfl
 case lptr=>obtain⟨b,o,rfl,_⟩:=h;rfl
 case fn=>obtain⟨vs,us,rfl,_⟩:=h;rfl
 case ifc=>obtain⟨u,rfl,_⟩:=h;rfl
 case mis=>obtain⟨r,xs,c,rfl,_⟩:=h;rfl
 all_goals (subst h;rfl)
end
section
variable {K:Kx} {β:Lb->Option Nat} {env:Env} {H:Hp} {a:Act} {w:World}
def aas (hr:aO K β env H a w) {o:Oper} {t:TypeId} {x:Operand} {x':O} (ho:o.op= .unOp .not t x) (hx:co K.G x=some x') {y:AV}
  (hy:aw (.not x') env=some y):a7 K β H a w o y:=by
 have h:=hr.ev hx;simp only[aw] at hy;split at hy
 ·rename_i b e;rw[e] at h;simp only[RV,afZ] at h hy;subst hy;exact a7.same (v:= .bool !b) (by simp[execOp,ho,h,Op.unary]) ake ajP
 simp at hy
def aat (hr:aO K β env H a w) {o:Oper} {c:Call} {x y:Operand} {x' y':O} (ho:o.op= .call c) (hc:c.callee= .builtin .max) (ha:c.args.toList=[x,y])
  (hx:co K.G x=some x') (hy:co K.G y=some y') {z:AV} (hz:aw (.max x' y') env=some z):a7 K β H a w o z:=by
 have h:=hr.ev hx;have h2:=hr.ev hy;have Br:c.args=#[x,y]:=by cases hh:c.args;simp_all
 simp only[aw] at hz;split at hz
 ·rename_i k m k' n e1 e2;rw[e1] at h;rw[e2] at h2;simp only[RV] at h h2;split at hz
  ·simp only[afZ] at hz;subst hz;refine a7.same (v:= .int k (if n>m then n else m)) ?_ ake ajP;simp[execOp,ho,resolve,hc,Br,h,h2,invoke,builtin,Builtin.max_,Builtin.max2,List.foldlM]
  simp at hz
 simp at hz
def aau (hr:aO K β env H a w) {o:Oper} {c:Call} {x y:Operand} {x' y':O} (ho:o.op= .call c) (hc:c.callee= .builtin .min) (ha:c.args.toList=[x,y])
  (hx:co K.G x=some x') (hy:co K.G y=some y') {z:AV} (hz:aw (.min x' y') env=some z):a7 K β H a w o z:=by
 have h:=hr.ev hx;have h2:=hr.ev hy;have Br:c.args=#[x,y]:=by cases hh:c.args;simp_all
 simp only[aw] at hz;split at hz
 ·rename_i k m k' n e1 e2;rw[e1] at h;rw[e2] at h2;simp only[RV] at h h2;split at hz
  ·simp only[afZ] at hz;subst hz;refine a7.same (v:= .int k (if n<m then n else m)) ?_ ake ajP;simp[execOp,ho,resolve,hc,Br,h,h2,invoke,builtin,Builtin.min_,Builtin.min2,List.foldlM]
  simp at hz
 simp at hz
theorem dW:∀(cs:List AV) (i:Nat) (x:AV),cs[i]?=some x->∀l∈x.aq,l∈ai cs
 |[],i,x,h=>by simp at h
 |y::r,0,x,h=>by simp at h;subst h;intro l hl;simp[ai,hl]
 |y::r,i+1,x,h=>by
  intro l hl;have:=dW r i x aj6 l hl;simp[ai,this]
def aav (hr:aO K β env H a w) {o:Oper} {x:Operand} {i:Nat} {x':O} (ho:o.op= .extract x i) (hx:co K.G x=some x') {y:AV}
  (hy:aw (.ext x' i) env=some y):a7 K β H a w o y:=by
 have h:=hr.ev hx;have hm:=hr.jG hx;simp only[aw] at hy;split at hy
 ·rename_i cs e;rw[e] at h hm;simp only[RV] at h;obtain⟨vs,h1,h2⟩:=h;obtain⟨v,k1,k2⟩:=bA.get _ _ _ _ h2 hy;refine a7.same (v:=v) ?_ k2 (λl hl=>hm l (by simpa[AV.aq] using dW _ _ _ hy l hl));simp[execOp,ho,h1,Instr.extract,k1]
 simp at hy
def Wp (hr:aO K β env H a w) {o:Oper} {x:Operand} {x':O} (ho:o.op= .nilCheck x) (hx:co K.G x=some x') {y:AV}
  (hy:aw (.N2 x') env=some y):a7 K β H a w o y:=by
 have h:=hr.ev hx;have hm:=hr.jG hx;simp only[aw] at hy;split at hy
 ·rename_i l sz i j e;simp only[afZ] at hy;subst hy;rw[e] at h hm;have h':=h;simp only[RV] at h;obtain⟨ad,h1,h2⟩:=h;exact a7.same (v:=a.eval x) anb h' hm
 ·rename_i cs e;simp only[afZ] at hy;subst hy;rw[e] at h hm;have h':=h;simp only[RV] at h;obtain⟨b,o',h1,h2⟩:=h;exact a7.same (v:=a.eval x) anb h' hm
 ·rename_i f p q e;simp only[afZ] at hy;subst hy;rw[e] at h hm;have h':=h;simp only[RV] at h;obtain⟨vs,us,h1,h2⟩:=h;exact a7.same (v:=a.eval x) anb h' hm
 simp at hy
theorem oc (hr:aO K β env H a w):∀(xs:List Operand) (ys:List O),cos K.G xs=some ys->bA w β H (Im K β H) (ys.map (ev env)) (xs.map a.eval)
 |[],ys,h=>by simp[cos] at h;subst h;simp[bA]
 |x::r,ys,h=>by
  simp only[cos,afX,acF] at h;obtain⟨y,h1,s,h2,rfl⟩:=h;simp only[agC,bA];exact⟨_,_,rfl,hr.ev h1,oc hr r s h2⟩
theorem oC (hr:aO K β env H a w):∀(xs:List Operand) (ys:List O),cos K.G xs=some ys->∀l∈ai (ys.map (ev env)),H l≠ .unused
 |[],ys,h=>by simp[cos] at h;subst h;simp[ai]
 |x::r,ys,h=>by
  simp only[cos,afX,acF] at h;obtain⟨y,h1,s,h2,rfl⟩:=h;intro l hl;simp only[agC,ai,agi] at hl;exact hl.elim (hr.jG h1 l) (oC hr r s h2 l)
def aaw (hr:aO K β env H a w) {o:Oper} {f:Nat} {first cap:Array Operand} {cs:List O} (ho:o.op= .makeFunc (.func f) first cap) (hf:first.isEmpty=true)
  (hc:cos K.G cap.toList=some cs) {y:AV} (hy:aw (.ZX f cs) env=some y):a7 K β H a w o y:=by
 simp only[aw,afZ] at hy;subst hy;have R1:first=#[]:=by simpa using hf
 refine a7.same (v:= .func (.func f) #[] (cap.toList.map a.eval).toArray) ?_ ?_ ?_
 ·simp[execOp,ho,Instr.makeFunc,R1];cases cap;simp
 ·simp only[RV,bA];exact⟨[],_,ajL,rfl,oc hr _ _ hc⟩
 simpa[AV.aq,ai] using oC hr _ _ hc
def aax (hr:aO K β env H a w) {o:Oper} {f:Nat} {first cap:Array Operand} {qs cs:List O} (ho:o.op= .makeFunc (.func f) first cap) (hq:cos K.G first.toList=some qs)
  (hc:cos K.G cap.toList=some cs) {y:AV} (hy:aw (.ZZ f qs cs) env=some y):a7 K β H a w o y:=by
 simp only[aw,afZ] at hy;subst hy;refine a7.same (v:= .func (.func f) (first.toList.map a.eval).toArray (cap.toList.map a.eval).toArray) ?_ ?_ ?_
 ·simp[execOp,ho,Instr.makeFunc];cases cap;cases first
  simp
 ·simp only[RV];exact⟨_,_,rfl,oc hr _ _ hq,oc hr _ _ hc⟩
 intro l hl;simp only[AV.aq,agi] at hl;rcases hl with hl|hl
 ·exact oC hr _ _ hq l hl
 exact oC hr _ _ hc l hl
def aay (hr:aO K β env H a w) {o:Oper} {s d:TypeId} {x:Operand} {x':O} {k k':IntKind} (ho:o.op= .convert s d x) (hs:K.P.underlying s=some (.int k')) (hd:K.P.underlying d=some (.int k))
  (hx:co K.G x=some x') {y:AV} (hy:aw (.cvi k x') env=some y):a7 K β H a w o y:=by
 have h:=hr.ev hx;simp only[aw] at hy;split at hy
 ·rename_i j n e;rw[e] at h;simp only[RV,afZ] at h hy;subst hy;exact a7.same (v:= .int k (k.wrap n)) (by simp[execOp,ho,h,convert,run_underlying hs,run_underlying hd,Conv.intToInt]) ake ajP
 simp at hy
end
end Go.Am
