import Derived.WalkKit
set_option linter.unusedSimpArgs false
set_option linter.unusedVariables false
set_option linter.unnecessarySimpa false
set_option linter.defProp false
/- THE ABSTRACT MACHINE, part 1: abstract values, labelled rows, and what they say of a world. -/
namespace Go.Am
open Go Go.RowKit
def cQ:=@Option.some.injEq
def Fu:=@Option.map_eq_some_iff
def Fv:=@Option.bind_eq_some_iff
def Fw:=@List.getElem?_eq_some_iff
def Fx:=@List.mem_of_getElem?
def Fy:=@Option.bind_some
def Fz:=@List.mem_append
def FA:=@List.getElem?_take
def FB:=@Prod.mk.injEq
def FC:=@Nat.mul_le_mul_right
def FD:=@Array.getD_eq_getD_getElem?
def FE:=@Bool.and_eq_true
def FF:=@List.getElem?_eq_getElem
def FG:=@if_pos
def FH:=@List.eq_nil_of_length_eq_zero
def FI:=@Nat.add_mul
def FJ:=@Nat.le_refl
def FK:=@congrArg
def FL:=@Array.getElem?_eq_some_iff
def FM:=@List.getElem?_append_right
def FN:=@List.mem_singleton
def FO:=@List.getElem?_append_left
def FP:=@List.mem_cons
def FQ:=@Int.toNat_natCast
def FR:=@or_false
def FT:=@List.length_map
def FU:=@if_neg
def FV:=@decide_eq_true_eq
def FW:=@List.length_cons
def FX:=@List.mem_of_mem_take
def FY:=@List.map_cons
def FZ:=@List.take_append_drop
def F0:=@List.length_take
def F1:=@Nat.zero_add
def F2:=@List.mem_map
def F3:=@List.all_eq_true
def F4:=@Option.map_some
def F5:=@List.map_congr_left
def F6:=@List.getElem?_drop
def F7:=@Nat.le_mul_of_pos_right
def F8:=@Bool.not_false
def F9:=@List.getElem?_map
def F_:=@List.take_of_length_le
def Ga:=@List.length_append
def Gb:=@Int.natCast_nonneg
def Gc:=@List.cons_append
def Gd:=@List.getD_eq_getElem?_getD
def Ge:=@Bool.not_true
def Gf:=@Array.getElem?_eq_getElem
def Gg:=@decide_eq_true
def Gi:=@decide_false
def Gj:=@decide_true
def Gk:=@Nat.lt_of_lt_of_le
def Gl:=@List.getElem?_of_mem
def Gm:=@List.length_drop
def Gn:=@List.append_assoc
def Gp:=@true_and
def Gq:=@List.length_nil
def Gr:=@decide_eq_false
def Gs:=@Option.getD_some
def Gt:=@Bool.false_eq_true
def Gu:=@List.eq_of_mem_replicate
def Gv:=@if_true
def Gw:=@List.mem_of_mem_drop
def Gx:=@Bool.and_false
def Gy:=@List.take_add_one
def Gz:=@List.mem_map_of_mem
def GA:=@Nat.zero_mul
def GB:=@List.take_length
def GC:=@Array.getElem?_toList
def GD:=@List.getElem?_eq_none
def GF:=@List.append_nil
def GG:=@List.contains_eq_mem
def GH:=@List.cons.injEq
def GI:=@List.drop_succ_cons
def GJ:=@Array.getElem?_setIfInBounds
def GK:=@List.drop_zero
def GL:=@List.foldl_cons
def GM:=@if_false
def GN:=@Array.getElem?_append_left
def GO:=@List.isSuffixOf_iff_suffix
def GP:=@Ne.symm
def GQ:=@List.getElem_mem
def GR:=@List.length_eq_zero_iff
def GS:=@List.getElem?_cons_zero
def GU:=@Bool.not_eq_true'
def GV:=@List.size_toArray
def GW:=@Nat.sub_self
def GX:=@List.length_replicate
def GY:=@Bool.false_and
def GZ:=@Nat.add_assoc
def G0:=@Array.length_toList
def G1:=@List.mem_or_eq_of_mem_set
def G2:=@Classical.byContradiction
def G3:=@Nat.le_trans
def G4:=@Option.isSome_iff_exists
def G5:=@Nat.add_zero
def G6:=@List.map_map
def G7:=@Nat.mul_comm
def G8:=@Array.getElem?_replicate
def G9:=@gt_iff_lt
def G':=@List.drop_drop
def G_:=@List.getElem?_replicate
def Ha:=@Int.eq_ofNat_of_zero_le
def Hb:=@List.append_eq_nil_iff
def Hc:=@Array.toList_map
def Hd:=@Array.all_eq_true_iff_forall_mem
def He:=@List.suffix_cons
def Hf:=@List.dropWhile_suffix
def Hg:=@ite_false
def Hh:=@List.takeWhile_append_dropWhile
def Hi:=@List.mem_cons_of_mem
def Hj:=@beq_iff_eq
def Hl:=@List.head?_drop
def Hm:=@Nat.div_lt_of_lt_mul
def Hn:=@Nat.min_eq_left
def Ho:=@List.mem_filter
def Hq:=@Array.mem_toList_iff
def Hr:=@List.pairwise_append
def Hs:=@Bool.eq_iff_iff
def Ht:=@List.take_succ_cons
def Hu:=@Option.isSome_none
def Hv:=@Option.toList_some
def Hw:=@Bool.and_true
def Hx:=@Bool.true_and
def Hy:=@List.isPrefixOf_iff_prefix
def Hz:=@List.flatten_cons
def HA:=@List.getElem?_zip_eq_some
def HB:=@List.not_mem_nil
def HC:=@decide_eq_false_iff_not
def HD:=@Bool.or_eq_true
def HE:=@List.nil_append
def HF:=@List.head?_cons
def HG:=@ByteArray.data_extract
def HI:=@Nat.one_mul
def HJ:=@List.getElem?_set_self
def HK:=@List.drop_eq_nil_of_le
def HL:=@Nat.zero_le
def HM:=@List.set_append_right
def HN:=@List.tail_drop
def HO:=@List.getElem?_toArray
def HP:=@List.getElem?_set_ne
def HQ:=@Nat.add_le_add_right
def HR:=@List.count_le_length
def HS:=@ite_true
def HT:=@ByteArray.ext
def HU:=@Bool.and_self
def HV:=@List.dropWhile_cons
def HW:=@List.length_reverse
def HX:=@beq_eq_false_iff_ne
def HY:=@Array.toList_range
def HZ:=@Nat.le_of_eq
def H4:=@List.pairwise_cons
def H6:=@Function.comp_def
def H8:=@List.ext_getElem?
def H9:=@List.all_eq_false
def H_:=@Option.getD_none
def Ia:=@Nat.mod_eq_of_lt
def Ib:=@Nat.min_le_right
def Ic:=@List.mem_flatMap
def Ie:=@List.isEmpty_iff
def Ig:=@and_true
def Ih:=@List.all_reverse
def Ii:=@List.cons_ne_nil
def Ij:=@List.map_append
def Ik:=@Nat.mod_lt
def Il:=@Nat.div_add_mod
def Io:=@Int.natCast_mul
def Ip:=@List.count_cons
def Iq:=@Option.some.inj
inductive Lb where
 |loc (n:Nat)
 |par (n:Nat)
 |gen (n:Nat)
 |nest (l:Lb) (i j:Nat)
 deriving DecidableEq
def Lb.fresh:Lb→Bool
 | .loc _=>true
 | .nest l _ _=>l.fresh
 |_=>false
def Lb.entry:Lb→Bool
 | .par _=>true
 |_=>false
def Lb.ed {l:Lb} (h:l.entry=true):l.fresh=false:=by
 cases l<;>simp_all[Lb.entry,Lb.fresh]
def Lb.fZ:Lb→Lb
 | .nest l _ j=> .nest l 0 j
 |l=>l
def oQ (n:Nat):(Lb.loc n).fZ= .loc n:=rfl
def oR (n:Nat):(Lb.par n).fZ= .par n:=rfl
def oS (n:Nat):(Lb.gen n).fZ= .gen n:=rfl
def mA (l:Lb) (i j:Nat):(Lb.nest l i j).fZ= .nest l 0 j:=rfl
def Lb.app (l:Lb) (d:Nat):Lb:=if l.fresh then .loc d else .gen d
def Lb.dV (l:Lb) (d:Nat) (h:(l.app d).fresh=true):l.fresh=true:=by
 unfold Lb.app at h;split at h
 ·assumption
 simp[Lb.fresh] at h
inductive IV where
 |bool (b:Bool)
 |int (k:IntKind) (n:Int)
 |str (s:List UInt8)
 |list (xs:List IV)
 |agg (cs:List IV)
 |ifc (t:Nat)
def IV.cells:IV→List IV
 | .agg cs=>cs
 |x=>[x]
inductive AV where
 |any
 |un
 |bool (b:Bool)
 |int (k:IntKind) (n:Int)
 |str (s:List UInt8)
 |list (xs:List IV)
 |nil0
 |fV
 |ee
 |agg (cs:List AV)
 |dG (cs:List AV)
 |sl (l:Lb) (sz i n:Nat)
 |slk (l:Lb) (sz i n c:Nat)
 |ptr (l:Lb) (sz i j:Nat)
 |lptr (cs:List IV)
 |fn (f:Nat) (first cap:List AV)
 |ifc (t:Nat) (x:AV)
def IV.dQ:IV→AV
 | .bool b=> .bool b
 | .int k n=> .int k n
 | .str s=> .str s
 | .list xs=> .list xs
 | .agg _=> .any
 | .ifc t=> .ifc t .any
def IV.av:IV→AV
 | .agg cs=> .agg (cs.map IV.dQ)
 |x=>x.dQ
structure Row where
 sz:Nat
 bN:List (List AV)
inductive Slot where
 |unused
 |dead
 |live (r:Row)
abbrev Hp:=Lb→Slot
abbrev Env:=Nat→AV
def live (H:Hp) (l:Lb):Prop:=∃r,H l= .live r
def fi (w:World) (k:Nat):Option Nat:=
 match w.heap[k]? with
 |some (.cells c _ _)=>some c.size
 |_=>none
def vS (w:World) (Im:Nat→Prop) (n:Nat) (bN:Nat→Nat→Nat→Prop) (v:Value):Prop:=
 ∃a c,v= .slice a n c∧n≤c∧c≤maxLen ∧
  (n=0∨∃b o sz,a=some ⟨b,o,none⟩∧Im b∧b<w.heap.size∧0<sz∧bN b o sz)
mutual
def de (w:World) (Im:Nat→Prop):IV→Value→Prop
 | .bool b,v=>v= .bool b
 | .int k n,v=>v= .int k n
 | .str s,v=>v= .string ⟨s.toArray⟩
 | .list xs,v=>vS w Im xs.length (fun b o sz=>aT w Im xs b o sz) v
 | .agg _,_=>False
 | .ifc t,v=>∃u,v= .iface t u
def aR (w:World) (Im:Nat→Prop):List IV→Nat→Nat→Prop
 |[],_,_=>True
 |x::r,b,o=>(∃v,w.cell? ⟨b,o,none⟩=some v∧de w Im x v)∧aR w Im r b (o+1)
def dR (w:World) (Im:Nat→Prop):IV→Nat→Nat→Nat→Prop
 | .agg cs,b,o,sz=>sz=cs.length∧aR w Im cs b o
 | .bool x,b,o,sz=>sz=1∧∃v,w.cell? ⟨b,o,none⟩=some v∧v= .bool x
 | .int k n,b,o,sz=>sz=1∧∃v,w.cell? ⟨b,o,none⟩=some v∧v= .int k n
 | .str s,b,o,sz=>sz=1∧∃v,w.cell? ⟨b,o,none⟩=some v∧v= .string ⟨s.toArray⟩
 | .list xs,b,o,sz=>sz=1∧∃v,w.cell? ⟨b,o,none⟩=some v∧vS w Im xs.length (fun b o sz=>aT w Im xs b o sz) v
 | .ifc t,b,o,sz=>sz=1∧∃v,w.cell? ⟨b,o,none⟩=some v∧∃u,v= .iface t u
def aT (w:World) (Im:Nat→Prop):List IV→Nat→Nat→Nat→Prop
 |[],_,_,_=>True
 |x::r,b,o,sz=>dR w Im x b o sz∧aT w Im r b (o+sz) sz
end
def dB (w:World) (Im:Nat→Prop) (x:IV) (b o sz:Nat):dR w Im x b o sz↔sz=x.cells.length∧aR w Im x.cells b o:=by
 cases x<;>simp[dR,IV.cells,aR,de]
structure ef (w w':World) (Im h_:Nat→Prop):Prop where
 im:∀k,Im k→k<w.heap.size→h_ k∧k<w'.heap.size∧w'.heap[k]?=w.heap[k]?
def vS.mono {w w':World} {Im h_:Nat→Prop} (h:ef w w' Im h_) {n:Nat} {e e':Nat→Nat→Nat→Prop}
  (he:∀b o sz,Im b→b<w.heap.size→e b o sz→e' b o sz) {v:Value} (hv:vS w Im n e v):vS w' h_ n e' v:=by
 obtain⟨a,c,h1,h2,h3,h4⟩:=hv;refine⟨a,c,h1,h2,h3,h4.imp id ?_⟩;rintro⟨b,o,sz,e1,e2,e3,e4,e5⟩;obtain⟨k1,k2,_⟩:=h.im b e2 e3;exact⟨b,o,sz,e1,k1,k2,e4,he _ _ _ e2 e3 e5⟩
def eB {w w':World} {b o:Nat} (h:w'.heap[b]?=w.heap[b]?):w'.cell? ⟨b,o,none⟩=w.cell? ⟨b,o,none⟩:=
 World.cell?_of_block (w:=w) (a:=⟨b,o,none⟩) h
mutual
theorem de.mono {w w':World} {Im h_:Nat→Prop} (h:ef w w' Im h_):∀(x:IV) (v:Value),de w Im x v→de w' h_ x v
 | .bool b,v,hv=>by simpa[de] using hv
 | .int k n,v,hv=>by simpa[de] using hv
 | .str s,v,hv=>by simpa[de] using hv
 | .list xs,v,hv=>by
  simp only[de] at hv ⊢;exact vS.mono h (fun b o sz hb hs he=>aT.mono h xs b o sz hb hs he) hv
 | .agg _,v,hv=>by simp[de] at hv
 | .ifc t,v,hv=>by simpa[de] using hv
theorem aR.mono {w w':World} {Im h_:Nat→Prop} (h:ef w w' Im h_):∀(xs:List IV) (b o:Nat),Im b→b<w.heap.size→aR w Im xs b o→aR w' h_ xs b o
 |[],_,_,_,_,_=>by simp[aR]
 |x::r,b,o,hb,hs,hv=>by
  simp only[aR] at hv ⊢;obtain⟨⟨v,h1,h2⟩,h3⟩:=hv;obtain⟨_,_,k3⟩:=h.im b hb hs;exact⟨⟨v,(eB k3).trans h1,de.mono h x v h2⟩,aR.mono h r b (o+1) hb hs h3⟩
theorem dR.mono {w w':World} {Im h_:Nat→Prop} (h:ef w w' Im h_):∀(x:IV) (b o sz:Nat),Im b→b<w.heap.size→dR w Im x b o sz→dR w' h_ x b o sz
 | .agg cs,b,o,sz,hb,hs,hv=>by
  simp only[dR] at hv ⊢;exact⟨hv.1,aR.mono h cs b o hb hs hv.2⟩
 | .bool x,b,o,sz,hb,hs,hv=>by
  simp only[dR] at hv ⊢;obtain⟨h0,v,h1,h2⟩:=hv;exact⟨h0,v,(eB (h.im b hb hs).2.2).trans h1,h2⟩
 | .int k n,b,o,sz,hb,hs,hv=>by
  simp only[dR] at hv ⊢;obtain⟨h0,v,h1,h2⟩:=hv;exact⟨h0,v,(eB (h.im b hb hs).2.2).trans h1,h2⟩
 | .str s,b,o,sz,hb,hs,hv=>by
  simp only[dR] at hv ⊢;obtain⟨h0,v,h1,h2⟩:=hv;exact⟨h0,v,(eB (h.im b hb hs).2.2).trans h1,h2⟩
 | .ifc t,b,o,sz,hb,hs,hv=>by
  simp only[dR] at hv ⊢;obtain⟨h0,v,h1,h2⟩:=hv;exact⟨h0,v,(eB (h.im b hb hs).2.2).trans h1,h2⟩
 | .list xs,b,o,sz,hb,hs,hv=>by
  simp only[dR] at hv ⊢;obtain⟨h0,v,h1,h2⟩:=hv;exact⟨h0,v,(eB (h.im b hb hs).2.2).trans h1,vS.mono h (fun b o sz hb hs he=>aT.mono h xs b o sz hb hs he) h2⟩
theorem aT.mono {w w':World} {Im h_:Nat→Prop} (h:ef w w' Im h_):∀(xs:List IV) (b o sz:Nat),Im b→b<w.heap.size→aT w Im xs b o sz→aT w' h_ xs b o sz
 |[],_,_,_,_,_,_=>by simp[aT]
 |x::r,b,o,sz,hb,hs,hv=>by
  simp only[aT] at hv ⊢;exact⟨dR.mono h x b o sz hb hs hv.1,aT.mono h r b (o+sz) sz hb hs hv.2⟩
end
def tq (w:World) (β:Lb→Option Nat) (l:Lb) (sz i c:Nat) (a:Option Addr):Prop:=
 c=0∨∃g S,β l=some g∧a=some ⟨g,i*sz,none⟩∧fi w g=some S∧(i+c)*sz=S
mutual
def RV (w:World) (β:Lb→Option Nat) (H:Hp) (Im:Nat→Prop):AV→Value→Prop
 | .any,_=>True
 | .un,v=>v=undef
 | .bool b,v=>v= .bool b
 | .int k n,v=>v= .int k n
 | .str s,v=>v= .string ⟨s.toArray⟩
 | .list xs,v=>de w Im (.list xs) v
 | .nil0,v=>∃a,v= .slice a 0 0
 | .fV,v=>v= .pointer none
 | .ee,v=>v= .nilIface
 | .agg cs,v=>∃vs:List Value,v= .agg vs.toArray∧aI w β H Im cs vs
 | .dG cs,v=>∃vs:List Value,v= .tuple vs.toArray∧aI w β H Im cs vs
 | .sl l sz i n,v=>∃a c,v= .slice a n c∧n≤c∧c≤maxLen∧(0<n→a.isSome=true)∧(live H l→tq w β l sz i c a)
 | .slk l sz i n c,v=>∃a,v= .slice a n c∧n≤c∧c≤maxLen∧(0<c→a.isSome=true)∧(live H l→tq w β l sz i c a)
 | .ptr l sz i j,v=>∃a,v= .pointer (some a)∧(live H l→∃g,β l=some g∧a=⟨g,i*sz+j,none⟩)
 | .lptr cs,v=>∃b o,v= .pointer (some ⟨b,o,none⟩)∧Im b∧b<w.heap.size∧aR w Im cs b o
 | .fn f fs cs,v=>∃vs us:List Value,v= .func (.func f) vs.toArray us.toArray∧aI w β H Im fs vs∧aI w β H Im cs us
 | .ifc t x,v=>∃u,v= .iface t u∧RV w β H Im x u
def aI (w:World) (β:Lb→Option Nat) (H:Hp) (Im:Nat→Prop):List AV→List Value→Prop
 |[],vs=>vs=[]
 |x::r,vs=>∃v us,vs=v::us∧RV w β H Im x v∧aI w β H Im r us
end
mutual
def AV.ax:AV→List Lb
 | .sl l _ _ _=>[l]
 | .slk l _ _ _ _=>[l]
 | .ptr l _ _ _=>[l]
 | .agg cs=>af cs
 | .dG cs=>af cs
 | .fn _ fs cs=>af fs++af cs
 | .ifc _ x=>x.ax
 |_=>[]
def af:List AV→List Lb
 |[]=>[]
 |x::r=>x.ax++af r
end
structure dw (w w':World) (β β':Lb→Option Nat) (H H':Hp) (Im h_:Nat→Prop) (ls:List Lb):Prop extends ef w w' Im h_ where
 lb:∀l∈ls,live H' l→live H l∧β' l=β l∧∀g S,β l=some g→fi w g=some S→fi w' g=some S
def dw.sub {w w':World} {β β':Lb→Option Nat} {H H':Hp} {Im h_:Nat→Prop} {ls zz:List Lb} (h:dw w w' β β' H H' Im h_ ls) (hs:∀l∈zz,l∈ls) :
 dw w w' β β' H H' Im h_ zz:=⟨h.toef,fun l hl=>h.lb l (hs l hl)⟩
mutual
theorem RV.mono {w w':World} {β β':Lb→Option Nat} {H H':Hp} {Im h_:Nat→Prop}:∀(x:AV) (v:Value),dw w w' β β' H H' Im h_ x.ax→RV w β H Im x v→RV w' β' H' h_ x v
 | .any,_,_,_=>by simp[RV]
 | .un,_,_,hv=>by simpa[RV] using hv
 | .bool _,_,_,hv=>by simpa[RV] using hv
 | .int _ _,_,_,hv=>by simpa[RV] using hv
 | .str _,_,_,hv=>by simpa[RV] using hv
 | .nil0,_,_,hv=>by simpa[RV] using hv
 | .fV,_,_,hv=>by simpa[RV] using hv
 | .ee,_,_,hv=>by simpa[RV] using hv
 | .list xs,v,h,hv=>by simp only[RV] at hv ⊢;exact de.mono h.toef _ _ hv
 | .agg cs,v,h,hv=>by
  simp only[RV] at hv ⊢;obtain⟨vs,rfl,h1⟩:=hv;exact⟨vs,rfl,aI.mono cs vs (by simpa[AV.ax] using h) h1⟩
 | .dG cs,v,h,hv=>by
  simp only[RV] at hv ⊢;obtain⟨vs,rfl,h1⟩:=hv;exact⟨vs,rfl,aI.mono cs vs (by simpa[AV.ax] using h) h1⟩
 | .sl l sz i n,v,h,hv=>by
  simp only[RV] at hv ⊢;obtain⟨a,c,h1,h2,h3,h4,h5⟩:=hv;refine⟨a,c,h1,h2,h3,h4,fun hl=> ?_⟩;obtain⟨k1,k2,k3⟩:=h.lb l (by simp[AV.ax]) hl;rcases h5 k1 with h6|⟨g,S,e1,e2,e3,e4⟩
  ·exact .inl h6
  exact .inr ⟨g,S,k2.trans e1,e2,k3 g S e1 e3,e4⟩
 | .slk l sz i n c,v,h,hv=>by
  simp only[RV] at hv ⊢;obtain⟨a,h1,h2,h3,h4,h5⟩:=hv;refine⟨a,h1,h2,h3,h4,fun hl=> ?_⟩;obtain⟨k1,k2,k3⟩:=h.lb l (by simp[AV.ax]) hl;rcases h5 k1 with h6|⟨g,S,e1,e2,e3,e4⟩
  ·exact .inl h6
  exact .inr ⟨g,S,k2.trans e1,e2,k3 g S e1 e3,e4⟩
 | .ptr l sz i j,v,h,hv=>by
  simp only[RV] at hv ⊢;obtain⟨a,h1,h2⟩:=hv;refine⟨a,h1,fun hl=> ?_⟩;obtain⟨k1,k2,k3⟩:=h.lb l (by simp[AV.ax]) hl;obtain⟨g,e1,e2⟩:=h2 k1;exact⟨g,k2.trans e1,e2⟩
 | .lptr cs,v,h,hv=>by
  simp only[RV] at hv ⊢;obtain⟨b,o,h1,h2,h3,h4⟩:=hv;obtain⟨k1,k2,_⟩:=h.im b h2 h3;exact⟨b,o,h1,k1,k2,aR.mono h.toef cs b o h2 h3 h4⟩
 | .fn f fs cs,v,h,hv=>by
  simp only[RV] at hv ⊢;obtain⟨vs,us,rfl,h1,h2⟩:=hv;exact⟨vs,us,rfl,aI.mono fs vs (h.sub (by simp[AV.ax];intro l hl;exact .inl hl)) h1,aI.mono cs us (h.sub (by simp[AV.ax];intro l hl;exact .inr hl)) h2⟩
 | .ifc t x,v,h,hv=>by
  simp only[RV] at hv ⊢;obtain⟨u,rfl,h1⟩:=hv;exact⟨u,rfl,RV.mono x u (by simpa[AV.ax] using h) h1⟩
theorem aI.mono {w w':World} {β β':Lb→Option Nat} {H H':Hp} {Im h_:Nat→Prop}:∀(xs:List AV) (vs:List Value),dw w w' β β' H H' Im h_ (af xs)→aI w β H Im xs vs→aI w' β' H' h_ xs vs
 |[],_,_,hv=>by simpa[aI] using hv
 |x::r,vs,h,hv=>by
  simp only[aI] at hv ⊢;obtain⟨v,us,rfl,h1,h2⟩:=hv;exact⟨v,us,rfl,RV.mono x v (h.sub (by simp[af];intro l hl;exact .inl hl)) h1,aI.mono r us (h.sub (by simp[af];intro l hl;exact .inr hl)) h2⟩
end
def jH (w:World) (β:Lb→Option Nat) (H:Hp) (Im:Nat→Prop) (l:Lb) (r:Row):Prop:=
 0<r.sz∧(∀cs∈r.bN,cs.length=r.sz) ∧
 match β l with
 |none=>r.bN=[]
 |some g=>∃cur e cap,w.heap[g]?=some (.cells cur e (0,0))∧cur.size=cap*r.sz∧cap≤maxLen∧r.bN.length≤cap ∧
  ∀i j cs x,r.bN[i]?=some cs→cs[j]?=some x→∃v,cur[i*r.sz+j]?=some v∧RV w β H Im x v
def b8 (w:World) (Im:Nat→Prop) (cs:List IV) (g:Nat):Prop:=aR w Im cs g 0∧fi w g=some cs.length
def b8.mono {w w':World} {Im h_:Nat→Prop} (h:ef w w' Im h_) {cs:List IV} {g:Nat} (hb:Im g) (hs:g<w.heap.size) (hg:b8 w Im cs g):b8 w' h_ cs g:=
 ⟨aR.mono h cs g 0 hb hs hg.1,by unfold fi;rw[(h.im g hb hs).2.2];exact hg.2⟩
end Go.Am

namespace Go.Am
open Go Go.RowKit
inductive O where
 |t (n:Nat)
 |c (x:AV)
def ev (env:Env):O→AV
 | .t n=>env n
 | .c x=>x
inductive Kd where
 |b|i|s
 deriving DecidableEq
inductive a8 where
 |gG (x:O)
 |pick (c a b:O)
 |qJ (a:O) (off:Nat)
 |qK (x i:O) (sz:Nat)
 |f_ (x i:O)
 |len (x:O)
 |lens (x:O)
 |td (x:O) (lo hi mx:Option O) (sz:Nat)
 |en (x:O) (lo hi:Option O)
 |bin (op:BinOp) (x y:O)
 |tr (neg:Bool) (x y:O)
 |tt (neg:Bool) (x y:O)
 |te (neg:Bool) (x y:O)
 |jI (neg:Bool) (ks:List Kd) (x y:O)
 |not (x:O)
 |neg (x:O)
 |max (x y:O)
 |min (x y:O)
 |ext (x:O) (i:Nat)
 |qL (z:List AV) (ps:List (Nat×Nat×O))
 |lJ (x:O) (off:Nat) (m:Option Nat)
 |lits (n sz:Nat) (z:List AV) (ps:List (Nat×O))
 |kH (x:O)
 |kI (x:O)
 |stuck
 |tu (f:Nat) (cap:List O)
 |tf (k:IntKind) (x:O)
 |gF (x:O)
 |tv (x:O)
 |tw (x:O)
 |lL (t:Nat) (x:O)
 |load (m:Option Nat) (a:O)
 |box (x:O)
 |new (cs:List AV)
 |nR (n c:O) (sz bytes:Nat) (z:List AV)
 |store (m:Nat) (a x:O)
 |app (s x:O) (sz bytes:Nat)
 |mB (s x:O) (sz:Nat)
 |call (f:Nat) (args:List O)
 |eg (x:O) (args:List O)
 |vT (neg:Bool) (x:O)
 |qO (x i:O) (n sz:Nat)
 |cap (x:O)
 |nM (x:O) (sz:Nat) (z:List AV)
 |fj (f:Nat) (args:List O)
 |lM (x:O) (n sz:Nat)
 |kJ (s x:O) (sz bytes:Nat)
 |lN (s n:O) (sz bytes:Nat) (z:List AV)
 |tx (f:Nat) (first cs:List O)
 |et (sz:Nat) (z:List AV) (ps:List (Nat×O))
structure aP where
 d:Option Nat
 g:Option (Nat×Bool)
 i:a8
abbrev bg (k:Nat) (i:a8):aP:=⟨some k,none,i⟩
abbrev ah (k j:Nat):aP:=⟨some k,none, .gG (.t j)⟩
abbrev oT (k j:Nat):aP:=⟨some k,none, .load none (.t j)⟩
abbrev mo (k j n:Nat):aP:=⟨some k,none, .qJ (.t j) n⟩
abbrev mq (i:a8):aP:=⟨none,none,i⟩
abbrev dC (k j:Nat) (i:a8):aP:=⟨some k,some (j,true),i⟩
abbrev jJ (k j:Nat) (i:a8):aP:=⟨some k,some (j,false),i⟩
abbrev iJ (n:Int):O:= .c (.int .i64 n)
abbrev Bg (n:Bool):O:= .c (.bool n)
abbrev ga (k:Nat) (b:BinOp) (i j:Nat):aP:=⟨some k,none, .bin b (.t i) (.t j)⟩
abbrev ew (k:Nat) (b:BinOp) (i:Nat) (c:Int):aP:=⟨some k,none, .bin b (.t i) (.c (.int .i64 c))⟩
abbrev qP (k n j:Nat):aP:=⟨some k,none, .load (some n) (.t j)⟩
abbrev tz (k i j n:Nat):aP:=⟨some k,none, .qK (.t i) (.t j) n⟩
abbrev jk (k i j:Nat):aP:=⟨some k,none, .pick (.t i) (.t j) (.c (.bool false))⟩
abbrev nS (k i j:Nat):aP:=⟨some k,none, .pick (.t i) (.c (.bool true)) (.t j)⟩
abbrev iK (k:Nat) (c:Int):aP:=⟨some k,none, .gG (.c (.int .i64 c))⟩
abbrev gQ (k:Nat) (c:Bool):aP:=⟨some k,none, .gG (.c (.bool c))⟩
abbrev gp (k j n:Nat):aP:=⟨some k,none, .ext (.t j) n⟩
abbrev tC (k j:Nat):aP:=⟨some k,none, .len (.t j)⟩
abbrev ia (k j:Nat):aP:=⟨some k,none, .lens (.t j)⟩
abbrev vU (k j:Nat):aP:=⟨some k,none, .not (.t j)⟩
abbrev DC (k j:Nat):aP:=⟨some k,none, .box (.t j)⟩
abbrev py (k:Nat):aP:=⟨some k,none, .gG (.c .nil0)⟩
abbrev cm (k g j:Nat):aP:=⟨some k,some (g,true), .gG (.t j)⟩
abbrev e8 (k g j:Nat):aP:=⟨some k,some (g,false), .gG (.t j)⟩
abbrev tE (k g j:Nat):aP:=⟨some k,some (g,true), .load none (.t j)⟩
abbrev tF (k g j:Nat):aP:=⟨some k,some (g,false), .load none (.t j)⟩
abbrev tG (k g j n:Nat):aP:=⟨some k,some (g,true), .qJ (.t j) n⟩
abbrev tH (k g j n:Nat):aP:=⟨some k,some (g,false), .qJ (.t j) n⟩
structure Kx where
 P:Program
 G:Nat→Option (List IV)
 w0:World
 A:Nat→Prop
 D:Nat→Prop
 N:Nat
 H0:Hp
 β0:Lb→Option Nat
def Im (K:Kx) (β:Lb→Option Nat) (H:Hp) (k:Nat):Prop:=(K.A k∨K.w0.heap.size≤k)∧∀l,live H l→β l≠some k
structure Bh (D:Nat→Prop) (w0 w:World):Prop where
 os:w.os=w0.os
 tape:w.tape=w0.tape
 output:w.output=w0.output
 size:w0.heap.size≤w.heap.size
 block:∀k,k<w0.heap.size→¬D k→w.heap[k]?=w0.heap[k]?
 bs:∀k S,fi w0 k=some S→fi w k=some S
structure au (K:Kx) (β:Lb→Option Nat) (env:Env) (H:Hp) (a:Act) (w:World):Prop where
 defers:a.defers=[]
 size:a.tmps.size=K.N
 ey:∀n,RV w β H (Im K β H) (env n) (a.tmps.getD n undef)
 rows:∀l r,H l= .live r→jH w β H (Im K β H) l r
 own:∀l g,live H l→β l=some g→(K.D g∨K.w0.heap.size≤g)
 inj:∀l l' g,live H l→live H l'→β l=some g→β l'=some g→l=l'
 dp:∀n,∀l∈(env n).ax,H l≠ .unused
 bL:∀l r,H l= .live r→∀cs∈r.bN,∀l'∈af cs,H l'≠ .unused
 frame:Bh K.D K.w0 w
 eh:∀g cs,K.G g=some cs→Im K β H g∧g<w.heap.size∧b8 w (Im K β H) cs g
 eD:∀l,live K.H0 l→H l≠ .unused∧(live H l→β l=K.β0 l)
 fr:∀l g,live H l→l.fresh=true→β l=some g→K.w0.heap.size≤g
def put (env:Env) (d:Nat) (x:AV):Env:=fun n=>if n=d then x else env n
def bV (env:Env):Option Nat→AV→Env
 |some d,x=>put env d x
 |none,_=>env
abbrev fW (w w':World):Prop:=Below w.heap.size w w'
def fW.kV {w w':World} (h:fW w w') (β:Lb→Option Nat) (H:Hp) (I:Nat→Prop) (ls:List Lb):dw w w' β β H H I I ls where
 im k hk hs:=⟨hk,Gk hs h.size,h.block k hs⟩
 lb l _ hl:=⟨hl,rfl,fun g S _ hS=>by
  unfold fi at *;have:g<w.heap.size:=by
   cases hg:w.heap[g]? with
   |none=>simp[hg] at hS
   |some o=>exact(FL.1 hg).1
  rwa[h.block g this]⟩
def jH.qQ {w w':World} (h:fW w w') {β:Lb→Option Nat} {H:Hp} {I:Nat→Prop} {l:Lb} {r:Row} (hr:jH w β H I l r):jH w' β H I l r:=by
 obtain⟨h1,h2,h3⟩:=hr;refine⟨h1,h2,?_⟩;cases hb:β l with
 |none=>simpa[hb] using h3
 |some g=>
 simp only[hb] at h3 ⊢;obtain⟨cur,e,cap,e1,e2,e3,e4,e5⟩:=h3;have hg:g<w.heap.size:=(FL.1 e1).1;refine⟨cur,e,cap,(h.block g hg).trans e1,e2,e3,e4,fun i j cs x hi hj=> ?_⟩;obtain⟨v,k1,k2⟩:=e5 i j cs x hi hj;exact⟨v,k1,RV.mono x v (h.kV _ _ _ _) k2⟩
def Bh.qQ {D:Nat→Prop} {w0 w w':World} (h:Bh D w0 w) (g:fW w w'):Bh D w0 w':=
 ⟨g.os.trans h.os,g.tape.trans h.tape,g.output.trans h.output,G3 h.size g.size,
   fun k hk hd => (g.block k (Gk hk h.size)).trans (h.block k hk hd),fun k S hS => by
     have h1:=h.bs k S hS
     unfold fi at h1 ⊢
     have:k<w.heap.size:=by
       cases hg:w.heap[k]? with
       |none=>simp[hg] at h1
       |some o=>exact(FL.1 hg).1
     rwa[g.block k this]⟩
def qR (t:Array Value) (d n:Nat) (v:Value):(t.setIfInBounds d v).getD n undef=if n=d∧d<t.size then v else t.getD n undef:=by
 simp only[FD,GJ];by_cases h:d=n
 ·subst h;by_cases h2:d<t.size
  ·simp[h2]
  simp[h2,Array.getElem?_eq_none (Nat.le_of_not_lt h2)]
 simp[h,GP h,eq_comm]
def au.step {K:Kx} {β:Lb→Option Nat} {env:Env} {H:Hp} {a:Act} {w w':World} (h:au K β env H a w) (g:fW w w')
  {d:Option Nat} {x:AV} {v:Value} (hd:∀n,d=some n→n<K.N) (hx:d.isSome=true→RV w' β H (Im K β H) x v) (hm:d.isSome=true→∀l∈x.ax,H l≠ .unused):au K β (bV env d x) H (a.put d v) w' where
 defers:=by cases d<;>simp[Act.put,h.defers]
 size:=by cases d<;>simp[Act.put,h.size]
 ey n:=by
  have ho:=RV.mono (env n) (a.tmps.getD n undef) (g.kV β H (Im K β H) _) (h.ey n);cases d with
  |none=>simpa[bV,Act.put] using ho
  |some d=>
  simp only[bV,Act.put,put,qR];by_cases e:n=d
  ·subst e;have:=hd n rfl;rw[←h.size] at this;simpa[this] using hx rfl
  simpa[e] using ho
 rows l r hl:=(h.rows l r hl).qQ g
 own:=h.own
 inj:=h.inj
 dp n:=by
  cases d with
  |none=>exact h.dp n
  |some d=>
  simp only[bV,put];split
  ·exact hm rfl
  exact h.dp n
 bL:=h.bL
 frame:=h.frame.qQ g
 eh k cs hk:=by
  obtain⟨h1,h2,h3⟩:=h.eh k cs hk;exact⟨h1,Gk h2 g.size,b8.mono (g.kV β H (Im K β H) []).toef h1 h2 h3⟩
 eD:=h.eD
 fr:=h.fr
def zb:Value→Option AV
 | .bool b=>some (.bool b)
 | .int k n=>some (.int k n)
 | .string s=>some (.str s.data.toList)
 | .slice none 0 0=>some .nil0
 | .pointer none=>some .fV
 | .nilIface=>some .ee
 |_=>none
def vV:List Value→Option (List AV)
 |[]=>some []
 |v::r=>(zb v).bind fun x=>(vV r).map fun s=>x::s
def cv:Value→Option AV
 | .agg a=>(vV a.toList).map .agg
 |v=>zb v
def co (G:Nat→Option (List IV)):Operand→Option O
 | .tmp t=>some (.t t)
 | .const v=>(cv v).map .c
 | .func f=>some (.c (.fn f [] []))
 | .global g=>(G g).map fun cs=> .c (.lptr cs)
def oU {v:Value} {x:AV} (h:zb v=some x):x.ax=[]:=by
 unfold zb at h;split at h<;>simp at h<;>subst h<;>simp[AV.ax]
def qS {v:Value} {x:AV} (h:zb v=some x) (w:World) (β:Lb→Option Nat) (H:Hp) (I:Nat→Prop):RV w β H I x v:=by
 unfold zb at h;split at h<;>simp at h<;>subst h<;>simp[RV]
theorem oV:∀(l:List Value) (xs:List AV),vV l=some xs→af xs=[]
 |[],xs,h=>by simp[vV] at h;subst h;rfl
 |v::r,xs,h=>by
  simp only[vV,Fv,Fu] at h;obtain⟨x,h1,s,h2,rfl⟩:=h;simp[af,oU h1,oV r s h2]
theorem qT (w:World) (β:Lb→Option Nat) (H:Hp) (I:Nat→Prop):∀(l:List Value) (xs:List AV),vV l=some xs→aI w β H I xs l
 |[],xs,h=>by simp[vV] at h;subst h;simp[aI]
 |v::r,xs,h=>by
  simp only[vV,Fv,Fu] at h;obtain⟨x,h1,s,h2,rfl⟩:=h;simp only[aI];exact⟨v,r,rfl,qS h1 _ _ _ _,qT w β H I r s h2⟩
def nT {v:Value} {x:AV} (h:cv v=some x):x.ax=[]:=by
 unfold cv at h;split at h
 ·obtain⟨cs,h1,rfl⟩:=Fu.1 h;simp[AV.ax,oV _ _ h1]
 exact oU h
def vW {v:Value} {x:AV} (h:cv v=some x) (w:World) (β:Lb→Option Nat) (H:Hp) (I:Nat→Prop):RV w β H I x v:=by
 unfold cv at h;split at h
 ·rename_i a;obtain⟨cs,h1,rfl⟩:=Fu.1 h;simp only[RV];exact⟨a.toList,by simp,qT w β H I _ _ h1⟩
 exact qS h _ _ _ _
def au.ev {K:Kx} {β:Lb→Option Nat} {env:Env} {H:Hp} {a:Act} {w:World} (h:au K β env H a w) {x:Operand} {o:O} (hx:co K.G x=some o) :
  RV w β H (Im K β H) (ev env o) (a.eval x):=by
 cases x with
 |tmp t=>simp[co] at hx;subst hx;exact h.ey t
 |const v=>
  simp only[co,Fu] at hx;obtain⟨y,h1,rfl⟩:=hx;exact vW h1 _ _ _ _
 |func f=>simp[co] at hx;subst hx;simp[Am.ev,RV,aI,Act.eval]
 |global g=>
 simp only[co,Fu] at hx;obtain⟨cs,h1,rfl⟩:=hx;obtain⟨h2,h3,h4⟩:=h.eh g cs h1;exact⟨g,0,rfl,h2,h3,h4.1⟩
def au.cR {K:Kx} {β:Lb→Option Nat} {env:Env} {H:Hp} {a:Act} {w:World} (h:au K β env H a w) {x:Operand} {o:O} (hx:co K.G x=some o) :
  ∀l∈(Am.ev env o).ax,H l≠ .unused:=by
 cases x with
 |tmp t=>simp[co] at hx;subst hx;exact h.dp t
 |const v=>
  simp only[co,Fu] at hx;obtain⟨y,h1,rfl⟩:=hx;simp[Am.ev,nT h1]
 |func f=>simp[co] at hx;subst hx;simp[Am.ev,AV.ax,af]
 |global g=>
 simp only[co,Fu] at hx;obtain⟨cs,h1,rfl⟩:=hx;simp[Am.ev,AV.ax]

def j0 (P:Program) (t:TypeId):Option Nat:=(P.info? t).map (·.size)
def pz (P:Program) (t:TypeId):Option (Option Nat):=
 match P.underlying t with
 |some (.struct _)|some (.array _ _)=>(j0 P t).map some
 |some _=>some none
 |none=>none
def cos (G:Nat→Option (List IV)):List Operand→Option (List O)
 |[]=>some []
 |x::r=>(co G x).bind fun y=>(cos G r).map fun s=>y::s
def df (G:Nat→Option (List IV)):Option Operand→Option (Option O)
 |none=>some none
 |some x=>(co G x).map some
def AV.iv:AV→Option IV
 | .bool b=>some (.bool b)
 | .int k n=>some (.int k n)
 | .str s=>some (.str s)
 | .list xs=>some (.list xs)
 | .nil0=>some (.list [])
 | .ifc t _=>some (.ifc t)
 |_=>none
def mC:List AV→Option (List IV)
 |[]=>some []
 |x::r=>x.iv.bind fun y=>(mC r).map fun s=>y::s
def AV.cells:AV→List AV
 | .agg cs=>cs
 |x=>[x]
def gF (l:List Value):Option (List AV):=
 match l with
 |[]=>some []
 |v::r=>(cv v).bind fun x=>(gF r).map fun s=>x::s
def cS (P:Program):Nat→List Field→Option (List Kd)
 |_,[]=>some []
 |n,f::r=>if f.name != "_"&&f.offset==n then
   match P.underlying f.type with
   |some .string=>(cS P (n+1) r).map fun s=> .s::s
   |some .bool=>(cS P (n+1) r).map fun s=> .b::s
   |some (.int _)=>(cS P (n+1) r).map fun s=> .i::s
   |_=>none
  else none
def gb (P:Program) (t:TypeId):Option (List Kd):=
 match P.underlying t with
 |some (.struct fs)=>if !P.stoodInHeld t&& !P.eqGuardType P.depth t then cS P 0 fs.toList else none
 |_=>none
def fO:BinOp→Option Bool
 | .eql=>some false
 | .neq=>some true
 |_=>none
def nU:Operand→Bool
 | .const .nilIface=>true
 |_=>false
def gH (pl:List (Nat×Nat)):List Nat→List O→Option (List (Nat×Nat×O))
 |j::js,x::xs=>(pl[j]?).bind fun p=>(gH pl js xs).map fun r=>(p.1,p.2,x)::r
 |[],[]=>some []
 |_,_=>none
def zA (P:Program) (xt:TypeId):Bool:=match P.underlying xt with|some .string|some (.slice _)=>true|_=>false
def fC (P:Program) (f:Nat):Bool:=(P.funcs[f]?).any (fun fn=>fn.body.isSome&&fn.name != "runtime.NumGoroutine")
def nV:Operand→Bool
 | .const (.slice none 0 0)=>true
 |_=>false
def qU (P:Program) (G:Nat→Option (List IV)) (o:Oper):Option a8:=
 match o.op with
 | .move x| .assign x=>(co G x).map .gG
 | .pick c a b=>(co G c).bind fun c=>(co G a).bind fun a=>(co G b).map fun b=> .pick c a b
 | .fieldAddr t x f=>
  match P.underlying t with
  |some (.struct fs)=>fs[f]?.bind fun fd=>(j0 P fd.type).bind fun s=>if s=0 then none else(co G x).map fun x=> .qJ x fd.offset
  |_=>none
 | .indexAddr t x i=>
  match P.underlying t with
  |some (.slice e)=>(j0 P e).bind fun s=>(co G x).bind fun x=>(co G i).map fun i=> .qK x i s
  |some (.array n e)=>(j0 P e).bind fun s=>(co G x).bind fun x=>(co G i).map fun i=> .qO x i n s
  |_=>none
 | .index t x i=>
  match P.underlying t with
  |some .string=>(co G x).bind fun x=>(co G i).map fun i=> .f_ x i
  |_=>none
 | .slice t x lo hi mx=>
  match P.underlying t with
  |some (.slice e)=>(j0 P e).bind fun s=>(co G x).bind fun x=>(df G lo).bind fun lo=>(df G hi).bind fun hi=>(df G mx).map fun mx=> .td x lo hi mx s
  |some .string=>if mx.isSome then none else(co G x).bind fun x=>(df G lo).bind fun lo=>(df G hi).map fun hi=> .en x lo hi
  |some (.array n e)=>if lo.isNone&&hi.isNone&&mx.isNone then(j0 P e).bind fun s=>if s=0 then none else(co G x).map fun x=> .lM x n s else none
  |_=>none
 | .makeSlice t n c=>
  match P.underlying t with
  |some (.slice e)=>match P.info? e with
   |some i=>match i.zero with
    |some z=>if z.cells.size=i.size∧0<i.size∧0<i.bytes then(gF z.cells.toList).bind fun zs=>(co G n).bind fun n=>(co G c).map fun c=> .nR n c i.size i.bytes zs else none
    |none=>none
   |none=>none
  |_=>none
 | .binOp op t x y _=>
  match P.underlying t with
  |some (.int _)|some .string=>(co G x).bind fun x=>(co G y).map fun y=> .bin op x y
  |some .bool=>(fO op).bind fun n=>(co G x).bind fun x=>(co G y).map fun y=> .tr n x y
  |some (.pointer _)=>(fO op).bind fun n=>(co G x).bind fun x=>(co G y).map fun y=> .tt n x y
  |some (.interface _)=>if nU y then(fO op).bind fun n=>(co G x).bind fun x=>(co G y).map fun y=> .te n x y else none
  |some (.struct _)=>(gb P t).bind fun ks=>(fO op).bind fun n=>(co G x).bind fun x=>(co G y).map fun y=> .jI n ks x y
  |some (.slice _)=>if nV y then(fO op).bind fun n=>(co G x).map fun x=> .vT n x else none
  |_=>none
 | .unOp .not _ x=>(co G x).map .not
 | .unOp .neg _ x=>(co G x).map .neg
 | .extract x i=>(co G x).map fun x=> .ext x i
 | .nilCheck x=>(co G x).map .kI
 | .box _ x=>(co G x).map .box
 | .makeFunc (.func f) first cap=>if first.isEmpty then(cos G cap.toList).map fun c=> .tu f c else(cos G first.toList).bind fun q=>(cos G cap.toList).map fun c=> .tx f q c
 | .load t x=>(pz P t).bind fun m=>(co G x).map fun x=> .load m x
 | .alloc t=>match P.info? t with
  |some i=>match i.zero with
   |some z=>if z.cells.size=i.size then(gF z.cells.toList).map .new else none
   |none=>none
  |none=>none
 | .store t x y=>(j0 P t).bind fun s=>(co G x).bind fun x=>(co G y).map fun y=> .store s x y
 | .convert s d x=>
  match P.underlying s,P.underlying d with
  |some (.int _),some (.int k)=>(co G x).map fun x=> .tf k x
  |some .string,some .string=>(co G x).map .gF
  |some .string,some (.slice e)=>match P.underlying e with
   |some (.int .u8)=>(co G x).map .tv
   |_=>none
  |some (.slice e),some .string=>match P.underlying e with
   |some (.int .u8)=>(co G x).map .tw
   |_=>none
  |_,_=>none
 | .makeInterface t x=>
  match P.underlying t with
  |some (.interface _)=>none
  |some _=>(co G x).map fun x=> .lL t x
  |none=>none
 | .field t x f=>
  match P.underlying t with
  |some (.struct fs)=>fs[f]?.bind fun fd=>(pz P fd.type).bind fun m=>(co G x).map fun x=> .lJ x fd.offset m
  |_=>none
 | .buildSlice t n ps=>
  match P.underlying t with
  |some (.slice e)=>match P.info? e with
   |some i=>match i.zero with
    |some z=>if z.cells.size=i.size∧0<i.size∧n*i.size≤2^24 then(gF z.cells.toList).bind fun zs=>(cos G (ps.toList.map (·.2))).map fun xs=> .lits n i.size zs ((ps.toList.map (·.1)).zip xs) else none
    |none=>none
   |none=>none
  |_=>none
 | .build t ps=>
  match P.info? t,P.underlying t with
  |some it,some (.struct fields)=>match it.zero,fields.toList.mapM (fun f=>(P.info? f.type).map fun i=>(f.offset,i.size)) with
   |some z,some places=>(gF z.cells.toList).bind fun zs=>(cos G (ps.toList.map (·.2))).bind fun xs=>(gH places (ps.toList.map (·.1)) xs).map fun qs=> .qL zs qs
   |_,_=>none
  |_,_=>none
 | .call c=>
  match c.callee with
  | .builtin .len=>match c.args.toList,c.argTypes[0]?.bind P.underlying with
   |[x],some .string=>(co G x).map .lens
   |[x],some (.slice _)=>(co G x).map .len
   |_,_=>none
  | .builtin .max=>match c.args.toList with
   |[x,y]=>(co G x).bind fun x=>(co G y).map fun y=> .max x y
   |_=>none
  | .builtin .min=>match c.args.toList with
   |[x,y]=>(co G x).bind fun x=>(co G y).map fun y=> .min x y
   |_=>none
  | .builtin .append=>match c.args.toList,c.argTypes.toList with
   |[s,x],[st,xt]=>match P.underlying st with
    |some (.slice e)=>match P.info? e with
     |some i=>if(i.zero.map (·.cells.size))==some i.size&&decide (0<i.size)&&zA P xt then
      (co G s).bind fun s=>(co G x).map fun x=> .app s x i.size i.bytes else match P.underlying xt,i.zero with
       |some (.int _),some z=>if z.cells.size=i.size∧0<i.size∧0<i.bytes then(gF z.cells.toList).bind fun zs=>(co G s).bind fun s=>(co G x).map fun x=> .lN s x i.size i.bytes zs else none
       |_,_=>none
     |none=>none
    |_=>none
   |_,_=>none
  | .builtin .cap=>match c.args.toList,c.argTypes[0]?.bind P.underlying with
   |[x],some (.slice _)=>(co G x).map .cap
   |_,_=>none
  | .builtin .copy=>match c.args.toList,c.argTypes.toList with
   |[d,x],[dt,_]=>match P.underlying dt with
    |some (.slice e)=>(j0 P e).bind fun s=>if s=0 then none else(co G d).bind fun d=>(co G x).map fun x=> .mB d x s
    |_=>none
   |_,_=>none
  | .builtin .clear=>match c.args.toList,c.argTypes[0]?.bind P.underlying with
   |[x],some (.slice e)=>match P.info? e with
    |some i=>match i.zero with
     |some z=>if z.cells.size=i.size∧0<i.size then(gF z.cells.toList).bind fun zs=>(co G x).map fun x=> .nM x i.size zs else none
     |none=>none
    |none=>none
   |_,_=>none
  | .builtin _=>none
  | .invoke _ _=>none
  | .value (.func f)=>if fC P f then(cos G c.args.toList).map fun xs=> .call f xs else(cos G c.args.toList).map fun xs=> .fj f xs
  | .value f=>(co G f).bind fun y=>(cos G c.args.toList).map fun xs=> .eg y xs
 |_=>none
def comp (P:Program) (G:Nat→Option (List IV)) (o:Oper):Option a8:=match qU P G o with
 |some i=>some i
 |none=>some .stuck
open Classical in
noncomputable def gR (env:Env) (o:Option O) (BJ mx:Nat):Option Nat:=
 match o with
 |none=>some BJ
 |some x=>match ev env x with
  | .int _ v=>if 0≤v∧v.toNat≤mx then some v.toNat else none
  |_=>none
def DD (xs:List IV):Prop:=∀y∈xs,∀z∈y.cells,∀cs,z≠ .agg cs
def jK (sz:Nat) (xs:List IV):Prop:=∀x∈xs,x.cells.length=sz
def b6 (op:BinOp) (x y:AV):Option AV:=
 match x,y with
 | .int k a,.int k' b=>if k=k' then match op with
   | .add=>some (.int k (k.wrap (a+b)))
   | .sub=>some (.int k (k.wrap (a - b)))
   | .mul=>some (.int k (k.wrap (a*b)))
   | .quo=>if b=0 then none else some (.int k (k.wrap (a.tdiv b)))
   | .rem=>if b=0 then none else some (.int k (a.tmod b))
   | .eql=>some (.bool (a==b))
   | .neq=>some (.bool (a !=b))
   | .lss=>some (.bool (a<b))
   | .leq=>some (.bool (a≤b))
   | .gtr=>some (.bool (a>b))
   | .geq=>some (.bool (a≥b))
   | .shr=>if 0≤b then some (.int k (a/2^min b.toNat k.bits)) else none
   |_=>none
  else none
 | .str a,.str b=>match op with
   | .add=>if a.length+b.length≤9223372036854775807 then some (.str (a++b)) else none
   | .eql=>some (.bool (a==b))
   | .neq=>some (.bool !(a==b))
   | .lss=>some (.bool (Op.bytesLess a b))
   | .leq=>some (.bool (Op.bytesLess a b||a==b))
   | .gtr=>some (.bool !(Op.bytesLess a b||a==b))
   | .geq=>some (.bool !(Op.bytesLess a b))
   |_=>none
 |_,_=>none
def Bi:Kd→AV→AV→Option Bool
 | .b,.bool a,.bool b=>some (a==b)
 | .i,.int k a,.int k' b=>if k=k' then some (a==b) else none
 | .s,.str a,.str b=>some (a==b)
 |_,_,_=>none
def eqs:List Kd→List AV→List AV→Option Bool
 |[],[],[]=>some true
 |k::ks,x::r,y::s=>(Bi k x y).bind fun a=>(eqs ks r s).map fun b=>a&&b
 |_,_,_=>none
def CZ:AV→AV→Option Bool
 | .fV,.fV=>some true
 | .fV,.ptr ..=>some false
 | .fV,.lptr ..=>some false
 | .ptr ..,.fV=>some false
 | .lptr ..,.fV=>some false
 |_,_=>none
noncomputable def jL (env:Env) (lo hi mx:Option O) (n:Nat):Option (Nat×Nat×Option Nat):=
 match mx with
 |none=>(gR env hi n n).bind fun h=>(gR env lo 0 h).map fun l=>(l,h,none)
 |some m=>if hi.isNone then none else(gR env (some m) 0 n).bind fun m=>(gR env hi 0 m).bind fun h=>(gR env lo 0 h).map fun l=>(l,h,some m)
noncomputable def nW (env:Env) (lo hi mx:Option O) (n c:Nat):Option (Nat×Nat×Option Nat):=
 match mx with
 |none=>(gR env hi n c).bind fun h=>(gR env lo 0 h).map fun l=>(l,h,none)
 |some m=>if hi.isNone then none else(gR env (some m) 0 c).bind fun m=>(gR env hi 0 m).bind fun h=>(gR env lo 0 h).map fun l=>(l,h,some m)
open Classical in
noncomputable def tJ (env:Env) (x:AV) (lo hi mx:Option O) (sz:Nat):Option AV:=
 match x with
 | .nil0=>(jL env lo hi mx 0).map fun _=> .nil0
 | .list xs=>if jK sz xs then(jL env lo hi mx xs.length).map fun b=>if b.2.2=some b.1 then .nil0 else .list ((xs.take b.2.1).drop b.1) else none
 | .sl lb s i n=>if s=sz then(jL env lo hi mx n).bind fun b=>if b.2.2.isSome then none else some (.sl lb s (i+b.1) (b.2.1 - b.1)) else none
 | .slk lb s i n c=>if s=sz then(nW env lo hi mx n c).bind fun b=>if b.2.2.isSome then some .any else some (.slk lb s (i+b.1) (b.2.1 - b.1) (c - b.1)) else none
 |_=>none
def AV.one:AV→Bool
 | .any| .un| .agg _| .dG _=>false
 |_=>true
def AV.nX:AV→Bool
 | .agg cs=>cs.all AV.one
 |x=>x.one
def dD:List AV→List (Nat×Nat×AV)→Option (List AV)
 |cs,[]=>some cs
 |cs,(off,sz,x)::r=>if x.nX=true∧x.cells.length=sz∧off+sz≤cs.length then dD (cs.take off++x.cells++cs.drop (off+sz)) r else none
def tK:List IV→IV
 |[y]=>y
 |ys=> .agg ys
def chunks (sz:Nat):Nat→List IV→List IV
 |0,_=>[]
 |n+1,ys=>tK (ys.take sz)::chunks sz n (ys.drop sz)
def ib:List IV→Option (List UInt8)
 |[]=>some []
 | .int .u8 n::r=>(ib r).map (UInt8.ofNat n.toNat::·)
 |_=>none
def zB:AV→Option AV
 | .list xs=>(ib xs).map .str
 | .nil0=>some (.str [])
 |_=>none
open Classical in
noncomputable def aa (i:a8) (env:Env):Option AV:=
 match i with
 | .gG x=>some (ev env x)
 | .pick c a b=>match ev env c with
  | .bool t=>some (if t then ev env a else ev env b)
  |_=>none
 | .qJ a off=>match ev env a with
  | .ptr l sz i j=>some (.ptr l sz i (j+off))
  | .lptr cs=>some (.lptr (cs.drop off))
  |_=>none
 | .qK x i sz=>match ev env x,ev env i with
  | .list xs,.int _ n=>if 0≤n then match xs[n.toNat]? with
    |some y=>if jK sz xs then some (.lptr y.cells) else none
    |none=>none
   else none
  | .sl l s i0 m,.int _ n=>if 0≤n∧n.toNat<m∧s=sz then some (.ptr l s (i0+n.toNat) 0) else none
  |_,_=>none
 | .f_ x i=>match ev env x,ev env i with
  | .str s,.int _ n=>if 0≤n then match s[n.toNat]? with
    |some c=>some (.int .u8 c.toNat)
    |none=>none
   else none
  |_,_=>none
 | .lens x=>match ev env x with
  | .str s=>some (.int .i64 s.length)
  |_=>none
 | .len x=>match ev env x with
  | .list xs=>some (.int .i64 xs.length)
  | .nil0=>some (.int .i64 0)
  | .sl _ _ _ n=>some (.int .i64 n)
  | .slk _ _ _ n _=>some (.int .i64 n)
  |_=>none
 | .td x lo hi mx sz=>tJ env (ev env x) lo hi mx sz
 | .en x lo hi=>match ev env x with
  | .str s=>(gR env hi s.length s.length).bind fun h=>(gR env lo 0 h).map fun l=> .str ((s.take h).drop l)
  |_=>none
 | .bin op x y=>b6 op (ev env x) (ev env y)
 | .tr neg x y=>match ev env x,ev env y with
  | .bool a,.bool b=>some (.bool (neg ^^ (a==b)))
  |_,_=>none
 | .tt neg x y=>(CZ (ev env x) (ev env y)).map fun b=> .bool (neg ^^ b)
 | .te neg x _=>match ev env x with
  | .ee=>some (.bool (neg ^^ true))
  | .ifc _ _=>some (.bool (neg ^^ false))
  |_=>none
 | .jI neg ks x y=>match ev env x,ev env y with
  | .agg xs,.agg ys=>(eqs ks xs ys).map fun b=> .bool (neg ^^ b)
  |_,_=>none
 | .not x=>match ev env x with
  | .bool b=>some (.bool !b)
  |_=>none
 | .neg x=>match ev env x with
  | .int k n=>some (.int k (k.wrap (0 - n)))
  |_=>none
 | .max x y=>match ev env x,ev env y with
  | .int k a,.int k' b=>if k=k' then some (.int k (if b>a then b else a)) else none
  |_,_=>none
 | .min x y=>match ev env x,ev env y with
  | .int k a,.int k' b=>if k=k' then some (.int k (if b<a then b else a)) else none
  |_,_=>none
 | .ext x i=>match ev env x with
  | .dG cs=>cs[i]?
  |_=>none
 | .kI x=>match ev env x with
  | .ptr l sz i j=>some (.ptr l sz i j)
  | .lptr cs=>some (.lptr cs)
  | .fn f a b=>some (.fn f a b)
  |_=>none
 | .tu f cap=>some (.fn f [] (cap.map (ev env)))
 | .tx f q cap=>some (.fn f (q.map (ev env)) (cap.map (ev env)))
 | .tf k x=>match ev env x with
  | .int _ n=>some (.int k (k.wrap n))
  |_=>none
 | .gF x=>match ev env x with
  | .str s=>some (.str s)
  |_=>none
 | .lL t x=>some (.ifc t (ev env x))
 | .qL z ps=>(dD z (ps.map fun p=>(p.1,p.2.1,ev env p.2.2))).map .agg
 | .lJ x off m=>match ev env x with
  | .agg cs=>match m with
   |none=>cs[off]?
   |some k=>if off+k≤cs.length then some (.agg ((cs.drop off).take k)) else none
  |_=>none
 | .kH x=>(mC (ev env x).cells).map .lptr
 | .lits n sz z ps=>if sz*n=0 then(if n=0∧ps.isEmpty=true then some .nil0 else none) else(dD ((List.replicate n z).flatten) (ps.map fun p=>(p.1*sz,sz,ev env p.2))).bind fun cs=>(mC cs).map fun ys=>
   .list (chunks sz n ys)
 | .load m a=>match ev env a with
  | .lptr cs=>match m with
   |none=>cs[0]?.map IV.dQ
   |some k=>if k≤cs.length then some (.agg ((cs.take k).map IV.dQ)) else none
  |_=>none
 | .tv x=>match ev env x with
  | .str s=>if s.length≤140737488355328 then some (.list (s.map fun c=> .int .u8 c.toNat)) else none
  |_=>none
 | .tw x=>zB (ev env x)
 | .qO x i n sz=>match ev env x,ev env i with
  | .ptr l s a j,.int _ m=>if 0≤m∧m.toNat<n then some (.ptr l s a (j+m.toNat*sz)) else none
  | .lptr cs,.int _ m=>if 0≤m∧m.toNat<n then some (.lptr (cs.drop (m.toNat*sz))) else none
  |_,_=>none
 | .lM x n sz=>match ev env x with
  | .lptr cs=>if cs.length=n*sz∧n≤maxLen∧(∀y∈cs,y.cells=[y]) then some (.list (chunks sz n cs)) else none
  |_=>none
 | .kJ s x sz bytes=>match ev env s,ev env x with
  | .nil0,.list xs=>if jK sz xs∧DD xs∧xs.length*bytes≤140737488355328∧0<bytes∧0<sz then some (.list xs) else none
  | .nil0,.nil0=>if 0<sz then some (.list []) else none
  |_,_=>none
 |_=>none
end Go.Am

namespace Go.Am
open Go Go.RowKit
def ar (K:Kx) (β:Lb→Option Nat) (H:Hp) (a:Act) (w:World) (o:Oper) (x:AV):Prop:=
 ∃v w',(execOp a.eval o).run K.P w= .ok (.value v) w'∧fW w w'∧RV w' β H (Im K β H) x v∧∀l∈x.ax,H l≠ .unused
def ar.same {K:Kx} {β:Lb→Option Nat} {H:Hp} {a:Act} {w:World} {o:Oper} {x:AV} {v:Value} (h:(execOp a.eval o).run K.P w= .ok (.value v) w)
 (hv:RV w β H (Im K β H) x v) (hm:∀l∈x.ax,H l≠ .unused):ar K β H a w o x:=⟨v,w,h,Below.refl _ _,hv,hm⟩
section
variable {K:Kx} {β:Lb→Option Nat} {env:Env} {H:Hp} {a:Act} {w:World}
def vX (hr:au K β env H a w) {o:Oper} {x:Operand} {y:O} (ho:o.op= .move x∨o.op= .assign x) (hy:co K.G x=some y):ar K β H a w o (ev env y):=by
 refine ar.same (v:=a.eval x) ?_ (hr.ev hy) (hr.cR hy);rcases ho with ho|ho<;>simp[execOp,ho]
def wK (hr:au K β env H a w) {o:Oper} {c x y:Operand} {c' x' y':O} (ho:o.op= .pick c x y) (hc:co K.G c=some c') (hx:co K.G x=some x') (hy:co K.G y=some y')
  {t:Bool} (ht:ev env c'= .bool t):ar K β H a w o (if t then ev env x' else ev env y'):=by
 have h:=hr.ev hc;rw[ht] at h;simp only[RV] at h;refine ar.same (v:=if t then a.eval x else a.eval y) ?_ ?_ ?_
 ·cases t<;>simp[execOp,ho,h,asBool]
 ·cases t
  ·simpa using hr.ev hy
  simpa using hr.ev hx
 cases t
 ·simpa using hr.cR hy
 simpa using hr.cR hx
def addr_add (g off n:Nat):(⟨g,off,none⟩:Addr).add n=⟨g,off+n,none⟩:=by
 unfold Addr.add;split<;>simp_all
def bu {P:Program} {t:TypeId} {s:Nat} (h:j0 P t=some s) (w:World):(sizeOf t).run P w= .ok s w:=by
 unfold j0 at h;obtain⟨i,h1,h2⟩:=Fu.1 h;simp[sizeOf,typeInfo,h1,h2]
theorem eS {w:World} {I:Nat→Prop}:∀(n:Nat) (cs:List IV) (b o:Nat),aR w I cs b o→aR w I (cs.drop n) b (o+n)
 |0,cs,b,o,h=>by simpa using h
 |n+1,[],b,o,_=>by simp[aR]
 |n+1,x::r,b,o,h=>by
  simp only[aR] at h;have:=eS n r b (o+1) h.2;rw[GI]
  rwa[show o+1+n=o+(n+1) by omega] at this
def zC (hr:au K β env H a w) {o:Oper} {t:TypeId} {x:Operand} {f:Nat} {fs:Array Field} {fd:Field} {s:Nat} {x':O} (ho:o.op= .fieldAddr t x f)
  (ht:K.P.underlying t=some (.struct fs)) (hf:fs[f]?=some fd) (hs:j0 K.P fd.type=some s) (oW:s≠0) (hx:co K.G x=some x') {y:AV}
  (hy:aa (.qJ x' fd.offset) env=some y):ar K β H a w o y:=by
 have h:=hr.ev hx;have hm:=hr.cR hx;have run:∀ad:Addr,a.eval x= .pointer (some ad)→(execOp a.eval o).run K.P w= .ok (.value (.pointer (some (ad.add fd.offset)))) w:=fun ad BK=>by
  simp[execOp,ho,BK,Instr.fieldAt,run_underlying ht,hf,Instr.sureAddr,fieldPlace,bu hs,oW,Result.andThen]
 simp only[aa] at hy;split at hy<;>simp at hy<;>subst hy<;>rename_i heq
 ·rw[heq] at h hm;simp only[RV] at h;obtain⟨ad,h1,h2⟩:=h;refine ar.same (run ad h1) ?_ (by simpa[AV.ax] using hm);simp only[RV];refine⟨_,rfl,fun hl=> ?_⟩;obtain⟨g,k1,rfl⟩:=h2 hl;exact⟨g,k1,by rw[addr_add];simp[GZ]⟩
 rw[heq] at h;simp only[RV] at h;obtain⟨b,o',h1,h2,h3,h4⟩:=h;refine ar.same (run _ h1) ?_ (by simp[AV.ax]);rw[addr_add];exact⟨b,_,rfl,h2,h3,eS _ _ _ _ h4⟩
theorem kW {w:World} {I:Nat→Prop} {sz:Nat}:∀(k:Nat) (xs:List IV) (b o:Nat) (y:IV),xs[k]?=some y→aT w I xs b o sz→dR w I y b (o+k*sz) sz
 |0,[],_,_,_,h,_=>by simp at h
 |0,x::r,b,o,y,h,he=>by
  simp at h;subst h;simp only[aT] at he;simpa using he.1
 |k+1,[],_,_,_,h,_=>by simp at h
 |k+1,x::r,b,o,y,h,he=>by
  simp only[aT] at he;have:=kW k r b (o+sz) y (by simpa using h) he.2
  rwa[show o+sz+k*sz=o+(k+1)*sz by rw[FI];omega] at this
def run_indexAt_slice {P:Program} {w:World} {t e:TypeId} {s:Nat} (ht:P.underlying t=some (.slice e)) (hs:j0 P e=some s) (ad:Addr) (n c:Nat) (k:IntKind) (i:Int) (h0:0≤i) (hi:i.toNat<n) :
  (Instr.indexAt t (.slice (some ad) n c) (.int k i)).run P w= .ok (.pointer (some (ad.add (i.toNat*s)))) w:=by
 have:i<(n:Int):=by omega
 simp[Instr.indexAt,asIntOf,run_underlying ht,bu hs,h0,this,Result.andThen]
def zD (hr:au K β env H a w) {o:Oper} {t e:TypeId} {x i:Operand} {n s:Nat} {x' i':O} (ho:o.op= .indexAddr t x i)
  (ht:K.P.underlying t=some (.array n e)) (hs:j0 K.P e=some s) (hx:co K.G x=some x') (hi:co K.G i=some i') {y:AV}
  (hy:aa (.qO x' i' n s) env=some y):ar K β H a w o y:=by
 have h:=hr.ev hx;have h2:=hr.ev hi;have hm:=hr.cR hx;have run:∀(ad:Addr) (k:IntKind) (m:Int),a.eval x= .pointer (some ad)→a.eval i= .int k m→0≤m→m.toNat<n→(execOp a.eval o).run K.P w= .ok (.value (.pointer (some (ad.add (m.toNat*s))))) w:=fun ad k m BK pA h0 cD=>by
  have DE:m<(n:Int):=by omega
  simp[execOp,ho,BK,pA,Instr.indexAt,asIntOf,run_underlying ht,Instr.sureAddr,bu hs,Result.andThen,h0,DE]
 simp only[aa] at hy;split at hy
 ·rename_i l sz a0 j k m e1 e2;rw[e1] at h hm;rw[e2] at h2;simp only[RV,de] at h h2;split at hy
  ·rename_i hn;simp only[cQ] at hy;subst hy;obtain⟨ad,h3,h4⟩:=h;refine ar.same (run ad k m h3 h2 hn.1 hn.2) ?_ (by simpa[AV.ax] using hm);simp only[RV];refine⟨_,rfl,fun hl=> ?_⟩;obtain⟨g,k1,rfl⟩:=h4 hl;exact⟨g,k1,by rw[addr_add];simp[GZ]⟩
  simp at hy
 ·rename_i cs k m e1 e2;rw[e1] at h;rw[e2] at h2;simp only[RV,de] at h h2;split at hy
  ·rename_i hn;simp only[cQ] at hy;subst hy;obtain⟨b,o',h3,h4,h5,h6⟩:=h;refine ar.same (run _ k m h3 h2 hn.1 hn.2) ?_ (by simp[AV.ax]);rw[addr_add];exact⟨b,_,rfl,h4,h5,eS _ _ _ _ h6⟩
  simp at hy
 simp at hy
def zE (hr:au K β env H a w) {o:Oper} {t e:TypeId} {x i:Operand} {s:Nat} {x' i':O} (ho:o.op= .indexAddr t x i)
  (ht:K.P.underlying t=some (.slice e)) (hs:j0 K.P e=some s) (hx:co K.G x=some x') (hi:co K.G i=some i') {y:AV}
  (hy:aa (.qK x' i' s) env=some y):ar K β H a w o y:=by
 have h:=hr.ev hx;have h2:=hr.ev hi;have hm:=hr.cR hx;simp only[aa] at hy;split at hy
 ·rename_i xs k n e1 e2;rw[e1] at h;rw[e2] at h2;simp only[RV,de] at h h2;split at hy
  ·rename_i hn;split at hy
   ·rename_i z hz;split at hy
    ·rename_i jM;simp only[cQ] at hy;subst hy;obtain⟨ad,c,h3,h4,h5,h6⟩:=h;have cD:n.toNat<xs.length:=(Fw.1 hz).1;rcases h6 with h6|⟨b,of,sz,rfl,h7,h8,h9,Bj⟩
     ·omega
     have wL:=kW n.toNat xs b of z hz Bj;rw[dB] at wL;have DF:sz=s:=(by rw[wL.1];exact jM z (Fx hz));subst DF;refine ar.same (v:= .pointer (some ⟨b,of+n.toNat*sz,none⟩)) ?_ ⟨b,_,rfl,h7,h8,wL.2⟩ (by simp[AV.ax]);simp[execOp,ho,h3,h2,run_indexAt_slice ht hs _ _ _ _ _ hn cD,addr_add]
    simp at hy
   simp at hy
  simp at hy
 ·rename_i l s' i0 m k n e1 e2;rw[e1] at h hm;rw[e2] at h2;simp only[RV] at h h2;split at hy
  ·rename_i hn;obtain⟨kX,tL,rfl⟩:=hn;simp only[cQ] at hy;subst hy;obtain⟨ad,c,h3,h4,h5,h6,h7⟩:=h;obtain⟨DG,rfl⟩:=G4.1 (h6 (by omega));refine ar.same (v:= .pointer (some (DG.add (n.toNat*s')))) ?_ ?_ (by simpa[AV.ax] using hm)
   ·simp[execOp,ho,h3,h2,run_indexAt_slice ht hs _ _ _ _ _ kX tL]
   refine⟨_,rfl,fun hl=> ?_⟩;rcases h7 hl with h8|⟨g,S,k1,k2,k3,k4⟩
   ·omega
   simp only[cQ] at k2;subst k2;exact⟨g,k1,by rw[addr_add];simp[FI]⟩
  simp at hy
 simp at hy
def zF (hr:au K β env H a w) {o:Oper} {t:TypeId} {x i:Operand} {x' i':O} (ho:o.op= .index t x i)
  (ht:K.P.underlying t=some .string) (hx:co K.G x=some x') (hi:co K.G i=some i') {y:AV}
  (hy:aa (.f_ x' i') env=some y):ar K β H a w o y:=by
 have h:=hr.ev hx;have h2:=hr.ev hi;simp only[aa] at hy;split at hy
 ·rename_i s k n e1 e2;rw[e1] at h;rw[e2] at h2;simp only[RV] at h h2;split at hy
  ·rename_i hn;split at hy
   ·rename_i c hc;simp only[cQ] at hy;subst hy;have cD:n.toNat<s.length:=(Fw.1 hc).1;refine ar.same (v:= .int .u8 c.toNat) ?_ (by simp[RV]) (by simp[AV.ax]);have DH:(⟨s.toArray⟩:ByteArray)[n.toNat]?=some c:=by
     have e:s[n.toNat]=c:=(Fw.1 hc).2;have hs:n.toNat<(⟨s.toArray⟩:ByteArray).size:=(by show n.toNat<s.toArray.size;simpa using cD);rw[getElem?_pos (⟨s.toArray⟩:ByteArray) n.toNat hs];exact FK some e
    simp[execOp,ho,h,h2,Instr.index,asIntOf,run_underlying ht,hn,DH]
   simp at hy
  simp at hy
 simp at hy
def gd (s:List UInt8):(⟨s.toArray⟩:ByteArray).size=s.length:=by show s.toArray.size=_;simp
def wM (hr:au K β env H a w) {o:Oper} {c:Call} {x:Operand} {x':O} (ho:o.op= .call c) (hc:c.callee= .builtin .len) (ha:c.args.toList=[x])
  (ht:c.argTypes[0]?.bind K.P.underlying=some .string) (hx:co K.G x=some x') {y:AV} (hy:aa (.lens x') env=some y):ar K β H a w o y:=by
 have h:=hr.ev hx;obtain⟨t,tM,tO⟩:=Fv.1 ht;have lO:c.args=#[x]:=by cases hh:c.args;simp_all
 simp only[aa] at hy;split at hy
 ·rename_i s hs;rw[hs] at h;simp only[RV,cQ] at h hy;subst hy;refine ar.same (v:= .int .i64 s.length) ?_ (by simp[RV]) (by simp[AV.ax]);simp[execOp,ho,resolve,hc,lO,h,invoke,builtin,Builtin.len_,tM,run_underlying tO,goInt,gd]
 simp at hy
def zG (hr:au K β env H a w) {o:Oper} {c:Call} {x:Operand} {x':O} {e:TypeId} (ho:o.op= .call c) (hc:c.callee= .builtin .len) (ha:c.args.toList=[x])
  (ht:c.argTypes[0]?.bind K.P.underlying=some (.slice e)) (hx:co K.G x=some x') {y:AV} (hy:aa (.len x') env=some y):ar K β H a w o y:=by
 have h:=hr.ev hx;obtain⟨t,tM,tO⟩:=Fv.1 ht;have lO:c.args=#[x]:=by cases hh:c.args;simp_all
 have sl:∀(ad:Option Addr) (n c':Nat),a.eval x= .slice ad n c'→(execOp a.eval o).run K.P w= .ok (.value (.int .i64 n)) w:=by
  intro ad n c' hv;simp[execOp,ho,resolve,hc,lO,hv,invoke,builtin,Builtin.len_,tM,run_underlying tO,goInt]
 simp only[aa] at hy;split at hy
 ·rename_i xs hs;rw[hs] at h;simp only[RV,de,cQ] at h hy;subst hy;obtain⟨ad,c',h3,h4⟩:=h;exact ar.same (sl _ _ _ h3) (by simp[RV]) (by simp[AV.ax])
 ·rename_i hs;rw[hs] at h;simp only[RV,cQ] at h hy;subst hy;obtain⟨ad,h3⟩:=h;exact ar.same (sl _ _ _ h3) (by simp[RV]) (by simp[AV.ax])
 ·rename_i l sz i n hs;rw[hs] at h;simp only[RV,cQ] at h hy;subst hy;obtain⟨ad,c',h3,h4⟩:=h;exact ar.same (sl _ _ _ h3) (by simp[RV]) (by simp[AV.ax])
 ·rename_i l sz i n c hs;rw[hs] at h;simp only[RV,cQ] at h hy;subst hy;obtain⟨ad,h3,h4⟩:=h;exact ar.same (sl _ _ _ h3) (by simp[RV]) (by simp[AV.ax])
 simp at hy
def jN (op:BinOp) (t:TypeId) (x y:Operand) (k k':IntKind) (m n:Int) {P:Program} {w:World}:(eqGuard op t x y (.int k m) (.int k' n)).run P w= .ok () w:=by
 cases op<;>simp[eqGuard]
def jO (op:BinOp) (t:TypeId) (x y:Operand) (m n:ByteArray) {P:Program} {w:World}:(eqGuard op t x y (.string m) (.string n)).run P w= .ok () w:=by
 cases op<;>simp[eqGuard]
def vY (hr:au K β env H a w) {o:Oper} {op:BinOp} {t t2:TypeId} {x y:Operand} {x' y':O} (ho:o.op= .binOp op t x y t2)
  (hx:co K.G x=some x') (hy:co K.G y=some y') {z:AV} (hz:aa (.bin op x' y') env=some z):ar K β H a w o z:=by
 have h:=hr.ev hx;have h2:=hr.ev hy;simp only[aa,b6] at hz;split at hz
 ·rename_i k m k' n e1 e2;rw[e1] at h;rw[e2] at h2;simp only[RV] at h h2;split at hz
  ·rename_i hk;subst hk;have key:∀v,(binOp op t (.int k m) (.int k n)).run K.P w= .ok v w→RV w β H (Im K β H) z v→z.ax=[]→ar K β H a w o z:=by
    intro v hv vZ hl;refine ar.same (v:=v) ?_ vZ (by simp[hl]);simp[execOp,ho,h,h2,jN,hv]
   cases op<;>simp only[cQ,reduceCtorEq] at hz
   case quo=>
    split at hz
    ·simp at hz
    rename_i hn;simp only[cQ] at hz;subst hz;exact key (.int k (k.wrap (m.tdiv n))) (by simp[binOp,Op.intDiv,hn]) (by simp[RV]) (by simp[AV.ax])
   case rem=>
    split at hz
    ·simp at hz
    rename_i hn;simp only[cQ] at hz;subst hz;exact key (.int k (m.tmod n)) (by simp[binOp,Op.intDiv,hn]) (by simp[RV]) (by simp[AV.ax])
   case shr=>
    split at hz
    ·rename_i hn;simp only[cQ] at hz;subst hz;exact key (.int k (m/2^min n.toNat k.bits)) (by rw[binOp_shr,shift_shr_any k k m n hn];rfl) (by simp[RV]) (by simp[AV.ax])
    simp at hz
   all_goals (subst hz;refine key _ (by simp[binOp,Op.intArith,Op.intCmp];rfl) (by simp[RV]) (by simp[AV.ax]))
  simp at hz
 ·rename_i s u e1 e2;rw[e1] at h;rw[e2] at h2;simp only[RV] at h h2;have key:∀v,(binOp op t (.string ⟨s.toArray⟩) (.string ⟨u.toArray⟩)).run K.P w= .ok v w→RV w β H (Im K β H) z v→z.ax=[]→ar K β H a w o z:=by
   intro v hv vZ hl;refine ar.same (v:=v) ?_ vZ (by simp[hl]);simp[execOp,ho,h,h2,jO,hv]
  cases op<;>simp only[cQ,reduceCtorEq] at hz
  case add=>
   split at hz
   ·rename_i hn;simp only[cQ] at hz;subst hz;refine key (.string ⟨(s++u).toArray⟩) ?_ (by simp[RV]) (by simp[AV.ax]);have h1:¬((((⟨s.toArray⟩:ByteArray).size+(⟨u.toArray⟩:ByteArray).size:Nat):Int)>IntKind.i64.max):=by
     rw[gd,gd];simp only[IntKind.max,IntKind.signed,IntKind.bits];simp;omega
    have h3:(⟨s.toArray⟩:ByteArray)++⟨u.toArray⟩=⟨(s++u).toArray⟩:=by
     apply HT;show((⟨s.toArray⟩:ByteArray)++⟨u.toArray⟩).data=(s++u).toArray;simp[ByteArray.data_append]
    simp only[binOp,Op.stringOp,h1,GM,h3,Sem.run_pure]
   simp at hz
  all_goals (subst hz;refine key _ (by simp[binOp,Op.stringOp,ByteArray.toList_mk];rfl) (by simp[RV]) (by simp[AV.ax]))
 simp at hz
end
end Go.Am
