import Derived.Test.YtfinkeaikbmpgaaKAm23
set_option linter.unusedSimpArgs false
set_option linter.unusedVariables false
set_option linter.unnecessarySimpa false
set_option linter.defProp false
/- Texts and names that are good. -/
namespace Go.Am
open Go Go.RowKit
def plainC (c : UInt8) : Bool := !((((c.toNat : Int) != 10)) && (decide ((c.toNat : Int) < 32) || decide ((c.toNat : Int) > 126)))
def plain (s : Bs) : Bool := s.all plainC && decide ((s.length : Int) ≤ 40)
def cPlain : AC :=
(.seq
 (.reg [
   ⟨some 2,none,.mov (.c (.bool false))⟩])
(.seq
 (.seq
   (.reg [
     ⟨some 4,none,.mov (.t 0)⟩,
     ⟨some 5,none,.lens (.t 4)⟩,
     ⟨some 6,none,.mov (.c (.int .i64 0))⟩])
 (.block 0
   (.loop
     (.seq
       (.reg [
         ⟨some 7,none,.bin .lss (.t 6) (.t 5)⟩])
     (.seq
       (.cond (.t 7)
         .skip
         (.exit 0))
     (.seq
       (.block 1
         (.seq
           (.reg [
             ⟨some 8,none,.mov (.t 6)⟩,
             ⟨some 3,none,.mov (.t 8)⟩])
         (.seq
           (.reg [
             ⟨some 9,none,.mov (.t 0)⟩,
             ⟨some 10,none,.mov (.t 3)⟩,
             ⟨some 11,none,.ixs (.t 9) (.t 10)⟩,
             ⟨some 12,none,.bin .neq (.t 11) (.c (.int .u8 10))⟩,
             ⟨some 13,none,.mov (.t 12)⟩,
             ⟨some 14,(some (13,true)),(.mov (.t 0))⟩,
             ⟨some 15,(some (13,true)),(.mov (.t 3))⟩,
             ⟨some 16,(some (13,true)),(.ixs (.t 14) (.t 15))⟩,
             ⟨some 17,(some (13,true)),(.bin .lss (.t 16) (.c (.int .u8 32)))⟩,
             ⟨some 18,(some (13,true)),(.mov (.t 17))⟩,
             ⟨some 19,(some (18,false)),(.mov (.t 0))⟩,
             ⟨some 20,(some (18,false)),(.mov (.t 3))⟩,
             ⟨some 21,(some (18,false)),(.ixs (.t 19) (.t 20))⟩,
             ⟨some 22,(some (18,false)),(.bin .gtr (.t 21) (.c (.int .u8 126)))⟩,
             ⟨some 23,(some (13,true)),(.pick (.t 18) (.c (.bool true)) (.t 22))⟩,
             ⟨some 24,none,.pick (.t 13) (.t 23) (.c (.bool false))⟩])
         (.cond (.t 24)
           (.seq
             (.reg [
               ⟨some 2,none,.mov (.c (.bool false))⟩])
           .ret)
           .skip))))
     (.reg [
       ⟨some 25,none,.bin .add (.t 6) (.c (.int .i64 1))⟩,
       ⟨some 6,none,.mov (.t 25)⟩])))))))
(.seq
 (.reg [
   ⟨some 26,none,.mov (.t 0)⟩,
   ⟨some 27,none,.lens (.t 26)⟩,
   ⟨some 28,none,.bin .leq (.t 27) (.c (.int .i64 40))⟩,
   ⟨some 2,none,.mov (.t 28)⟩])
.ret)))
def ePlain (s : Bs) (i : Nat) : Env := put (put (put Env.any 0 (.str s)) 5 (.int .i64 s.length)) 6 (.int .i64 i)
theorem all_take {p : UInt8 → Bool} {s : Bs} {i : Nat} {c : UInt8} (h : (s.take i).all p = true) (hc : s[i]? = some c) (hp : p c = true) : (s.take (i + 1)).all p = true := by
 rw [List.take_add_one,hc]; simp [h,hp]
theorem all_not {p : UInt8 → Bool} {s : Bs} {i : Nat} {c : UInt8} (hc : s[i]? = some c) (hp : p c = false) : s.all p = false := by
 cases h : s.all p with
 | false => rfl
 | true =>
   have := List.all_eq_true.1 h c (List.mem_of_getElem? hc)
   rw [hp] at this; exact this.symm
theorem pPlain {P : Program} {G : Nat → Option (List IV)} {f : Nat} (hF : compF P G f = some (29,[(none,2)],cPlain.bare)) (s : Bs) (hx : s.length ≤ B) :
   PureC P G f [.str s] (.bool (plain s)) := by
 refine pure_of_go hF (by simp) (by simp [lbss,AV.lbs]) (by simp [AV.lbs]) ?_
 unfold cPlain
 simp only [↓evs,evp,boxK,↓a1_still,stillV,ev,argE,List.getD_cons_zero,List.getD_cons_succ,Nat.reduceEqDiff,if_false,if_true,Nat.reduceLT,Nat.reduceLeDiff,Nat.reduceAdd,Nat.reduceMul,true_and,and_true,List.length_map,binV,AV.cells,List.length_cons,List.length_nil,upd_at,Lb.loc.injEq,↓af_still,↓af_load,↓af_store,↓af_app,↓af_new,↓af_box,loadV,storeV,ldV,List.getElem?_cons_zero,List.getElem?_cons_succ,Option.bind_some,Option.map_some,List.map_cons,List.map_nil,Int.natCast_nonneg,Int.toNat_natCast,AV.stb,AV.one,List.all_cons,List.all_nil,Bool.and_self,Bool.and_true,Bool.true_and,List.take_succ_cons,List.take_zero,List.drop_succ_cons,List.drop_zero,List.cons_append,List.nil_append,List.append_nil,List.set_cons_zero,IV.av1,Lb.app,Lb.fresh,fam_loc,fam_par,fam_gen,fam_nest,reduceCtorEq,Bool.false_eq_true,List.take,List.drop,List.mem_cons,List.not_mem_nil,or_false,ptrL,appL,forall_eq,false_implies,implies_true,ev,Hp.none,Nat.le_refl,List.set_cons_succ,fillA,chunks,ivs,AV.iv,mkE,List.replicate_one,List.flatten_cons,List.flatten_nil,Nat.zero_mul,Nat.zero_add,Nat.mul_one]
 refine loop_intro (σ := { i : Nat // i ≤ s.length ∧ (s.take i).all plainC = true }) (fun q => ePlain s q.1) (fun _ => Hp.none) (fun q => s.length - q.1) ⟨0,by simp⟩ id ?_ ?_
 · refine .none ?_ ?_
   · exact we_put rfl (we_put rfl (we_put rfl (we_any _ _)))
   · exact wm_put (by simp [AV.lbs]) (wm_put (by simp [AV.lbs]) (wm_put (by simp [AV.lbs]) (wm_any _)))
 · rintro ⟨i,hi,hs⟩
   simp only [↓evs,evp,boxK,↓a1_still,stillV,ev,argE,List.getD_cons_zero,List.getD_cons_succ,Nat.reduceEqDiff,if_false,if_true,Nat.reduceLT,Nat.reduceLeDiff,Nat.reduceAdd,Nat.reduceMul,true_and,and_true,List.length_map,binV,AV.cells,List.length_cons,List.length_nil,upd_at,Lb.loc.injEq,↓af_still,↓af_load,↓af_store,↓af_app,↓af_new,↓af_box,loadV,storeV,ldV,List.getElem?_cons_zero,List.getElem?_cons_succ,Option.bind_some,Option.map_some,List.map_cons,List.map_nil,Int.natCast_nonneg,Int.toNat_natCast,AV.stb,AV.one,List.all_cons,List.all_nil,Bool.and_self,Bool.and_true,Bool.true_and,List.take_succ_cons,List.take_zero,List.drop_succ_cons,List.drop_zero,List.cons_append,List.nil_append,List.append_nil,List.set_cons_zero,IV.av1,Lb.app,Lb.fresh,fam_loc,fam_par,fam_gen,fam_nest,reduceCtorEq,Bool.false_eq_true,List.take,List.drop,List.mem_cons,List.not_mem_nil,or_false,ptrL,appL,forall_eq,false_implies,implies_true,ev,Hp.none,Nat.le_refl,List.set_cons_succ,fillA,chunks,ivs,AV.iv,mkE,List.replicate_one,List.flatten_cons,List.flatten_nil,Nat.zero_mul,Nat.zero_add,Nat.mul_one,ePlain]
   by_cases hlt : i < s.length
   · rw [show decide ((i : Int) < (s.length : Int)) = true by simpa using hlt]
     obtain ⟨c,hc⟩ : ∃ c,s[i]? = some c := ⟨_,List.getElem?_eq_getElem hlt⟩
     have hw : IntKind.i64.wrap ((i : Int) + 1) = ((i + 1 : Nat) : Int) := wrap64 (by omega) (by unfold B at hx; omega)
     have next : plainC c = true → ∃ q : { i : Nat // i ≤ s.length ∧ (s.take i).all plainC = true },q.1 = i + 1 := fun hp => ⟨⟨i + 1,hlt,all_take hs hc hp⟩,rfl⟩
     simp only [↓evs,evp,boxK,↓a1_still,stillV,ev,argE,List.getD_cons_zero,List.getD_cons_succ,Nat.reduceEqDiff,if_false,if_true,Nat.reduceLT,Nat.reduceLeDiff,Nat.reduceAdd,Nat.reduceMul,true_and,and_true,List.length_map,binV,AV.cells,List.length_cons,List.length_nil,upd_at,Lb.loc.injEq,↓af_still,↓af_load,↓af_store,↓af_app,↓af_new,↓af_box,loadV,storeV,ldV,List.getElem?_cons_zero,List.getElem?_cons_succ,Option.bind_some,Option.map_some,List.map_cons,List.map_nil,Int.natCast_nonneg,Int.toNat_natCast,AV.stb,AV.one,List.all_cons,List.all_nil,Bool.and_self,Bool.and_true,Bool.true_and,List.take_succ_cons,List.take_zero,List.drop_succ_cons,List.drop_zero,List.cons_append,List.nil_append,List.append_nil,List.set_cons_zero,IV.av1,Lb.app,Lb.fresh,fam_loc,fam_par,fam_gen,fam_nest,reduceCtorEq,Bool.false_eq_true,List.take,List.drop,List.mem_cons,List.not_mem_nil,or_false,ptrL,appL,forall_eq,false_implies,implies_true,ev,Hp.none,Nat.le_refl,List.set_cons_succ,fillA,chunks,ivs,AV.iv,mkE,List.replicate_one,List.flatten_cons,List.flatten_nil,Nat.zero_mul,Nat.zero_add,Nat.mul_one,hc]
     cases h1 : ((c.toNat : Int) != 10) with
     | false =>
       obtain ⟨q,hq⟩ := next (by simp [plainC,h1])
       simp only [↓evs,evp,boxK,↓a1_still,stillV,ev,argE,List.getD_cons_zero,List.getD_cons_succ,Nat.reduceEqDiff,if_false,if_true,Nat.reduceLT,Nat.reduceLeDiff,Nat.reduceAdd,Nat.reduceMul,true_and,and_true,List.length_map,binV,AV.cells,List.length_cons,List.length_nil,upd_at,Lb.loc.injEq,↓af_still,↓af_load,↓af_store,↓af_app,↓af_new,↓af_box,loadV,storeV,ldV,List.getElem?_cons_zero,List.getElem?_cons_succ,Option.bind_some,Option.map_some,List.map_cons,List.map_nil,Int.natCast_nonneg,Int.toNat_natCast,AV.stb,AV.one,List.all_cons,List.all_nil,Bool.and_self,Bool.and_true,Bool.true_and,List.take_succ_cons,List.take_zero,List.drop_succ_cons,List.drop_zero,List.cons_append,List.nil_append,List.append_nil,List.set_cons_zero,IV.av1,Lb.app,Lb.fresh,fam_loc,fam_par,fam_gen,fam_nest,reduceCtorEq,Bool.false_eq_true,List.take,List.drop,List.mem_cons,List.not_mem_nil,or_false,ptrL,appL,forall_eq,false_implies,implies_true,ev,Hp.none,Nat.le_refl,List.set_cons_succ,fillA,chunks,ivs,AV.iv,mkE,List.replicate_one,List.flatten_cons,List.flatten_nil,Nat.zero_mul,Nat.zero_add,Nat.mul_one,hc,hw]
       refine ⟨q,by omega,id,.none ?_ ?_⟩
       · rw [hq]; exact we_put rfl (we_put rfl (we_put rfl (we_any _ _)))
       · exact wm_put (by simp [AV.lbs]) (wm_put (by simp [AV.lbs]) (wm_put (by simp [AV.lbs]) (wm_any _)))
     | true =>
       simp only [↓evs,evp,boxK,↓a1_still,stillV,ev,argE,List.getD_cons_zero,List.getD_cons_succ,Nat.reduceEqDiff,if_false,if_true,Nat.reduceLT,Nat.reduceLeDiff,Nat.reduceAdd,Nat.reduceMul,true_and,and_true,List.length_map,binV,AV.cells,List.length_cons,List.length_nil,upd_at,Lb.loc.injEq,↓af_still,↓af_load,↓af_store,↓af_app,↓af_new,↓af_box,loadV,storeV,ldV,List.getElem?_cons_zero,List.getElem?_cons_succ,Option.bind_some,Option.map_some,List.map_cons,List.map_nil,Int.natCast_nonneg,Int.toNat_natCast,AV.stb,AV.one,List.all_cons,List.all_nil,Bool.and_self,Bool.and_true,Bool.true_and,List.take_succ_cons,List.take_zero,List.drop_succ_cons,List.drop_zero,List.cons_append,List.nil_append,List.append_nil,List.set_cons_zero,IV.av1,Lb.app,Lb.fresh,fam_loc,fam_par,fam_gen,fam_nest,reduceCtorEq,Bool.false_eq_true,List.take,List.drop,List.mem_cons,List.not_mem_nil,or_false,ptrL,appL,forall_eq,false_implies,implies_true,ev,Hp.none,Nat.le_refl,List.set_cons_succ,fillA,chunks,ivs,AV.iv,mkE,List.replicate_one,List.flatten_cons,List.flatten_nil,Nat.zero_mul,Nat.zero_add,Nat.mul_one,hc]
       cases h2 : decide ((c.toNat : Int) < 32) with
       | true =>
         simp only [↓evs,evp,boxK,↓a1_still,stillV,ev,argE,List.getD_cons_zero,List.getD_cons_succ,Nat.reduceEqDiff,if_false,if_true,Nat.reduceLT,Nat.reduceLeDiff,Nat.reduceAdd,Nat.reduceMul,true_and,and_true,List.length_map,binV,AV.cells,List.length_cons,List.length_nil,upd_at,Lb.loc.injEq,↓af_still,↓af_load,↓af_store,↓af_app,↓af_new,↓af_box,loadV,storeV,ldV,List.getElem?_cons_zero,List.getElem?_cons_succ,Option.bind_some,Option.map_some,List.map_cons,List.map_nil,Int.natCast_nonneg,Int.toNat_natCast,AV.stb,AV.one,List.all_cons,List.all_nil,Bool.and_self,Bool.and_true,Bool.true_and,List.take_succ_cons,List.take_zero,List.drop_succ_cons,List.drop_zero,List.cons_append,List.nil_append,List.append_nil,List.set_cons_zero,IV.av1,Lb.app,Lb.fresh,fam_loc,fam_par,fam_gen,fam_nest,reduceCtorEq,Bool.false_eq_true,List.take,List.drop,List.mem_cons,List.not_mem_nil,or_false,ptrL,appL,forall_eq,false_implies,implies_true,ev,Hp.none,Nat.le_refl,List.set_cons_succ,fillA,chunks,ivs,AV.iv,mkE,List.replicate_one,List.flatten_cons,List.flatten_nil,Nat.zero_mul,Nat.zero_add,Nat.mul_one,hc]
         rw [plain,all_not hc (by simp [plainC,h1,h2])]; rfl
       | false =>
         simp only [↓evs,evp,boxK,↓a1_still,stillV,ev,argE,List.getD_cons_zero,List.getD_cons_succ,Nat.reduceEqDiff,if_false,if_true,Nat.reduceLT,Nat.reduceLeDiff,Nat.reduceAdd,Nat.reduceMul,true_and,and_true,List.length_map,binV,AV.cells,List.length_cons,List.length_nil,upd_at,Lb.loc.injEq,↓af_still,↓af_load,↓af_store,↓af_app,↓af_new,↓af_box,loadV,storeV,ldV,List.getElem?_cons_zero,List.getElem?_cons_succ,Option.bind_some,Option.map_some,List.map_cons,List.map_nil,Int.natCast_nonneg,Int.toNat_natCast,AV.stb,AV.one,List.all_cons,List.all_nil,Bool.and_self,Bool.and_true,Bool.true_and,List.take_succ_cons,List.take_zero,List.drop_succ_cons,List.drop_zero,List.cons_append,List.nil_append,List.append_nil,List.set_cons_zero,IV.av1,Lb.app,Lb.fresh,fam_loc,fam_par,fam_gen,fam_nest,reduceCtorEq,Bool.false_eq_true,List.take,List.drop,List.mem_cons,List.not_mem_nil,or_false,ptrL,appL,forall_eq,false_implies,implies_true,ev,Hp.none,Nat.le_refl,List.set_cons_succ,fillA,chunks,ivs,AV.iv,mkE,List.replicate_one,List.flatten_cons,List.flatten_nil,Nat.zero_mul,Nat.zero_add,Nat.mul_one,hc]
         cases h3 : decide ((c.toNat : Int) > 126) with
         | true =>
           simp only [↓evs,evp,boxK,↓a1_still,stillV,ev,argE,List.getD_cons_zero,List.getD_cons_succ,Nat.reduceEqDiff,if_false,if_true,Nat.reduceLT,Nat.reduceLeDiff,Nat.reduceAdd,Nat.reduceMul,true_and,and_true,List.length_map,binV,AV.cells,List.length_cons,List.length_nil,upd_at,Lb.loc.injEq,↓af_still,↓af_load,↓af_store,↓af_app,↓af_new,↓af_box,loadV,storeV,ldV,List.getElem?_cons_zero,List.getElem?_cons_succ,Option.bind_some,Option.map_some,List.map_cons,List.map_nil,Int.natCast_nonneg,Int.toNat_natCast,AV.stb,AV.one,List.all_cons,List.all_nil,Bool.and_self,Bool.and_true,Bool.true_and,List.take_succ_cons,List.take_zero,List.drop_succ_cons,List.drop_zero,List.cons_append,List.nil_append,List.append_nil,List.set_cons_zero,IV.av1,Lb.app,Lb.fresh,fam_loc,fam_par,fam_gen,fam_nest,reduceCtorEq,Bool.false_eq_true,List.take,List.drop,List.mem_cons,List.not_mem_nil,or_false,ptrL,appL,forall_eq,false_implies,implies_true,ev,Hp.none,Nat.le_refl,List.set_cons_succ,fillA,chunks,ivs,AV.iv,mkE,List.replicate_one,List.flatten_cons,List.flatten_nil,Nat.zero_mul,Nat.zero_add,Nat.mul_one,hc]
           rw [plain,all_not hc (by simp [plainC,h1,h2,h3])]; rfl
         | false =>
           obtain ⟨q,hq⟩ := next (by simp [plainC,h1,h2,h3])
           simp only [↓evs,evp,boxK,↓a1_still,stillV,ev,argE,List.getD_cons_zero,List.getD_cons_succ,Nat.reduceEqDiff,if_false,if_true,Nat.reduceLT,Nat.reduceLeDiff,Nat.reduceAdd,Nat.reduceMul,true_and,and_true,List.length_map,binV,AV.cells,List.length_cons,List.length_nil,upd_at,Lb.loc.injEq,↓af_still,↓af_load,↓af_store,↓af_app,↓af_new,↓af_box,loadV,storeV,ldV,List.getElem?_cons_zero,List.getElem?_cons_succ,Option.bind_some,Option.map_some,List.map_cons,List.map_nil,Int.natCast_nonneg,Int.toNat_natCast,AV.stb,AV.one,List.all_cons,List.all_nil,Bool.and_self,Bool.and_true,Bool.true_and,List.take_succ_cons,List.take_zero,List.drop_succ_cons,List.drop_zero,List.cons_append,List.nil_append,List.append_nil,List.set_cons_zero,IV.av1,Lb.app,Lb.fresh,fam_loc,fam_par,fam_gen,fam_nest,reduceCtorEq,Bool.false_eq_true,List.take,List.drop,List.mem_cons,List.not_mem_nil,or_false,ptrL,appL,forall_eq,false_implies,implies_true,ev,Hp.none,Nat.le_refl,List.set_cons_succ,fillA,chunks,ivs,AV.iv,mkE,List.replicate_one,List.flatten_cons,List.flatten_nil,Nat.zero_mul,Nat.zero_add,Nat.mul_one,hc,hw]
           refine ⟨q,by omega,id,.none ?_ ?_⟩
           · rw [hq]; exact we_put rfl (we_put rfl (we_put rfl (we_any _ _)))
           · exact wm_put (by simp [AV.lbs]) (wm_put (by simp [AV.lbs]) (wm_put (by simp [AV.lbs]) (wm_any _)))
   · rw [show decide ((i : Int) < (s.length : Int)) = false by simpa using hlt]
     simp only [↓evs,evp,boxK,↓a1_still,stillV,ev,argE,List.getD_cons_zero,List.getD_cons_succ,Nat.reduceEqDiff,if_false,if_true,Nat.reduceLT,Nat.reduceLeDiff,Nat.reduceAdd,Nat.reduceMul,true_and,and_true,List.length_map,binV,AV.cells,List.length_cons,List.length_nil,upd_at,Lb.loc.injEq,↓af_still,↓af_load,↓af_store,↓af_app,↓af_new,↓af_box,loadV,storeV,ldV,List.getElem?_cons_zero,List.getElem?_cons_succ,Option.bind_some,Option.map_some,List.map_cons,List.map_nil,Int.natCast_nonneg,Int.toNat_natCast,AV.stb,AV.one,List.all_cons,List.all_nil,Bool.and_self,Bool.and_true,Bool.true_and,List.take_succ_cons,List.take_zero,List.drop_succ_cons,List.drop_zero,List.cons_append,List.nil_append,List.append_nil,List.set_cons_zero,IV.av1,Lb.app,Lb.fresh,fam_loc,fam_par,fam_gen,fam_nest,reduceCtorEq,Bool.false_eq_true,List.take,List.drop,List.mem_cons,List.not_mem_nil,or_false,ptrL,appL,forall_eq,false_implies,implies_true,ev,Hp.none,Nat.le_refl,List.set_cons_succ,fillA,chunks,ivs,AV.iv,mkE,List.replicate_one,List.flatten_cons,List.flatten_nil,Nat.zero_mul,Nat.zero_add,Nat.mul_one]
     have : s.take i = s := List.take_of_length_le (by omega)
     rw [plain,← this,hs,this]; rfl
def nameC (c : UInt8) : Bool := !(decide ((c.toNat : Int) < 97) || decide ((c.toNat : Int) > 122))
def named (s : Bs) : Bool := s.all nameC && (decide ((s.length : Int) ≥ 1) && decide ((s.length : Int) ≤ 8))
def cNamed : AC :=
(.seq
 (.reg [
   ⟨some 2,none,.mov (.c (.bool false))⟩])
(.seq
 (.seq
   (.reg [
     ⟨some 4,none,.mov (.t 0)⟩,
     ⟨some 5,none,.lens (.t 4)⟩,
     ⟨some 6,none,.mov (.c (.int .i64 0))⟩])
 (.block 0
   (.loop
     (.seq
       (.reg [
         ⟨some 7,none,.bin .lss (.t 6) (.t 5)⟩])
     (.seq
       (.cond (.t 7)
         .skip
         (.exit 0))
     (.seq
       (.block 1
         (.seq
           (.reg [
             ⟨some 8,none,.mov (.t 6)⟩,
             ⟨some 3,none,.mov (.t 8)⟩])
         (.seq
           (.reg [
             ⟨some 9,none,.mov (.t 0)⟩,
             ⟨some 10,none,.mov (.t 3)⟩,
             ⟨some 11,none,.ixs (.t 9) (.t 10)⟩,
             ⟨some 12,none,.bin .lss (.t 11) (.c (.int .u8 97))⟩,
             ⟨some 13,none,.mov (.t 12)⟩,
             ⟨some 14,(some (13,false)),(.mov (.t 0))⟩,
             ⟨some 15,(some (13,false)),(.mov (.t 3))⟩,
             ⟨some 16,(some (13,false)),(.ixs (.t 14) (.t 15))⟩,
             ⟨some 17,(some (13,false)),(.bin .gtr (.t 16) (.c (.int .u8 122)))⟩,
             ⟨some 18,none,.pick (.t 13) (.c (.bool true)) (.t 17)⟩])
         (.cond (.t 18)
           (.seq
             (.reg [
               ⟨some 2,none,.mov (.c (.bool false))⟩])
           .ret)
           .skip))))
     (.reg [
       ⟨some 19,none,.bin .add (.t 6) (.c (.int .i64 1))⟩,
       ⟨some 6,none,.mov (.t 19)⟩])))))))
(.seq
 (.reg [
   ⟨some 20,none,.mov (.t 0)⟩,
   ⟨some 21,none,.lens (.t 20)⟩,
   ⟨some 22,none,.bin .geq (.t 21) (.c (.int .i64 1))⟩,
   ⟨some 23,none,.mov (.t 22)⟩,
   ⟨some 24,(some (23,true)),(.mov (.t 0))⟩,
   ⟨some 25,(some (23,true)),(.lens (.t 24))⟩,
   ⟨some 26,(some (23,true)),(.bin .leq (.t 25) (.c (.int .i64 8)))⟩,
   ⟨some 27,none,.pick (.t 23) (.t 26) (.c (.bool false))⟩,
   ⟨some 2,none,.mov (.t 27)⟩])
.ret)))
theorem pNamed {P : Program} {G : Nat → Option (List IV)} {f : Nat} (hF : compF P G f = some (28,[(none,2)],cNamed.bare)) (s : Bs) (hx : s.length ≤ B) :
   PureC P G f [.str s] (.bool (named s)) := by
 refine pure_of_go hF (by simp) (by simp [lbss,AV.lbs]) (by simp [AV.lbs]) ?_
 unfold cNamed
 simp only [↓evs,evp,boxK,↓a1_still,stillV,ev,argE,List.getD_cons_zero,List.getD_cons_succ,Nat.reduceEqDiff,if_false,if_true,Nat.reduceLT,Nat.reduceLeDiff,Nat.reduceAdd,Nat.reduceMul,true_and,and_true,List.length_map,binV,AV.cells,List.length_cons,List.length_nil,upd_at,Lb.loc.injEq,↓af_still,↓af_load,↓af_store,↓af_app,↓af_new,↓af_box,loadV,storeV,ldV,List.getElem?_cons_zero,List.getElem?_cons_succ,Option.bind_some,Option.map_some,List.map_cons,List.map_nil,Int.natCast_nonneg,Int.toNat_natCast,AV.stb,AV.one,List.all_cons,List.all_nil,Bool.and_self,Bool.and_true,Bool.true_and,List.take_succ_cons,List.take_zero,List.drop_succ_cons,List.drop_zero,List.cons_append,List.nil_append,List.append_nil,List.set_cons_zero,IV.av1,Lb.app,Lb.fresh,fam_loc,fam_par,fam_gen,fam_nest,reduceCtorEq,Bool.false_eq_true,List.take,List.drop,List.mem_cons,List.not_mem_nil,or_false,ptrL,appL,forall_eq,false_implies,implies_true,ev,Hp.none,Nat.le_refl,List.set_cons_succ,fillA,chunks,ivs,AV.iv,mkE,List.replicate_one,List.flatten_cons,List.flatten_nil,Nat.zero_mul,Nat.zero_add,Nat.mul_one]
 refine loop_intro (σ := { i : Nat // i ≤ s.length ∧ (s.take i).all nameC = true }) (fun q => ePlain s q.1) (fun _ => Hp.none) (fun q => s.length - q.1) ⟨0,by simp⟩ id ?_ ?_
 · refine .none ?_ ?_
   · exact we_put rfl (we_put rfl (we_put rfl (we_any _ _)))
   · exact wm_put (by simp [AV.lbs]) (wm_put (by simp [AV.lbs]) (wm_put (by simp [AV.lbs]) (wm_any _)))
 · rintro ⟨i,hi,hs⟩
   simp only [↓evs,evp,boxK,↓a1_still,stillV,ev,argE,List.getD_cons_zero,List.getD_cons_succ,Nat.reduceEqDiff,if_false,if_true,Nat.reduceLT,Nat.reduceLeDiff,Nat.reduceAdd,Nat.reduceMul,true_and,and_true,List.length_map,binV,AV.cells,List.length_cons,List.length_nil,upd_at,Lb.loc.injEq,↓af_still,↓af_load,↓af_store,↓af_app,↓af_new,↓af_box,loadV,storeV,ldV,List.getElem?_cons_zero,List.getElem?_cons_succ,Option.bind_some,Option.map_some,List.map_cons,List.map_nil,Int.natCast_nonneg,Int.toNat_natCast,AV.stb,AV.one,List.all_cons,List.all_nil,Bool.and_self,Bool.and_true,Bool.true_and,List.take_succ_cons,List.take_zero,List.drop_succ_cons,List.drop_zero,List.cons_append,List.nil_append,List.append_nil,List.set_cons_zero,IV.av1,Lb.app,Lb.fresh,fam_loc,fam_par,fam_gen,fam_nest,reduceCtorEq,Bool.false_eq_true,List.take,List.drop,List.mem_cons,List.not_mem_nil,or_false,ptrL,appL,forall_eq,false_implies,implies_true,ev,Hp.none,Nat.le_refl,List.set_cons_succ,fillA,chunks,ivs,AV.iv,mkE,List.replicate_one,List.flatten_cons,List.flatten_nil,Nat.zero_mul,Nat.zero_add,Nat.mul_one,ePlain]
   by_cases hlt : i < s.length
   · rw [show decide ((i : Int) < (s.length : Int)) = true by simpa using hlt]
     obtain ⟨c,hc⟩ : ∃ c,s[i]? = some c := ⟨_,List.getElem?_eq_getElem hlt⟩
     have hw : IntKind.i64.wrap ((i : Int) + 1) = ((i + 1 : Nat) : Int) := wrap64 (by omega) (by unfold B at hx; omega)
     have next : nameC c = true → ∃ q : { i : Nat // i ≤ s.length ∧ (s.take i).all nameC = true },q.1 = i + 1 := fun hp => ⟨⟨i + 1,hlt,all_take hs hc hp⟩,rfl⟩
     simp only [↓evs,evp,boxK,↓a1_still,stillV,ev,argE,List.getD_cons_zero,List.getD_cons_succ,Nat.reduceEqDiff,if_false,if_true,Nat.reduceLT,Nat.reduceLeDiff,Nat.reduceAdd,Nat.reduceMul,true_and,and_true,List.length_map,binV,AV.cells,List.length_cons,List.length_nil,upd_at,Lb.loc.injEq,↓af_still,↓af_load,↓af_store,↓af_app,↓af_new,↓af_box,loadV,storeV,ldV,List.getElem?_cons_zero,List.getElem?_cons_succ,Option.bind_some,Option.map_some,List.map_cons,List.map_nil,Int.natCast_nonneg,Int.toNat_natCast,AV.stb,AV.one,List.all_cons,List.all_nil,Bool.and_self,Bool.and_true,Bool.true_and,List.take_succ_cons,List.take_zero,List.drop_succ_cons,List.drop_zero,List.cons_append,List.nil_append,List.append_nil,List.set_cons_zero,IV.av1,Lb.app,Lb.fresh,fam_loc,fam_par,fam_gen,fam_nest,reduceCtorEq,Bool.false_eq_true,List.take,List.drop,List.mem_cons,List.not_mem_nil,or_false,ptrL,appL,forall_eq,false_implies,implies_true,ev,Hp.none,Nat.le_refl,List.set_cons_succ,fillA,chunks,ivs,AV.iv,mkE,List.replicate_one,List.flatten_cons,List.flatten_nil,Nat.zero_mul,Nat.zero_add,Nat.mul_one,hc]
     cases h1 : decide ((c.toNat : Int) < 97) with
     | true =>
       simp only [↓evs,evp,boxK,↓a1_still,stillV,ev,argE,List.getD_cons_zero,List.getD_cons_succ,Nat.reduceEqDiff,if_false,if_true,Nat.reduceLT,Nat.reduceLeDiff,Nat.reduceAdd,Nat.reduceMul,true_and,and_true,List.length_map,binV,AV.cells,List.length_cons,List.length_nil,upd_at,Lb.loc.injEq,↓af_still,↓af_load,↓af_store,↓af_app,↓af_new,↓af_box,loadV,storeV,ldV,List.getElem?_cons_zero,List.getElem?_cons_succ,Option.bind_some,Option.map_some,List.map_cons,List.map_nil,Int.natCast_nonneg,Int.toNat_natCast,AV.stb,AV.one,List.all_cons,List.all_nil,Bool.and_self,Bool.and_true,Bool.true_and,List.take_succ_cons,List.take_zero,List.drop_succ_cons,List.drop_zero,List.cons_append,List.nil_append,List.append_nil,List.set_cons_zero,IV.av1,Lb.app,Lb.fresh,fam_loc,fam_par,fam_gen,fam_nest,reduceCtorEq,Bool.false_eq_true,List.take,List.drop,List.mem_cons,List.not_mem_nil,or_false,ptrL,appL,forall_eq,false_implies,implies_true,ev,Hp.none,Nat.le_refl,List.set_cons_succ,fillA,chunks,ivs,AV.iv,mkE,List.replicate_one,List.flatten_cons,List.flatten_nil,Nat.zero_mul,Nat.zero_add,Nat.mul_one,hc]
       rw [named,all_not hc (by simp [nameC,h1])]; rfl
     | false =>
       simp only [↓evs,evp,boxK,↓a1_still,stillV,ev,argE,List.getD_cons_zero,List.getD_cons_succ,Nat.reduceEqDiff,if_false,if_true,Nat.reduceLT,Nat.reduceLeDiff,Nat.reduceAdd,Nat.reduceMul,true_and,and_true,List.length_map,binV,AV.cells,List.length_cons,List.length_nil,upd_at,Lb.loc.injEq,↓af_still,↓af_load,↓af_store,↓af_app,↓af_new,↓af_box,loadV,storeV,ldV,List.getElem?_cons_zero,List.getElem?_cons_succ,Option.bind_some,Option.map_some,List.map_cons,List.map_nil,Int.natCast_nonneg,Int.toNat_natCast,AV.stb,AV.one,List.all_cons,List.all_nil,Bool.and_self,Bool.and_true,Bool.true_and,List.take_succ_cons,List.take_zero,List.drop_succ_cons,List.drop_zero,List.cons_append,List.nil_append,List.append_nil,List.set_cons_zero,IV.av1,Lb.app,Lb.fresh,fam_loc,fam_par,fam_gen,fam_nest,reduceCtorEq,Bool.false_eq_true,List.take,List.drop,List.mem_cons,List.not_mem_nil,or_false,ptrL,appL,forall_eq,false_implies,implies_true,ev,Hp.none,Nat.le_refl,List.set_cons_succ,fillA,chunks,ivs,AV.iv,mkE,List.replicate_one,List.flatten_cons,List.flatten_nil,Nat.zero_mul,Nat.zero_add,Nat.mul_one,hc]
       cases h2 : decide ((c.toNat : Int) > 122) with
       | true =>
         simp only [↓evs,evp,boxK,↓a1_still,stillV,ev,argE,List.getD_cons_zero,List.getD_cons_succ,Nat.reduceEqDiff,if_false,if_true,Nat.reduceLT,Nat.reduceLeDiff,Nat.reduceAdd,Nat.reduceMul,true_and,and_true,List.length_map,binV,AV.cells,List.length_cons,List.length_nil,upd_at,Lb.loc.injEq,↓af_still,↓af_load,↓af_store,↓af_app,↓af_new,↓af_box,loadV,storeV,ldV,List.getElem?_cons_zero,List.getElem?_cons_succ,Option.bind_some,Option.map_some,List.map_cons,List.map_nil,Int.natCast_nonneg,Int.toNat_natCast,AV.stb,AV.one,List.all_cons,List.all_nil,Bool.and_self,Bool.and_true,Bool.true_and,List.take_succ_cons,List.take_zero,List.drop_succ_cons,List.drop_zero,List.cons_append,List.nil_append,List.append_nil,List.set_cons_zero,IV.av1,Lb.app,Lb.fresh,fam_loc,fam_par,fam_gen,fam_nest,reduceCtorEq,Bool.false_eq_true,List.take,List.drop,List.mem_cons,List.not_mem_nil,or_false,ptrL,appL,forall_eq,false_implies,implies_true,ev,Hp.none,Nat.le_refl,List.set_cons_succ,fillA,chunks,ivs,AV.iv,mkE,List.replicate_one,List.flatten_cons,List.flatten_nil,Nat.zero_mul,Nat.zero_add,Nat.mul_one,hc]
         rw [named,all_not hc (by simp [nameC,h1,h2])]; rfl
       | false =>
         obtain ⟨q,hq⟩ := next (by simp [nameC,h1,h2])
         simp only [↓evs,evp,boxK,↓a1_still,stillV,ev,argE,List.getD_cons_zero,List.getD_cons_succ,Nat.reduceEqDiff,if_false,if_true,Nat.reduceLT,Nat.reduceLeDiff,Nat.reduceAdd,Nat.reduceMul,true_and,and_true,List.length_map,binV,AV.cells,List.length_cons,List.length_nil,upd_at,Lb.loc.injEq,↓af_still,↓af_load,↓af_store,↓af_app,↓af_new,↓af_box,loadV,storeV,ldV,List.getElem?_cons_zero,List.getElem?_cons_succ,Option.bind_some,Option.map_some,List.map_cons,List.map_nil,Int.natCast_nonneg,Int.toNat_natCast,AV.stb,AV.one,List.all_cons,List.all_nil,Bool.and_self,Bool.and_true,Bool.true_and,List.take_succ_cons,List.take_zero,List.drop_succ_cons,List.drop_zero,List.cons_append,List.nil_append,List.append_nil,List.set_cons_zero,IV.av1,Lb.app,Lb.fresh,fam_loc,fam_par,fam_gen,fam_nest,reduceCtorEq,Bool.false_eq_true,List.take,List.drop,List.mem_cons,List.not_mem_nil,or_false,ptrL,appL,forall_eq,false_implies,implies_true,ev,Hp.none,Nat.le_refl,List.set_cons_succ,fillA,chunks,ivs,AV.iv,mkE,List.replicate_one,List.flatten_cons,List.flatten_nil,Nat.zero_mul,Nat.zero_add,Nat.mul_one,hc,hw]
         refine ⟨q,by omega,id,.none ?_ ?_⟩
         · rw [hq]; exact we_put rfl (we_put rfl (we_put rfl (we_any _ _)))
         · exact wm_put (by simp [AV.lbs]) (wm_put (by simp [AV.lbs]) (wm_put (by simp [AV.lbs]) (wm_any _)))
   · rw [show decide ((i : Int) < (s.length : Int)) = false by simpa using hlt]
     have hall : s.all nameC = true := by
       have : s.take i = s := List.take_of_length_le (by omega)
       rw [← this,hs]
     simp only [↓evs,evp,boxK,↓a1_still,stillV,ev,argE,List.getD_cons_zero,List.getD_cons_succ,Nat.reduceEqDiff,if_false,if_true,Nat.reduceLT,Nat.reduceLeDiff,Nat.reduceAdd,Nat.reduceMul,true_and,and_true,List.length_map,binV,AV.cells,List.length_cons,List.length_nil,upd_at,Lb.loc.injEq,↓af_still,↓af_load,↓af_store,↓af_app,↓af_new,↓af_box,loadV,storeV,ldV,List.getElem?_cons_zero,List.getElem?_cons_succ,Option.bind_some,Option.map_some,List.map_cons,List.map_nil,Int.natCast_nonneg,Int.toNat_natCast,AV.stb,AV.one,List.all_cons,List.all_nil,Bool.and_self,Bool.and_true,Bool.true_and,List.take_succ_cons,List.take_zero,List.drop_succ_cons,List.drop_zero,List.cons_append,List.nil_append,List.append_nil,List.set_cons_zero,IV.av1,Lb.app,Lb.fresh,fam_loc,fam_par,fam_gen,fam_nest,reduceCtorEq,Bool.false_eq_true,List.take,List.drop,List.mem_cons,List.not_mem_nil,or_false,ptrL,appL,forall_eq,false_implies,implies_true,ev,Hp.none,Nat.le_refl,List.set_cons_succ,fillA,chunks,ivs,AV.iv,mkE,List.replicate_one,List.flatten_cons,List.flatten_nil,Nat.zero_mul,Nat.zero_add,Nat.mul_one]
     cases h1 : decide ((s.length : Int) ≥ 1) with
     | true =>
       simp only [↓evs,evp,boxK,↓a1_still,stillV,ev,argE,List.getD_cons_zero,List.getD_cons_succ,Nat.reduceEqDiff,if_false,if_true,Nat.reduceLT,Nat.reduceLeDiff,Nat.reduceAdd,Nat.reduceMul,true_and,and_true,List.length_map,binV,AV.cells,List.length_cons,List.length_nil,upd_at,Lb.loc.injEq,↓af_still,↓af_load,↓af_store,↓af_app,↓af_new,↓af_box,loadV,storeV,ldV,List.getElem?_cons_zero,List.getElem?_cons_succ,Option.bind_some,Option.map_some,List.map_cons,List.map_nil,Int.natCast_nonneg,Int.toNat_natCast,AV.stb,AV.one,List.all_cons,List.all_nil,Bool.and_self,Bool.and_true,Bool.true_and,List.take_succ_cons,List.take_zero,List.drop_succ_cons,List.drop_zero,List.cons_append,List.nil_append,List.append_nil,List.set_cons_zero,IV.av1,Lb.app,Lb.fresh,fam_loc,fam_par,fam_gen,fam_nest,reduceCtorEq,Bool.false_eq_true,List.take,List.drop,List.mem_cons,List.not_mem_nil,or_false,ptrL,appL,forall_eq,false_implies,implies_true,ev,Hp.none,Nat.le_refl,List.set_cons_succ,fillA,chunks,ivs,AV.iv,mkE,List.replicate_one,List.flatten_cons,List.flatten_nil,Nat.zero_mul,Nat.zero_add,Nat.mul_one]
       rw [named,hall,h1]; rfl
     | false =>
       simp only [↓evs,evp,boxK,↓a1_still,stillV,ev,argE,List.getD_cons_zero,List.getD_cons_succ,Nat.reduceEqDiff,if_false,if_true,Nat.reduceLT,Nat.reduceLeDiff,Nat.reduceAdd,Nat.reduceMul,true_and,and_true,List.length_map,binV,AV.cells,List.length_cons,List.length_nil,upd_at,Lb.loc.injEq,↓af_still,↓af_load,↓af_store,↓af_app,↓af_new,↓af_box,loadV,storeV,ldV,List.getElem?_cons_zero,List.getElem?_cons_succ,Option.bind_some,Option.map_some,List.map_cons,List.map_nil,Int.natCast_nonneg,Int.toNat_natCast,AV.stb,AV.one,List.all_cons,List.all_nil,Bool.and_self,Bool.and_true,Bool.true_and,List.take_succ_cons,List.take_zero,List.drop_succ_cons,List.drop_zero,List.cons_append,List.nil_append,List.append_nil,List.set_cons_zero,IV.av1,Lb.app,Lb.fresh,fam_loc,fam_par,fam_gen,fam_nest,reduceCtorEq,Bool.false_eq_true,List.take,List.drop,List.mem_cons,List.not_mem_nil,or_false,ptrL,appL,forall_eq,false_implies,implies_true,ev,Hp.none,Nat.le_refl,List.set_cons_succ,fillA,chunks,ivs,AV.iv,mkE,List.replicate_one,List.flatten_cons,List.flatten_nil,Nat.zero_mul,Nat.zero_add,Nat.mul_one]
       rw [named,hall,h1]; rfl
end Go.Am

/- Attributes that are good. -/
namespace Go.Am
open Go Go.RowKit
def okAttr (as : List Attr) (i : Nat) : Bool :=
 match as[i]? with
 | some a => named a.name && (plain a.val && (i == 0 || match as[i - 1]? with | some p => Op.bytesLess p.name a.name | none => true))
 | none => true
def goodAttrs (as : List Attr) : Bool := (List.range as.length).all (okAttr as) && decide ((as.length : Int) ≤ 4)
def cGoodAttrs (fN fP : Nat) : AC :=
(.seq
 (.reg [
   ⟨some 2,none,.mov (.c (.bool false))⟩])
(.seq
 (.seq
   (.reg [
     ⟨some 5,none,.mov (.t 0)⟩,
     ⟨some 6,none,.len (.t 5)⟩,
     ⟨some 7,none,.mov (.c (.int .i64 0))⟩])
 (.block 0
   (.loop
     (.seq
       (.reg [
         ⟨some 8,none,.bin .lss (.t 7) (.t 6)⟩])
     (.seq
       (.cond (.t 8)
         .skip
         (.exit 0))
     (.seq
       (.block 1
         (.seq
           (.reg [
             ⟨some 9,none,.mov (.t 7)⟩,
             ⟨some 10,none,.ixa (.t 5) (.t 7) 2⟩,
             ⟨some 11,none,.load (some 2) (.t 10)⟩,
             ⟨some 4,none,.new [(.str []),(.str [])]⟩,
             ⟨some 3,none,.mov (.t 9)⟩,
             ⟨none,none,.store 2 (.t 4) (.t 11)⟩])
         (.seq
           (.dreg [
             ⟨some 12,none,.fld (.t 4) 0⟩,
             ⟨some 13,none,.load none (.t 12)⟩,
             ⟨some 14,none,.call fN [(.t 13)]⟩,
             ⟨some 15,none,.not (.t 14)⟩,
             ⟨some 16,none,.mov (.t 15)⟩,
             ⟨some 17,(some (16,false)),(.fld (.t 4) 1)⟩,
             ⟨some 18,(some (16,false)),(.load none (.t 17))⟩,
             ⟨some 19,(some (16,false)),(.call fP [(.t 18)])⟩,
             ⟨some 20,(some (16,false)),(.not (.t 19))⟩,
             ⟨some 21,none,.pick (.t 16) (.c (.bool true)) (.t 20)⟩,
             ⟨some 22,none,.mov (.t 21)⟩,
             ⟨some 23,(some (22,false)),(.mov (.t 3))⟩,
             ⟨some 24,(some (22,false)),(.bin .gtr (.t 23) (.c (.int .i64 0)))⟩,
             ⟨some 25,(some (22,false)),(.mov (.t 24))⟩,
             ⟨some 26,(some (25,true)),(.mov (.t 0))⟩,
             ⟨some 27,(some (25,true)),(.mov (.t 3))⟩,
             ⟨some 28,(some (25,true)),(.bin .sub (.t 27) (.c (.int .i64 1)))⟩,
             ⟨some 29,(some (25,true)),(.ixa (.t 26) (.t 28) 2)⟩,
             ⟨some 30,(some (25,true)),(.fld (.t 29) 0)⟩,
             ⟨some 31,(some (25,true)),(.load none (.t 30))⟩,
             ⟨some 32,(some (25,true)),(.fld (.t 4) 0)⟩,
             ⟨some 33,(some (25,true)),(.load none (.t 32))⟩,
             ⟨some 34,(some (25,true)),(.bin .geq (.t 31) (.t 33))⟩,
             ⟨some 35,(some (22,false)),(.pick (.t 25) (.t 34) (.c (.bool false)))⟩,
             ⟨some 36,none,.pick (.t 22) (.c (.bool true)) (.t 35)⟩]
             [[],[0],[1],[2],[3,2],[4],[5,4],[6,4,4],[7,4],[4,8],[9,7],[10],[11,10],[12,10,10],[13],[13],[15,13],[14,16,13],[17,13],[18,13],[13],[20,13],[19,21,13],[13,22,10],[10,23]]
             [.no,.rw [.loc 4] [],.no,.no,.no,.no,.rw [.loc 4] [],.no,.no,.no,.no,.no,.no,.no,.no,.no,.no,.no,.no,.no,.no,.rw [.loc 4] [],.no,.no,.no])
         (.cond (.t 36)
           (.seq
             (.reg [
               ⟨some 2,none,.mov (.c (.bool false))⟩])
           .ret)
           .skip))))
     (.reg [
       ⟨some 37,none,.bin .add (.t 7) (.c (.int .i64 1))⟩,
       ⟨some 7,none,.mov (.t 37)⟩])))))))
(.seq
 (.reg [
   ⟨some 38,none,.mov (.t 0)⟩,
   ⟨some 39,none,.len (.t 38)⟩,
   ⟨some 40,none,.bin .leq (.t 39) (.c (.int .i64 4))⟩,
   ⟨some 2,none,.mov (.t 40)⟩])
.ret)))
def eGoodAttrs (as : List Attr) (i : Nat) : Env := put (put (put (put Env.any 0 (.list (ivA as))) 5 (.list (ivA as))) 6 (.int .i64 as.length)) 7 (.int .i64 i)
theorem Wk.drop {env env2 : Env} {H : Hp} (e : ∀ n,env2 n = .any ∨ env n = ren id (env2 n)) (m : ∀ n,∀ l ∈ (env2 n).lbs,Hp.none l ≠ .unused) (hn : ∀ l : Lb,l.fresh = false → H l = .unused) : Wk id env H env2 Hp.none :=
 ⟨e,fun l r h => by simp [Hp.none] at h,fun _ _ ⟨r,h⟩ => by simp [Hp.none] at h,m,fun l r h => by simp [Hp.none] at h,fun l hl => ⟨fun h => absurd (hn l (Lb.entry_nf hl)) h,fun _ => rfl⟩,fun l ⟨r,h⟩ => by simp [Hp.none] at h⟩
theorem range_not {p : Nat → Bool} {n i : Nat} (hi : i < n) (hp : p i = false) : (List.range n).all p = false := by
 cases h : (List.range n).all p with
 | false => rfl
 | true =>
   have := List.all_eq_true.1 h i (by simpa using hi)
   rw [hp] at this; exact this.symm
theorem pGoodAttrs {P : Program} {G : Nat → Option (List IV)} {f fN fP : Nat} (hF : compF P G f = some (41,[(none,2)],(cGoodAttrs fN fP).bare)) (as : List Attr) (hx : as.length ≤ B)
   (hN : ∀ a ∈ as,PureC P G fN [.str a.name] (.bool (named a.name))) (hP : ∀ a ∈ as,PureC P G fP [.str a.val] (.bool (plain a.val))) :
   PureC P G f [.list (ivA as)] (.bool (goodAttrs as)) := by
 refine pure_of_go hF (by simp) (by simp [lbss,AV.lbs]) (by simp [AV.lbs]) ?_
 unfold cGoodAttrs
 simp only [↓evs,evp,boxK,↓a1_still,stillV,ev,argE,List.getD_cons_zero,List.getD_cons_succ,Nat.reduceEqDiff,if_false,if_true,Nat.reduceLT,Nat.reduceLeDiff,Nat.reduceAdd,Nat.reduceMul,true_and,and_true,List.length_map,binV,AV.cells,List.length_cons,List.length_nil,upd_at,Lb.loc.injEq,↓af_still,↓af_load,↓af_store,↓af_app,↓af_new,↓af_box,loadV,storeV,ldV,List.getElem?_cons_zero,List.getElem?_cons_succ,Option.bind_some,Option.map_some,List.map_cons,List.map_nil,Int.natCast_nonneg,Int.toNat_natCast,AV.stb,AV.one,List.all_cons,List.all_nil,Bool.and_self,Bool.and_true,Bool.true_and,List.take_succ_cons,List.take_zero,List.drop_succ_cons,List.drop_zero,List.cons_append,List.nil_append,List.append_nil,List.set_cons_zero,IV.av1,Lb.app,Lb.fresh,fam_loc,fam_par,fam_gen,fam_nest,reduceCtorEq,Bool.false_eq_true,List.take,List.drop,List.mem_cons,List.not_mem_nil,or_false,ptrL,appL,forall_eq,false_implies,implies_true,ev,Hp.none,Nat.le_refl,List.set_cons_succ,fillA,chunks,ivs,AV.iv,mkE,List.replicate_one,List.flatten_cons,List.flatten_nil,Nat.zero_mul,Nat.zero_add,Nat.mul_one,ivA_len]
 refine loop_intro (σ := { i : Nat // i ≤ as.length ∧ ∀ j,j < i → okAttr as j = true }) (fun q => eGoodAttrs as q.1) (fun _ => Hp.none) (fun q => as.length - q.1) ⟨0,by simp⟩ id ?_ ?_
 · refine .none ?_ ?_
   · exact we_put rfl (we_put rfl (we_put rfl (we_put rfl (we_any _ _))))
   · exact wm_put (by simp [AV.lbs]) (wm_put (by simp [AV.lbs]) (wm_put (by simp [AV.lbs]) (wm_put (by simp [AV.lbs]) (wm_any _))))
 · rintro ⟨i,hi,hs⟩
   simp only [↓evs,evp,boxK,↓a1_still,stillV,ev,argE,List.getD_cons_zero,List.getD_cons_succ,Nat.reduceEqDiff,if_false,if_true,Nat.reduceLT,Nat.reduceLeDiff,Nat.reduceAdd,Nat.reduceMul,true_and,and_true,List.length_map,binV,AV.cells,List.length_cons,List.length_nil,upd_at,Lb.loc.injEq,↓af_still,↓af_load,↓af_store,↓af_app,↓af_new,↓af_box,loadV,storeV,ldV,List.getElem?_cons_zero,List.getElem?_cons_succ,Option.bind_some,Option.map_some,List.map_cons,List.map_nil,Int.natCast_nonneg,Int.toNat_natCast,AV.stb,AV.one,List.all_cons,List.all_nil,Bool.and_self,Bool.and_true,Bool.true_and,List.take_succ_cons,List.take_zero,List.drop_succ_cons,List.drop_zero,List.cons_append,List.nil_append,List.append_nil,List.set_cons_zero,IV.av1,Lb.app,Lb.fresh,fam_loc,fam_par,fam_gen,fam_nest,reduceCtorEq,Bool.false_eq_true,List.take,List.drop,List.mem_cons,List.not_mem_nil,or_false,ptrL,appL,forall_eq,false_implies,implies_true,ev,Hp.none,Nat.le_refl,List.set_cons_succ,fillA,chunks,ivs,AV.iv,mkE,List.replicate_one,List.flatten_cons,List.flatten_nil,Nat.zero_mul,Nat.zero_add,Nat.mul_one,eGoodAttrs,ivA_len]
   by_cases hlt : i < as.length
   · rw [show decide ((i : Int) < (as.length : Int)) = true by simpa using hlt]
     obtain ⟨a,ha⟩ : ∃ a,as[i]? = some a := ⟨_,List.getElem?_eq_getElem hlt⟩
     have hw : IntKind.i64.wrap ((i : Int) + 1) = ((i + 1 : Nat) : Int) := wrap64 (by omega) (by unfold B at hx; omega)
     simp only [↓evs,evp,boxK,↓a1_still,stillV,ev,argE,List.getD_cons_zero,List.getD_cons_succ,Nat.reduceEqDiff,if_false,if_true,Nat.reduceLT,Nat.reduceLeDiff,Nat.reduceAdd,Nat.reduceMul,true_and,and_true,List.length_map,binV,AV.cells,List.length_cons,List.length_nil,upd_at,Lb.loc.injEq,↓af_still,↓af_load,↓af_store,↓af_app,↓af_new,↓af_box,loadV,storeV,ldV,List.getElem?_cons_zero,List.getElem?_cons_succ,Option.bind_some,Option.map_some,List.map_cons,List.map_nil,Int.natCast_nonneg,Int.toNat_natCast,AV.stb,AV.one,List.all_cons,List.all_nil,Bool.and_self,Bool.and_true,Bool.true_and,List.take_succ_cons,List.take_zero,List.drop_succ_cons,List.drop_zero,List.cons_append,List.nil_append,List.append_nil,List.set_cons_zero,IV.av1,Lb.app,Lb.fresh,fam_loc,fam_par,fam_gen,fam_nest,reduceCtorEq,Bool.false_eq_true,List.take,List.drop,List.mem_cons,List.not_mem_nil,or_false,ptrL,appL,forall_eq,false_implies,implies_true,ev,Hp.none,Nat.le_refl,List.set_cons_succ,fillA,chunks,ivs,AV.iv,mkE,List.replicate_one,List.flatten_cons,List.flatten_nil,Nat.zero_mul,Nat.zero_add,Nat.mul_one,ivA_get,ha,elszA,Attr.cells_eq,Attr.cs]
     refine ⟨le_max (by decide),rfl,puK_in (hN a (List.mem_of_getElem? ha)) ?_⟩
     have next : okAttr as i = true → ∃ q : { i : Nat // i ≤ as.length ∧ ∀ j,j < i → okAttr as j = true },q.1 = i + 1 := fun hp => ⟨⟨i + 1,hlt,fun j hj => by
       by_cases e : j = i
       · rw [e]; exact hp
       · exact hs j (by omega)⟩,rfl⟩
     have stop : okAttr as i = false → goodAttrs as = false := fun hp => by rw [goodAttrs,range_not hlt hp]; rfl
     have hok : okAttr as i = (named a.name && (plain a.val && (i == 0 || match as[i - 1]? with | some p => Op.bytesLess p.name a.name | none => true))) := by unfold okAttr; rw [ha]
     cases h1 : named a.name with
     | false =>
       simp only [↓evs,evp,boxK,↓a1_still,stillV,ev,argE,List.getD_cons_zero,List.getD_cons_succ,Nat.reduceEqDiff,if_false,if_true,Nat.reduceLT,Nat.reduceLeDiff,Nat.reduceAdd,Nat.reduceMul,true_and,and_true,List.length_map,binV,AV.cells,List.length_cons,List.length_nil,upd_at,Lb.loc.injEq,↓af_still,↓af_load,↓af_store,↓af_app,↓af_new,↓af_box,loadV,storeV,ldV,List.getElem?_cons_zero,List.getElem?_cons_succ,Option.bind_some,Option.map_some,List.map_cons,List.map_nil,Int.natCast_nonneg,Int.toNat_natCast,AV.stb,AV.one,List.all_cons,List.all_nil,Bool.and_self,Bool.and_true,Bool.true_and,List.take_succ_cons,List.take_zero,List.drop_succ_cons,List.drop_zero,List.cons_append,List.nil_append,List.append_nil,List.set_cons_zero,IV.av1,Lb.app,Lb.fresh,fam_loc,fam_par,fam_gen,fam_nest,reduceCtorEq,Bool.false_eq_true,List.take,List.drop,List.mem_cons,List.not_mem_nil,or_false,ptrL,appL,forall_eq,false_implies,implies_true,ev,Hp.none,Nat.le_refl,List.set_cons_succ,fillA,chunks,ivs,AV.iv,mkE,List.replicate_one,List.flatten_cons,List.flatten_nil,Nat.zero_mul,Nat.zero_add,Nat.mul_one,Bool.not_false]
       rw [stop (by rw [hok,h1]; rfl)]
     | true =>
       simp only [↓evs,evp,boxK,↓a1_still,stillV,ev,argE,List.getD_cons_zero,List.getD_cons_succ,Nat.reduceEqDiff,if_false,if_true,Nat.reduceLT,Nat.reduceLeDiff,Nat.reduceAdd,Nat.reduceMul,true_and,and_true,List.length_map,binV,AV.cells,List.length_cons,List.length_nil,upd_at,Lb.loc.injEq,↓af_still,↓af_load,↓af_store,↓af_app,↓af_new,↓af_box,loadV,storeV,ldV,List.getElem?_cons_zero,List.getElem?_cons_succ,Option.bind_some,Option.map_some,List.map_cons,List.map_nil,Int.natCast_nonneg,Int.toNat_natCast,AV.stb,AV.one,List.all_cons,List.all_nil,Bool.and_self,Bool.and_true,Bool.true_and,List.take_succ_cons,List.take_zero,List.drop_succ_cons,List.drop_zero,List.cons_append,List.nil_append,List.append_nil,List.set_cons_zero,IV.av1,Lb.app,Lb.fresh,fam_loc,fam_par,fam_gen,fam_nest,reduceCtorEq,Bool.false_eq_true,List.take,List.drop,List.mem_cons,List.not_mem_nil,or_false,ptrL,appL,forall_eq,false_implies,implies_true,ev,Hp.none,Nat.le_refl,List.set_cons_succ,fillA,chunks,ivs,AV.iv,mkE,List.replicate_one,List.flatten_cons,List.flatten_nil,Nat.zero_mul,Nat.zero_add,Nat.mul_one,Bool.not_true]
       refine puK_in (hP a (List.mem_of_getElem? ha)) ?_
       cases h2 : plain a.val with
       | false =>
         simp only [↓evs,evp,boxK,↓a1_still,stillV,ev,argE,List.getD_cons_zero,List.getD_cons_succ,Nat.reduceEqDiff,if_false,if_true,Nat.reduceLT,Nat.reduceLeDiff,Nat.reduceAdd,Nat.reduceMul,true_and,and_true,List.length_map,binV,AV.cells,List.length_cons,List.length_nil,upd_at,Lb.loc.injEq,↓af_still,↓af_load,↓af_store,↓af_app,↓af_new,↓af_box,loadV,storeV,ldV,List.getElem?_cons_zero,List.getElem?_cons_succ,Option.bind_some,Option.map_some,List.map_cons,List.map_nil,Int.natCast_nonneg,Int.toNat_natCast,AV.stb,AV.one,List.all_cons,List.all_nil,Bool.and_self,Bool.and_true,Bool.true_and,List.take_succ_cons,List.take_zero,List.drop_succ_cons,List.drop_zero,List.cons_append,List.nil_append,List.append_nil,List.set_cons_zero,IV.av1,Lb.app,Lb.fresh,fam_loc,fam_par,fam_gen,fam_nest,reduceCtorEq,Bool.false_eq_true,List.take,List.drop,List.mem_cons,List.not_mem_nil,or_false,ptrL,appL,forall_eq,false_implies,implies_true,ev,Hp.none,Nat.le_refl,List.set_cons_succ,fillA,chunks,ivs,AV.iv,mkE,List.replicate_one,List.flatten_cons,List.flatten_nil,Nat.zero_mul,Nat.zero_add,Nat.mul_one,Bool.not_false]
         rw [stop (by rw [hok,h1,h2]; rfl)]
       | true =>
         simp only [↓evs,evp,boxK,↓a1_still,stillV,ev,argE,List.getD_cons_zero,List.getD_cons_succ,Nat.reduceEqDiff,if_false,if_true,Nat.reduceLT,Nat.reduceLeDiff,Nat.reduceAdd,Nat.reduceMul,true_and,and_true,List.length_map,binV,AV.cells,List.length_cons,List.length_nil,upd_at,Lb.loc.injEq,↓af_still,↓af_load,↓af_store,↓af_app,↓af_new,↓af_box,loadV,storeV,ldV,List.getElem?_cons_zero,List.getElem?_cons_succ,Option.bind_some,Option.map_some,List.map_cons,List.map_nil,Int.natCast_nonneg,Int.toNat_natCast,AV.stb,AV.one,List.all_cons,List.all_nil,Bool.and_self,Bool.and_true,Bool.true_and,List.take_succ_cons,List.take_zero,List.drop_succ_cons,List.drop_zero,List.cons_append,List.nil_append,List.append_nil,List.set_cons_zero,IV.av1,Lb.app,Lb.fresh,fam_loc,fam_par,fam_gen,fam_nest,reduceCtorEq,Bool.false_eq_true,List.take,List.drop,List.mem_cons,List.not_mem_nil,or_false,ptrL,appL,forall_eq,false_implies,implies_true,ev,Hp.none,Nat.le_refl,List.set_cons_succ,fillA,chunks,ivs,AV.iv,mkE,List.replicate_one,List.flatten_cons,List.flatten_nil,Nat.zero_mul,Nat.zero_add,Nat.mul_one,Bool.not_true]
         by_cases h3 : i = 0
         · subst h3
           rw [show decide (((0 : Nat) : Int) > 0) = false by simp]
           obtain ⟨q,hq⟩ := next (by rw [hok,h1,h2]; rfl)
           simp only [↓evs,evp,boxK,↓a1_still,stillV,ev,argE,List.getD_cons_zero,List.getD_cons_succ,Nat.reduceEqDiff,if_false,if_true,Nat.reduceLT,Nat.reduceLeDiff,Nat.reduceAdd,Nat.reduceMul,true_and,and_true,List.length_map,binV,AV.cells,List.length_cons,List.length_nil,upd_at,Lb.loc.injEq,↓af_still,↓af_load,↓af_store,↓af_app,↓af_new,↓af_box,loadV,storeV,ldV,List.getElem?_cons_zero,List.getElem?_cons_succ,Option.bind_some,Option.map_some,List.map_cons,List.map_nil,Int.natCast_nonneg,Int.toNat_natCast,AV.stb,AV.one,List.all_cons,List.all_nil,Bool.and_self,Bool.and_true,Bool.true_and,List.take_succ_cons,List.take_zero,List.drop_succ_cons,List.drop_zero,List.cons_append,List.nil_append,List.append_nil,List.set_cons_zero,IV.av1,Lb.app,Lb.fresh,fam_loc,fam_par,fam_gen,fam_nest,reduceCtorEq,Bool.false_eq_true,List.take,List.drop,List.mem_cons,List.not_mem_nil,or_false,ptrL,appL,forall_eq,false_implies,implies_true,ev,Hp.none,Nat.le_refl,List.set_cons_succ,fillA,chunks,ivs,AV.iv,mkE,List.replicate_one,List.flatten_cons,List.flatten_nil,Nat.zero_mul,Nat.zero_add,Nat.mul_one,hw]
           refine ⟨q,by omega,id,.drop ?_ ?_ ?_⟩
           · rw [hq]; exact we_put rfl (we_put rfl (we_put rfl (we_put rfl (we_any _ _))))
           · exact wm_put (by simp [AV.lbs]) (wm_put (by simp [AV.lbs]) (wm_put (by simp [AV.lbs]) (wm_put (by simp [AV.lbs]) (wm_any _))))
           · exact nf_upd (nf_upd nf_none)
         · rw [show decide ((i : Int) > 0) = true by simp; omega]
           obtain ⟨p,hp⟩ : ∃ p,as[i - 1]? = some p := ⟨_,List.getElem?_eq_getElem (by omega)⟩
           have hw1 : IntKind.i64.wrap ((i : Int) - 1) = ((i - 1 : Nat) : Int) := by rw [wrap64 (by omega) (by unfold B at hx; omega)]; omega
           simp only [↓evs,evp,boxK,↓a1_still,stillV,ev,argE,List.getD_cons_zero,List.getD_cons_succ,Nat.reduceEqDiff,if_false,if_true,Nat.reduceLT,Nat.reduceLeDiff,Nat.reduceAdd,Nat.reduceMul,true_and,and_true,List.length_map,binV,AV.cells,List.length_cons,List.length_nil,upd_at,Lb.loc.injEq,↓af_still,↓af_load,↓af_store,↓af_app,↓af_new,↓af_box,loadV,storeV,ldV,List.getElem?_cons_zero,List.getElem?_cons_succ,Option.bind_some,Option.map_some,List.map_cons,List.map_nil,Int.natCast_nonneg,Int.toNat_natCast,AV.stb,AV.one,List.all_cons,List.all_nil,Bool.and_self,Bool.and_true,Bool.true_and,List.take_succ_cons,List.take_zero,List.drop_succ_cons,List.drop_zero,List.cons_append,List.nil_append,List.append_nil,List.set_cons_zero,IV.av1,Lb.app,Lb.fresh,fam_loc,fam_par,fam_gen,fam_nest,reduceCtorEq,Bool.false_eq_true,List.take,List.drop,List.mem_cons,List.not_mem_nil,or_false,ptrL,appL,forall_eq,false_implies,implies_true,ev,Hp.none,Nat.le_refl,List.set_cons_succ,fillA,chunks,ivs,AV.iv,mkE,List.replicate_one,List.flatten_cons,List.flatten_nil,Nat.zero_mul,Nat.zero_add,Nat.mul_one,hw1,ivA_get,hp,elszA,Attr.cells_eq,Attr.cs]
           cases h4 : Op.bytesLess p.name a.name with
           | false =>
             simp only [↓evs,evp,boxK,↓a1_still,stillV,ev,argE,List.getD_cons_zero,List.getD_cons_succ,Nat.reduceEqDiff,if_false,if_true,Nat.reduceLT,Nat.reduceLeDiff,Nat.reduceAdd,Nat.reduceMul,true_and,and_true,List.length_map,binV,AV.cells,List.length_cons,List.length_nil,upd_at,Lb.loc.injEq,↓af_still,↓af_load,↓af_store,↓af_app,↓af_new,↓af_box,loadV,storeV,ldV,List.getElem?_cons_zero,List.getElem?_cons_succ,Option.bind_some,Option.map_some,List.map_cons,List.map_nil,Int.natCast_nonneg,Int.toNat_natCast,AV.stb,AV.one,List.all_cons,List.all_nil,Bool.and_self,Bool.and_true,Bool.true_and,List.take_succ_cons,List.take_zero,List.drop_succ_cons,List.drop_zero,List.cons_append,List.nil_append,List.append_nil,List.set_cons_zero,IV.av1,Lb.app,Lb.fresh,fam_loc,fam_par,fam_gen,fam_nest,reduceCtorEq,Bool.false_eq_true,List.take,List.drop,List.mem_cons,List.not_mem_nil,or_false,ptrL,appL,forall_eq,false_implies,implies_true,ev,Hp.none,Nat.le_refl,List.set_cons_succ,fillA,chunks,ivs,AV.iv,mkE,List.replicate_one,List.flatten_cons,List.flatten_nil,Nat.zero_mul,Nat.zero_add,Nat.mul_one,Bool.not_false]
             rw [stop (by rw [hok,h1,h2,hp]; simp [h3,h4])]
           | true =>
             obtain ⟨q,hq⟩ := next (by rw [hok,h1,h2,hp]; simp [h4])
             simp only [↓evs,evp,boxK,↓a1_still,stillV,ev,argE,List.getD_cons_zero,List.getD_cons_succ,Nat.reduceEqDiff,if_false,if_true,Nat.reduceLT,Nat.reduceLeDiff,Nat.reduceAdd,Nat.reduceMul,true_and,and_true,List.length_map,binV,AV.cells,List.length_cons,List.length_nil,upd_at,Lb.loc.injEq,↓af_still,↓af_load,↓af_store,↓af_app,↓af_new,↓af_box,loadV,storeV,ldV,List.getElem?_cons_zero,List.getElem?_cons_succ,Option.bind_some,Option.map_some,List.map_cons,List.map_nil,Int.natCast_nonneg,Int.toNat_natCast,AV.stb,AV.one,List.all_cons,List.all_nil,Bool.and_self,Bool.and_true,Bool.true_and,List.take_succ_cons,List.take_zero,List.drop_succ_cons,List.drop_zero,List.cons_append,List.nil_append,List.append_nil,List.set_cons_zero,IV.av1,Lb.app,Lb.fresh,fam_loc,fam_par,fam_gen,fam_nest,reduceCtorEq,Bool.false_eq_true,List.take,List.drop,List.mem_cons,List.not_mem_nil,or_false,ptrL,appL,forall_eq,false_implies,implies_true,ev,Hp.none,Nat.le_refl,List.set_cons_succ,fillA,chunks,ivs,AV.iv,mkE,List.replicate_one,List.flatten_cons,List.flatten_nil,Nat.zero_mul,Nat.zero_add,Nat.mul_one,Bool.not_true,hw]
             refine ⟨q,by omega,id,.drop ?_ ?_ ?_⟩
             · rw [hq]; exact we_put rfl (we_put rfl (we_put rfl (we_put rfl (we_any _ _))))
             · exact wm_put (by simp [AV.lbs]) (wm_put (by simp [AV.lbs]) (wm_put (by simp [AV.lbs]) (wm_put (by simp [AV.lbs]) (wm_any _))))
             · exact nf_upd (nf_upd nf_none)
   · rw [show decide ((i : Int) < (as.length : Int)) = false by simpa using hlt]
     simp only [↓evs,evp,boxK,↓a1_still,stillV,ev,argE,List.getD_cons_zero,List.getD_cons_succ,Nat.reduceEqDiff,if_false,if_true,Nat.reduceLT,Nat.reduceLeDiff,Nat.reduceAdd,Nat.reduceMul,true_and,and_true,List.length_map,binV,AV.cells,List.length_cons,List.length_nil,upd_at,Lb.loc.injEq,↓af_still,↓af_load,↓af_store,↓af_app,↓af_new,↓af_box,loadV,storeV,ldV,List.getElem?_cons_zero,List.getElem?_cons_succ,Option.bind_some,Option.map_some,List.map_cons,List.map_nil,Int.natCast_nonneg,Int.toNat_natCast,AV.stb,AV.one,List.all_cons,List.all_nil,Bool.and_self,Bool.and_true,Bool.true_and,List.take_succ_cons,List.take_zero,List.drop_succ_cons,List.drop_zero,List.cons_append,List.nil_append,List.append_nil,List.set_cons_zero,IV.av1,Lb.app,Lb.fresh,fam_loc,fam_par,fam_gen,fam_nest,reduceCtorEq,Bool.false_eq_true,List.take,List.drop,List.mem_cons,List.not_mem_nil,or_false,ptrL,appL,forall_eq,false_implies,implies_true,ev,Hp.none,Nat.le_refl,List.set_cons_succ,fillA,chunks,ivs,AV.iv,mkE,List.replicate_one,List.flatten_cons,List.flatten_nil,Nat.zero_mul,Nat.zero_add,Nat.mul_one,ivA_len]
     have : (List.range as.length).all (okAttr as) = true := by
       rw [List.all_eq_true]
       intro j hj
       exact hs j (by simp at hj; omega)
     rw [goodAttrs,this]; rfl
end Go.Am
