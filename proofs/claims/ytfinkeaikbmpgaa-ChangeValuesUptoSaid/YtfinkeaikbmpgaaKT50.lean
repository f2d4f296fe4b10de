import Derived.Test.YtfinkeaikbmpgaaKAm33
import Derived.Test.YtfinkeaikbmpgaaKB1
import Derived.Test.YtfinkeaikbmpgaaKC6
set_option linter.unusedSimpArgs false
set_option linter.unusedVariables false
set_option linter.unnecessarySimpa false
set_option linter.defProp false
/- Elements put into a list, and taken out. -/
set_option pp.deepTerms false
set_option pp.deepTerms.threshold 5
namespace Go.Am
open Go Go.RowKit
section
variable {P : Program} {G : Nat → Option (List IV)}
def c_slices_Insert_int_int (f_slices_overlaps_int f_slices_rotateRight_int : Nat) : AC :=
(.seq (.reg [⟨some 6,none,.mov (.c .nil0)⟩]) (.gh (.sel) (.seq (.reg [⟨some 10,none,.mov (.t 0)⟩,⟨some 11,none,.mov (.t 1)⟩,⟨some 12,none,.slc (.t 10) (some (.t 11)) none none 1⟩]) (.seq (.reg [⟨some 13,none,.mov (.t 2)⟩,⟨some 14,none,.len (.t 13)⟩,⟨some 7,none,.mov (.t 14)⟩]) (.seq (.seq (.reg [⟨some 15,none,.mov (.t 7)⟩,⟨some 16,none,.bin .eql (.t 15) (.c (.int .i64 0))⟩]) (.cond (.t 16) (.seq (.reg [⟨some 17,none,.mov (.t 0)⟩,⟨some 6,none,.mov (.t 17)⟩]) .ret) .skip)) (.seq (.reg [⟨some 18,none,.mov (.t 0)⟩,⟨some 19,none,.len (.t 18)⟩,⟨some 8,none,.mov (.t 19)⟩]) (.seq (.seq (.reg [⟨some 20,none,.mov (.t 1)⟩,⟨some 21,none,.mov (.t 8)⟩,⟨some 22,none,.bin .eql (.t 20) (.t 21)⟩]) (.cond (.t 22) (.seq (.reg [⟨some 23,none,.mov (.t 0)⟩,⟨some 24,none,.mov (.t 2)⟩,⟨some 25,none,.app (.t 23) (.t 24) 1 8⟩,⟨some 6,none,.mov (.t 25)⟩]) .ret) .skip)) (.seq (.seq (.reg [⟨some 26,none,.mov (.t 8)⟩,⟨some 27,none,.mov (.t 7)⟩,⟨some 28,none,.bin .add (.t 26) (.t 27)⟩,⟨some 29,none,.mov (.t 0)⟩,⟨some 30,none,.cap (.t 29)⟩,⟨some 31,none,.bin .gtr (.t 28) (.t 30)⟩]) (.cond (.t 31) (.seq (.reg [⟨some 32,none,.mov (.t 0)⟩,⟨some 33,none,.mov (.t 1)⟩,⟨some 34,none,.slc (.t 32) none (some (.t 33)) none 1⟩,⟨some 35,none,.mov (.t 8)⟩,⟨some 36,none,.mov (.t 7)⟩,⟨some 37,none,.bin .add (.t 35) (.t 36)⟩,⟨some 38,none,.mov (.t 1)⟩,⟨some 39,none,.bin .sub (.t 37) (.t 38)⟩,⟨some 40,none,.appz (.t 34) (.t 39) 1 8 [(.int .i64 0)]⟩,⟨some 9,none,.mov (.t 40)⟩]) (.seq (.reg [⟨some 41,none,.mov (.t 9)⟩,⟨some 42,none,.mov (.t 1)⟩,⟨some 43,none,.slc (.t 41) (some (.t 42)) none none 1⟩,⟨some 44,none,.mov (.t 2)⟩,⟨some 45,none,.cpy (.t 43) (.t 44) 1⟩]) (.seq (.dreg [⟨some 46,none,.mov (.t 9)⟩,⟨some 47,none,.mov (.t 1)⟩,⟨some 48,none,.mov (.t 7)⟩,⟨some 49,none,.bin .add (.t 47) (.t 48)⟩,⟨some 50,none,.slc (.t 46) (some (.t 49)) none none 1⟩,⟨some 51,none,.mov (.t 0)⟩,⟨some 52,none,.mov (.t 1)⟩,⟨some 53,none,.slc (.t 51) (some (.t 52)) none none 1⟩,⟨some 54,none,.cpy (.t 50) (.t 53) 1⟩] [[],[],[],[1,2],[0,3],[],[],[5,6],[4,7]] [.no,.no,.no,.no,.no,.no,.no,.no,(.rw [(.par 0)] [(.loc 40)])]) (.seq (.reg [⟨some 55,none,.mov (.t 9)⟩,⟨some 6,none,.mov (.t 55)⟩]) .ret)))) .skip)) (.seq (.reg [⟨some 56,none,.mov (.t 0)⟩,⟨some 57,none,.mov (.t 8)⟩,⟨some 58,none,.mov (.t 7)⟩,⟨some 59,none,.bin .add (.t 57) (.t 58)⟩,⟨some 60,none,.slc (.t 56) none (some (.t 59)) none 1⟩,⟨some 0,none,.mov (.t 60)⟩]) (.seq (.seq (.reg [⟨some 61,none,.mov (.t 2)⟩,⟨some 62,none,.mov (.t 0)⟩,⟨some 63,none,.mov (.t 1)⟩,⟨some 64,none,.mov (.t 7)⟩,⟨some 65,none,.bin .add (.t 63) (.t 64)⟩,⟨some 66,none,.slc (.t 62) (some (.t 65)) none none 1⟩,⟨some 67,none,.callx f_slices_overlaps_int [(.t 61),(.t 66)]⟩,⟨some 68,none,.not (.t 67)⟩]) (.cond (.t 68) (.seq (.dreg [⟨some 69,none,.mov (.t 0)⟩,⟨some 70,none,.mov (.t 1)⟩,⟨some 71,none,.mov (.t 7)⟩,⟨some 72,none,.bin .add (.t 70) (.t 71)⟩,⟨some 73,none,.slc (.t 69) (some (.t 72)) none none 1⟩,⟨some 74,none,.mov (.t 0)⟩,⟨some 75,none,.mov (.t 1)⟩,⟨some 76,none,.slc (.t 74) (some (.t 75)) none none 1⟩,⟨some 77,none,.cpy (.t 73) (.t 76) 1⟩] [[],[],[],[1,2],[0,3],[],[],[5,6],[4,7]] [.no,.no,.no,.no,.no,.no,.no,.no,(.rw [] [(.par 0)])]) (.seq (.reg [⟨some 78,none,.mov (.t 0)⟩,⟨some 79,none,.mov (.t 1)⟩,⟨some 80,none,.slc (.t 78) (some (.t 79)) none none 1⟩,⟨some 81,none,.mov (.t 2)⟩,⟨some 82,none,.cpy (.t 80) (.t 81) 1⟩]) (.seq (.reg [⟨some 83,none,.mov (.t 0)⟩,⟨some 6,none,.mov (.t 83)⟩]) .ret))) .skip)) (.seq (.reg [⟨some 84,none,.mov (.t 0)⟩,⟨some 85,none,.mov (.t 8)⟩,⟨some 86,none,.slc (.t 84) (some (.t 85)) none none 1⟩,⟨some 87,none,.mov (.t 2)⟩,⟨some 88,none,.cpy (.t 86) (.t 87) 1⟩]) (.seq (.reg [⟨some 89,none,.mov (.t 0)⟩,⟨some 90,none,.mov (.t 1)⟩,⟨some 91,none,.slc (.t 89) (some (.t 90)) none none 1⟩,⟨some 92,none,.mov (.t 7)⟩,⟨some 93,none,.call f_slices_rotateRight_int [(.t 91),(.t 92)]⟩]) (.seq (.reg [⟨some 94,none,.mov (.t 0)⟩,⟨some 6,none,.mov (.t 94)⟩]) .ret)))))))))))))
theorem pInsertI {f_slices_Insert_int_int f_slices_overlaps_int f_slices_rotateRight_int : Nat} (hF : compF P G f_slices_Insert_int_int = some (95,[(none,6)],(c_slices_Insert_int_int f_slices_overlaps_int f_slices_rotateRight_int).bare)) (xs vs : List IV) (i : Nat) (hi : i ≤ xs.length) (hb : xs.length + vs.length ≤ B)
   (ex : Elsz 1 xs) (fx : Flat xs) (ev : Elsz 1 vs) (fv : Flat vs)
   (hO : ∀ (N : Nat) (l : Lb) (sz j n c : Nat) (r : Row) (H : Hp),vs ≠ [] → H l = .live r → 0 < n → ExtC ⟨P,G,N⟩ f_slices_overlaps_int [.list vs,.slk l sz j n c] H (.bool false)) :
   GrwC P G 1 f_slices_Insert_int_int [.sl (.par 0) 1 0 xs.length,.int .i64 i,.list vs] xs (xs.take i ++ vs ++ xs.drop i) := by
 refine grw_of_goK hF (by simp) (by simp [lbss,AV.lbs]) ?_
 have hBv : B = 1073741824 := rfl
 unfold c_slices_Insert_int_int
 simp only [↓aX,mX,reduceCtorEq,Nat.reduceEqDiff,Nat.reduceLT,Nat.reduceLeDiff,Nat.reduceAdd,Nat.reduceMul,Int.reduceToNat,Int.reduceLE,Int.reduceLT]
 rw [go_sel]
 refine ⟨_,_,_,choice_cap (d := 0) (l := .par 0) (n := xs.length) (els := immE xs) rfl (by simp [rowX]),?_⟩
 rintro ⟨c,hc1,hc2⟩
 obtain ⟨rest,hrest⟩ : ∃ rest,rest = List.replicate (c - (immE xs).length) (List.replicate 1 AV.any) := ⟨_,rfl⟩
 have hrl : rest.length = c - xs.length := by rw [hrest,List.length_replicate,immE_len]
 simp only [← hrest]
 have hz : ∀ (A D : List (List AV)),D = [] → A ++ D = A := fun A D h => by rw [h,List.append_nil]
 have hxl := immE_len xs
 have hvl := immE_len vs
 have hw1 : IntKind.i64.wrap ((xs.length : Int) + (vs.length : Int)) = ((xs.length + vs.length : Nat) : Int) := wrap64 (by omega) (by omega)
 have hw2 : IntKind.i64.wrap (((xs.length + vs.length : Nat) : Int) - (i : Int)) = ((xs.length + vs.length - i : Nat) : Int) := by rw [wrap64 (by omega) (by omega)]; omega
 have hw3 : IntKind.i64.wrap ((i : Int) + (vs.length : Int)) = ((i + vs.length : Nat) : Int) := wrap64 (by omega) (by omega)
 simp only [↓aX,mX,reduceCtorEq,Nat.reduceEqDiff,Nat.reduceLT,Nat.reduceLeDiff,Nat.reduceAdd,Nat.reduceMul,Int.reduceToNat,Int.reduceLE,Int.reduceLT,rowX,slcV,cutK,bnd,evq,hi,Option.isSome_none,Int.natCast_nonneg,Int.toNat_natCast,and_self,true_and,Nat.zero_le,Nat.sub_zero]
 by_cases hm : vs.length = 0
 · have hv0 : vs = [] := List.length_eq_zero_iff.1 hm
   rw [show (((vs.length : Nat) : Int) == 0) = true by simp [hm]]
   subst hv0
   simp only [↓aX,mX,reduceCtorEq,Nat.reduceEqDiff,Nat.reduceLT,Nat.reduceLeDiff,Nat.reduceAdd,Nat.reduceMul,Int.reduceToNat,Int.reduceLE,Int.reduceLT,List.append_nil,List.take_append_drop,ret1_r]
   exact ⟨.par 0,c,rest,.inr rfl,by simp⟩
 · rw [show (((vs.length : Nat) : Int) == 0) = false by simpa using hm]
   simp only [↓aX,mX,reduceCtorEq,Nat.reduceEqDiff,Nat.reduceLT,Nat.reduceLeDiff,Nat.reduceAdd,Nat.reduceMul,Int.reduceToNat,Int.reduceLE,Int.reduceLT]
   have hv1 : vs ≠ [] := fun e => hm (by rw [e]; rfl)
   by_cases hin : i = xs.length
   · rw [show (((i : Nat) : Int) == ((xs.length : Nat) : Int)) = true by simp [hin]]
     simp only [↓aX,mX,reduceCtorEq,Nat.reduceEqDiff,Nat.reduceLT,Nat.reduceLeDiff,Nat.reduceAdd,Nat.reduceMul,Int.reduceToNat,Int.reduceLE,Int.reduceLT]
     by_cases hcap : xs.length + vs.length ≤ c
     · rw [app_slk_in (els := immE xs ++ rest) (by simp) (by simp; omega) ev fv (by decide) (by simp) hcap (by simp; omega)]
       simp only [↓aX,mX,reduceCtorEq,Nat.reduceEqDiff,Nat.reduceLT,Nat.reduceLeDiff,Nat.reduceAdd,Nat.reduceMul,Int.reduceToNat,Int.reduceLE,Int.reduceLT,ret1_r]
       refine ⟨.par 0,c,(immE xs ++ rest).drop (xs.length + vs.length),.inr ?_,?_⟩
       · simp [hin]
       · simp only [upd_at,if_true,Slot.live.injEq,Row.mk.injEq,true_and]
         rw [hin,List.take_of_length_le (Nat.le_refl _),List.drop_of_length_le (Nat.le_refl _),List.append_nil,imm_take (Nat.le_refl _),List.take_of_length_le (Nat.le_refl _),immE_app]
     · rw [app_slk_out (els := immE xs ++ rest) (by simp) (by simp; omega) ev fv (by decide) (by simp) (by omega) (by omega) (by simp [Hp.none,upd_at])]
       simp only [↓aX,mX,reduceCtorEq,Nat.reduceEqDiff,Nat.reduceLT,Nat.reduceLeDiff,Nat.reduceAdd,Nat.reduceMul,Int.reduceToNat,Int.reduceLE,Int.reduceLT,ret1_r]
       subst hin
       refine ⟨.loc 25,0,[],by simp,?_⟩
       simp only [upd_at,if_true,Slot.live.injEq,Row.mk.injEq,true_and]
       rw [List.take_of_length_le (Nat.le_refl _),List.drop_of_length_le (Nat.le_refl _),List.append_nil,imm_take (Nat.le_refl _),List.take_of_length_le (Nat.le_refl _)]
       simp [immE]
   · rw [show (((i : Nat) : Int) == ((xs.length : Nat) : Int)) = false by simp; omega]
     simp only [↓aX,mX,reduceCtorEq,Nat.reduceEqDiff,Nat.reduceLT,Nat.reduceLeDiff,Nat.reduceAdd,Nat.reduceMul,Int.reduceToNat,Int.reduceLE,Int.reduceLT,hw1,capK_slk]
     intro _
     have hfin : immE (xs.take i) ++ immE vs ++ immE (xs.drop i) = immE (xs.take i ++ vs ++ xs.drop i) := by rw [immE_app,immE_app]
     have hlen : (xs.take i ++ vs ++ xs.drop i).length = xs.length + vs.length := by simp; omega
     rw [hlen]
     have hti := immE_len (xs.take i)
     rw [List.length_take,Nat.min_eq_left hi] at hti
     have hdi := immE_len (xs.drop i)
     rw [List.length_drop] at hdi
     by_cases hcap : c < xs.length + vs.length
     · rw [show decide (((xs.length + vs.length : Nat) : Int) > (c : Int)) = true by simp; omega]
       simp only [↓aX,mX,reduceCtorEq,Nat.reduceEqDiff,Nat.reduceLT,Nat.reduceLeDiff,Nat.reduceAdd,Nat.reduceMul,Int.reduceToNat,Int.reduceLE,Int.reduceLT,slcV,cutK,bnd,evq,hi,Option.isSome_none,Int.natCast_nonneg,Int.toNat_natCast,and_self,true_and,Nat.zero_le,Nat.sub_zero,hw1,hw2,show i ≤ c by omega]
       obtain ⟨k,hk⟩ : ∃ k,k = xs.length + vs.length - i := ⟨_,rfl⟩
       rw [← hk]
       have hik : i + k = xs.length + vs.length := by omega
       rw [appz_out (els := immE xs ++ rest) (by simp) (by simp; omega) (by omega) (by omega) (by simp [Hp.none,upd_at]),imm_take hi,hik]
       simp only [↓aX,mX,reduceCtorEq,Nat.reduceEqDiff,Nat.reduceLT,Nat.reduceLeDiff,Nat.reduceAdd,Nat.reduceMul,Int.reduceToNat,Int.reduceLE,Int.reduceLT,slcV,cutB,bnd,evq,hi,Option.isSome_none,Int.natCast_nonneg,Int.toNat_natCast,and_self,true_and,Nat.zero_le,Nat.sub_zero,show i ≤ xs.length + vs.length by omega,Nat.zero_add,← hk]
       rw [cpy_in (news := immE vs) (l := .loc 40) (i := i) (n := k) (els := immE (xs.take i) ++ List.replicate k [AV.int .i64 0]) (m := vs.length) (srcE_list ev) rfl (by simp) (by simp; omega) (by rw [hvl]; exact (Nat.min_eq_left (by omega)).symm) (fun cs hcs => fv.one cs (List.mem_of_mem_take hcs))]
       rw [List.take_left' hti,List.take_of_length_le (Nat.le_of_eq hvl)]
       simp only [↓aX,mX,reduceCtorEq,Nat.reduceEqDiff,Nat.reduceLT,Nat.reduceLeDiff,Nat.reduceAdd,Nat.reduceMul,Int.reduceToNat,Int.reduceLE,Int.reduceLT,slcV,cutB,cutK,bnd,evq,hi,Option.isSome_none,Int.natCast_nonneg,Int.toNat_natCast,and_self,true_and,Nat.zero_le,Nat.sub_zero,show i + vs.length ≤ xs.length + vs.length by omega,Nat.zero_add,hw3]
       refine ⟨by decide +kernel,?_⟩
       rw [cpy_in (news := immE (xs.drop i)) (l := .loc 40) (i := i + vs.length) (n := xs.length + vs.length - (i + vs.length)) (els := immE (xs.take i) ++ immE vs ++ (immE (xs.take i) ++ List.replicate k [AV.int .i64 0]).drop (i + vs.length)) (m := xs.length - i)]
       · simp only [↓aX,mX,reduceCtorEq,Nat.reduceEqDiff,Nat.reduceLT,Nat.reduceLeDiff,Nat.reduceAdd,Nat.reduceMul,Int.reduceToNat,Int.reduceLE,Int.reduceLT,ret1_r,ptrL,Lb.fam]
         refine ⟨.loc 40,0,[],by simp,?_⟩
         simp only [upd_at,if_true,Slot.live.injEq,Row.mk.injEq,true_and,List.append_nil]
         rw [← hfin,List.take_left' (by simp; omega),List.take_of_length_le (Nat.le_of_eq hdi)]
         exact hz _ _ (List.drop_of_length_le (by simp; omega))
       · simp only [srcE,upd_at,reduceCtorEq,if_false,if_true,true_and]
         rw [if_pos (by simp; omega)]
         congr 1
         rw [imm_part (by omega)]
         congr 1
         exact List.take_of_length_le (by simp)
       · rfl
       · simp
       · simp; omega
       · rw [hdi]; exact (Nat.min_eq_left (by omega)).symm
       · exact fun cs hcs => (Flat.one (fun y hy => fx y (List.mem_of_mem_drop hy)) : ∀ cs ∈ immE (xs.drop i),AV.one1 cs) cs (List.mem_of_mem_take hcs)
     · rw [show decide (((xs.length + vs.length : Nat) : Int) > (c : Int)) = false by simp; omega]
       simp only [↓aX,mX,reduceCtorEq,Nat.reduceEqDiff,Nat.reduceLT,Nat.reduceLeDiff,Nat.reduceAdd,Nat.reduceMul,Int.reduceToNat,Int.reduceLE,Int.reduceLT,slcV,cutK,bnd,evq,hi,Option.isSome_none,Int.natCast_nonneg,Int.toNat_natCast,and_self,true_and,Nat.zero_le,Nat.sub_zero,hw1,hw3,show xs.length + vs.length ≤ c by omega,show i + vs.length ≤ xs.length + vs.length by omega,Nat.zero_add]
       refine exK_in (hO _ (.par 0) _ _ _ _ ⟨1,immE xs ++ rest⟩ _ hv1 (by simp) (by omega)) ?_
       simp only [↓aX,mX,reduceCtorEq,Nat.reduceEqDiff,Nat.reduceLT,Nat.reduceLeDiff,Nat.reduceAdd,Nat.reduceMul,Int.reduceToNat,Int.reduceLE,Int.reduceLT,slcV,cutK,bnd,evq,hi,Option.isSome_none,Int.natCast_nonneg,Int.toNat_natCast,and_self,true_and,Nat.zero_le,Nat.sub_zero,hw1,hw3,show i ≤ xs.length + vs.length by omega,show i + vs.length ≤ xs.length + vs.length by omega,Nat.zero_add]
       refine ⟨by decide +kernel,?_⟩
       have hn : (((immE xs ++ rest).drop i).take (xs.length + vs.length - i)).take (xs.length - i) = immE (xs.drop i) := by rw [List.take_take,Nat.min_eq_left (by omega),imm_part (by omega),List.take_of_length_le (by simp)]
       have fd : ∀ cs ∈ immE (xs.drop i),AV.one1 cs := Flat.one fun y hy => fx y (List.mem_of_mem_drop hy)
       rw [cpy_in (news := ((immE xs ++ rest).drop i).take (xs.length + vs.length - i)) (l := .par 0) (i := i + vs.length) (n := xs.length + vs.length - (i + vs.length)) (els := immE xs ++ rest) (m := xs.length - i)
         (by simp only [srcE,upd_at,if_true,true_and]; rw [if_pos (by simp; omega)]) rfl (by simp) (by simp; omega) (by rw [List.length_take,List.length_drop,List.length_append,hxl,hrl]; show _ = min _ _; omega) (by rw [hn]; exact fd)]
       rw [hn]
       simp only [↓aX,mX,reduceCtorEq,Nat.reduceEqDiff,Nat.reduceLT,Nat.reduceLeDiff,Nat.reduceAdd,Nat.reduceMul,Int.reduceToNat,Int.reduceLE,Int.reduceLT,ptrL,Lb.fam,slcV,cutK,bnd,evq,Option.isSome_none,Int.natCast_nonneg,Int.toNat_natCast,and_self,true_and,Nat.zero_le,Nat.sub_zero,show i ≤ xs.length + vs.length by omega,Nat.zero_add]
       rw [cpy_in (news := immE vs) (l := .par 0) (i := i) (n := xs.length + vs.length - i) (els := (immE xs ++ rest).take (i + vs.length) ++ immE (xs.drop i) ++ (immE xs ++ rest).drop (i + vs.length + (xs.length - i))) (m := vs.length)
         (srcE_list ev) rfl (by simp) (by simp; omega) (by rw [hvl]; exact (Nat.min_eq_left (by omega)).symm) (fun cs hcs => fv.one cs (List.mem_of_mem_take hcs))]
       simp only [↓aX,mX,reduceCtorEq,Nat.reduceEqDiff,Nat.reduceLT,Nat.reduceLeDiff,Nat.reduceAdd,Nat.reduceMul,Int.reduceToNat,Int.reduceLE,Int.reduceLT,ret1_r,or_true,true_and]
       refine ⟨.par 0,c,(immE xs ++ rest).drop (xs.length + vs.length),.inr rfl,?_⟩
       simp only [upd_at,if_true,Slot.live.injEq,Row.mk.injEq,true_and]
       have h1 : ((immE xs ++ rest).take (i + vs.length)).length = i + vs.length := by rw [List.length_take,List.length_append,hxl,hrl]; omega
       have e1 : i + vs.length + (xs.length - i) = xs.length + vs.length := by omega
       have e2 : ((immE xs ++ rest).take (i + vs.length) ++ immE (xs.drop i) ++ (immE xs ++ rest).drop (xs.length + vs.length)).take i = immE (xs.take i) := by
         rw [List.append_assoc,List.take_append_of_le_length (by omega),List.take_take,Nat.min_eq_left (by omega),imm_take hi]
       have e3 : ((immE xs ++ rest).take (i + vs.length) ++ immE (xs.drop i) ++ (immE xs ++ rest).drop (xs.length + vs.length)).drop (i + vs.length) = immE (xs.drop i) ++ (immE xs ++ rest).drop (xs.length + vs.length) := by
         rw [List.append_assoc,List.drop_left' h1]
       rw [e1,e2,e3,← hfin,List.take_of_length_le (Nat.le_of_eq hvl)]
       simp only [List.append_assoc]
def c_slices_Delete_int_int : AC :=
(.seq (.reg [⟨some 6,none,.mov (.c .nil0)⟩]) (.gh (.sel) (.seq (.reg [⟨some 8,none,.mov (.t 0)⟩,⟨some 9,none,.mov (.t 1)⟩,⟨some 10,none,.mov (.t 2)⟩,⟨some 11,none,.mov (.t 0)⟩,⟨some 12,none,.len (.t 11)⟩,⟨some 13,none,.slc (.t 8) (some (.t 9)) (some (.t 10)) (some (.t 12)) 1⟩]) (.seq (.seq (.reg [⟨some 14,none,.mov (.t 1)⟩,⟨some 15,none,.mov (.t 2)⟩,⟨some 16,none,.bin .eql (.t 14) (.t 15)⟩]) (.cond (.t 16) (.seq (.reg [⟨some 17,none,.mov (.t 0)⟩,⟨some 6,none,.mov (.t 17)⟩]) .ret) .skip)) (.seq (.reg [⟨some 18,none,.mov (.t 0)⟩,⟨some 19,none,.len (.t 18)⟩,⟨some 7,none,.mov (.t 19)⟩]) (.seq (.dreg [⟨some 20,none,.mov (.t 0)⟩,⟨some 21,none,.mov (.t 1)⟩,⟨some 22,none,.slc (.t 20) none (some (.t 21)) none 1⟩,⟨some 23,none,.mov (.t 0)⟩,⟨some 24,none,.mov (.t 2)⟩,⟨some 25,none,.slc (.t 23) (some (.t 24)) none none 1⟩,⟨some 26,none,.app (.t 22) (.t 25) 1 8⟩,⟨some 0,none,.mov (.t 26)⟩] [[],[],[0,1],[],[],[3,4],[2,5],[6,6,0,1,2,3,4,5,6]] [.no,.no,.no,.no,.no,.no,(.rw [] [(.par 0),(.loc 26)]),.no]) (.seq (.reg [⟨some 27,none,.mov (.t 0)⟩,⟨some 28,none,.mov (.t 0)⟩,⟨some 29,none,.len (.t 28)⟩,⟨some 30,none,.mov (.t 7)⟩,⟨some 31,none,.slc (.t 27) (some (.t 29)) (some (.t 30)) none 1⟩,⟨none,none,.clr (.t 31) 1 [(.int .i64 0)]⟩]) (.seq (.reg [⟨some 32,none,.mov (.t 0)⟩,⟨some 6,none,.mov (.t 32)⟩]) .ret))))))))
theorem pDeleteI {f_slices_Delete_int_int : Nat} (hF : compF P G f_slices_Delete_int_int = some (33,[(none,6)],c_slices_Delete_int_int.bare)) (xs : List IV) (i j : Nat) (hi : i < j) (hj : j ≤ xs.length) (hb : xs.length ≤ B) (ex : Elsz 1 xs) (fx : Flat xs) :
   GrwC P G 1 f_slices_Delete_int_int [.sl (.par 0) 1 0 xs.length,.int .i64 i,.int .i64 j] xs (xs.take i ++ xs.drop j) := by
 refine grw_of_goK hF (by simp) (by simp [lbss,AV.lbs]) ?_
 have hBv : B = 1073741824 := rfl
 unfold c_slices_Delete_int_int
 simp only [↓aX,mX,reduceCtorEq,Nat.reduceEqDiff,Nat.reduceLT,Nat.reduceLeDiff,Nat.reduceAdd,Nat.reduceMul,Int.reduceToNat,Int.reduceLE,Int.reduceLT]
 rw [go_sel]
 refine ⟨_,_,_,choice_cap (d := 0) (l := .par 0) (n := xs.length) (els := immE xs) rfl (by simp [rowX]),?_⟩
 rintro ⟨c,hc1,hc2⟩
 obtain ⟨rest,hrest⟩ : ∃ rest,rest = List.replicate (c - (immE xs).length) (List.replicate 1 AV.any) := ⟨_,rfl⟩
 have hrl : rest.length = c - xs.length := by rw [hrest,List.length_replicate,immE_len]
 simp only [← hrest]
 have hxl := immE_len xs
 simp only [↓aX,mX,reduceCtorEq,Nat.reduceEqDiff,Nat.reduceLT,Nat.reduceLeDiff,Nat.reduceAdd,Nat.reduceMul,Int.reduceToNat,Int.reduceLE,Int.reduceLT,rowX,slcV,cutK,bnd,evq,Option.isSome_none,Option.isSome_some,Option.isNone_some,Int.natCast_nonneg,Int.toNat_natCast,and_self,true_and,Nat.zero_le,Nat.sub_zero,hj,hc1,Nat.le_of_lt hi,if_true,show (((i : Nat) : Int) == ((j : Nat) : Int)) = false by simp; omega]
 refine ⟨by decide +kernel,?_⟩
 simp only [↓aX,mX,reduceCtorEq,Nat.reduceEqDiff,Nat.reduceLT,Nat.reduceLeDiff,Nat.reduceAdd,Nat.reduceMul,Int.reduceToNat,Int.reduceLE,Int.reduceLT,rowX,slcV,cutK,bnd,evq,Option.isSome_none,Int.natCast_nonneg,Int.toNat_natCast,and_self,true_and,Nat.zero_le,Nat.sub_zero,hj,show i ≤ c by omega,if_true,Nat.zero_add]
 have fd : ∀ cs ∈ immE (xs.drop j),AV.one1 cs := Flat.one fun y hy => fx y (List.mem_of_mem_drop hy)
 have hdj := immE_len (xs.drop j)
 rw [List.length_drop] at hdj
 have hti := immE_len (xs.take i)
 rw [List.length_take,Nat.min_eq_left (by omega)] at hti
 rw [app_slk_src (news := immE (xs.drop j)) (els := immE xs ++ rest)
   (by simp only [srcE,upd_at,if_true,true_and]; rw [if_pos (by simp; omega),imm_part (by omega),List.take_of_length_le (by simp)]) fd (by simp) (by simp; omega) (by decide) (by simp) (by omega) (by simp; omega)]
 rw [hdj,imm_take (by omega)]
 have hw : xs.length - j + i ≤ xs.length := by omega
 simp only [↓aX,mX,reduceCtorEq,Nat.reduceEqDiff,Nat.reduceLT,Nat.reduceLeDiff,Nat.reduceAdd,Nat.reduceMul,Int.reduceToNat,Int.reduceLE,Int.reduceLT,appL,ptrL,Lb.fam,Lb.app,Lb.fresh,slcV,cutK,bnd,evq,Option.isSome_none,Int.natCast_nonneg,Int.toNat_natCast,and_self,true_and,Nat.zero_le,Nat.sub_zero,hc1,if_true,Nat.zero_add,or_true,true_or,show i + (xs.length - j) ≤ xs.length by omega]
 rw [clr_in (l := .par 0) (i := i + (xs.length - j)) (n := xs.length - (i + (xs.length - j))) (els := immE (xs.take i) ++ immE (xs.drop j) ++ (immE xs ++ rest).drop (i + (xs.length - j))) (by intro x hx; simp at hx; rcases hx with rfl | rfl <;> rfl) rfl (by simp) (by simp; omega)]
 simp only [↓aX,mX,reduceCtorEq,Nat.reduceEqDiff,Nat.reduceLT,Nat.reduceLeDiff,Nat.reduceAdd,Nat.reduceMul,Int.reduceToNat,Int.reduceLE,Int.reduceLT,ret1_r,or_true,true_and]
 refine ⟨by rintro l (rfl | rfl) <;> simp,.par 0,c,List.replicate (xs.length - (i + (xs.length - j))) [AV.int .i64 0] ++ (immE (xs.take i) ++ immE (xs.drop j) ++ (immE xs ++ rest).drop (i + (xs.length - j))).drop (i + (xs.length - j) + (xs.length - (i + (xs.length - j)))),.inr (by rw [List.length_append,List.length_take,List.length_drop,Nat.min_eq_left (by omega)]),?_⟩
 simp only [upd_at,if_true,Slot.live.injEq,Row.mk.injEq,true_and]
 rw [List.append_assoc,List.take_left' (by rw [List.length_append]; omega),immE_app]
def c_slices_Insert_Attr_Attr (f_slices_overlaps_Attr f_slices_rotateRight_Attr : Nat) : AC :=
(.seq (.reg [⟨some 6,none,.mov (.c .nil0)⟩]) (.gh (.sel) (.seq (.reg [⟨some 10,none,.mov (.t 0)⟩,⟨some 11,none,.mov (.t 1)⟩,⟨some 12,none,.slc (.t 10) (some (.t 11)) none none 2⟩]) (.seq (.reg [⟨some 13,none,.mov (.t 2)⟩,⟨some 14,none,.len (.t 13)⟩,⟨some 7,none,.mov (.t 14)⟩]) (.seq (.seq (.reg [⟨some 15,none,.mov (.t 7)⟩,⟨some 16,none,.bin .eql (.t 15) (.c (.int .i64 0))⟩]) (.cond (.t 16) (.seq (.reg [⟨some 17,none,.mov (.t 0)⟩,⟨some 6,none,.mov (.t 17)⟩]) .ret) .skip)) (.seq (.reg [⟨some 18,none,.mov (.t 0)⟩,⟨some 19,none,.len (.t 18)⟩,⟨some 8,none,.mov (.t 19)⟩]) (.seq (.seq (.reg [⟨some 20,none,.mov (.t 1)⟩,⟨some 21,none,.mov (.t 8)⟩,⟨some 22,none,.bin .eql (.t 20) (.t 21)⟩]) (.cond (.t 22) (.seq (.reg [⟨some 23,none,.mov (.t 0)⟩,⟨some 24,none,.mov (.t 2)⟩,⟨some 25,none,.app (.t 23) (.t 24) 2 32⟩,⟨some 6,none,.mov (.t 25)⟩]) .ret) .skip)) (.seq (.seq (.reg [⟨some 26,none,.mov (.t 8)⟩,⟨some 27,none,.mov (.t 7)⟩,⟨some 28,none,.bin .add (.t 26) (.t 27)⟩,⟨some 29,none,.mov (.t 0)⟩,⟨some 30,none,.cap (.t 29)⟩,⟨some 31,none,.bin .gtr (.t 28) (.t 30)⟩]) (.cond (.t 31) (.seq (.reg [⟨some 32,none,.mov (.t 0)⟩,⟨some 33,none,.mov (.t 1)⟩,⟨some 34,none,.slc (.t 32) none (some (.t 33)) none 2⟩,⟨some 35,none,.mov (.t 8)⟩,⟨some 36,none,.mov (.t 7)⟩,⟨some 37,none,.bin .add (.t 35) (.t 36)⟩,⟨some 38,none,.mov (.t 1)⟩,⟨some 39,none,.bin .sub (.t 37) (.t 38)⟩,⟨some 40,none,.appz (.t 34) (.t 39) 2 32 [(.str []),(.str [])]⟩,⟨some 9,none,.mov (.t 40)⟩]) (.seq (.reg [⟨some 41,none,.mov (.t 9)⟩,⟨some 42,none,.mov (.t 1)⟩,⟨some 43,none,.slc (.t 41) (some (.t 42)) none none 2⟩,⟨some 44,none,.mov (.t 2)⟩,⟨some 45,none,.cpy (.t 43) (.t 44) 2⟩]) (.seq (.dreg [⟨some 46,none,.mov (.t 9)⟩,⟨some 47,none,.mov (.t 1)⟩,⟨some 48,none,.mov (.t 7)⟩,⟨some 49,none,.bin .add (.t 47) (.t 48)⟩,⟨some 50,none,.slc (.t 46) (some (.t 49)) none none 2⟩,⟨some 51,none,.mov (.t 0)⟩,⟨some 52,none,.mov (.t 1)⟩,⟨some 53,none,.slc (.t 51) (some (.t 52)) none none 2⟩,⟨some 54,none,.cpy (.t 50) (.t 53) 2⟩] [[],[],[],[1,2],[0,3],[],[],[5,6],[4,7]] [.no,.no,.no,.no,.no,.no,.no,.no,(.rw [(.par 0)] [(.loc 40)])]) (.seq (.reg [⟨some 55,none,.mov (.t 9)⟩,⟨some 6,none,.mov (.t 55)⟩]) .ret)))) .skip)) (.seq (.reg [⟨some 56,none,.mov (.t 0)⟩,⟨some 57,none,.mov (.t 8)⟩,⟨some 58,none,.mov (.t 7)⟩,⟨some 59,none,.bin .add (.t 57) (.t 58)⟩,⟨some 60,none,.slc (.t 56) none (some (.t 59)) none 2⟩,⟨some 0,none,.mov (.t 60)⟩]) (.seq (.seq (.reg [⟨some 61,none,.mov (.t 2)⟩,⟨some 62,none,.mov (.t 0)⟩,⟨some 63,none,.mov (.t 1)⟩,⟨some 64,none,.mov (.t 7)⟩,⟨some 65,none,.bin .add (.t 63) (.t 64)⟩,⟨some 66,none,.slc (.t 62) (some (.t 65)) none none 2⟩,⟨some 67,none,.callx f_slices_overlaps_Attr [(.t 61),(.t 66)]⟩,⟨some 68,none,.not (.t 67)⟩]) (.cond (.t 68) (.seq (.dreg [⟨some 69,none,.mov (.t 0)⟩,⟨some 70,none,.mov (.t 1)⟩,⟨some 71,none,.mov (.t 7)⟩,⟨some 72,none,.bin .add (.t 70) (.t 71)⟩,⟨some 73,none,.slc (.t 69) (some (.t 72)) none none 2⟩,⟨some 74,none,.mov (.t 0)⟩,⟨some 75,none,.mov (.t 1)⟩,⟨some 76,none,.slc (.t 74) (some (.t 75)) none none 2⟩,⟨some 77,none,.cpy (.t 73) (.t 76) 2⟩] [[],[],[],[1,2],[0,3],[],[],[5,6],[4,7]] [.no,.no,.no,.no,.no,.no,.no,.no,(.rw [] [(.par 0)])]) (.seq (.reg [⟨some 78,none,.mov (.t 0)⟩,⟨some 79,none,.mov (.t 1)⟩,⟨some 80,none,.slc (.t 78) (some (.t 79)) none none 2⟩,⟨some 81,none,.mov (.t 2)⟩,⟨some 82,none,.cpy (.t 80) (.t 81) 2⟩]) (.seq (.reg [⟨some 83,none,.mov (.t 0)⟩,⟨some 6,none,.mov (.t 83)⟩]) .ret))) .skip)) (.seq (.reg [⟨some 84,none,.mov (.t 0)⟩,⟨some 85,none,.mov (.t 8)⟩,⟨some 86,none,.slc (.t 84) (some (.t 85)) none none 2⟩,⟨some 87,none,.mov (.t 2)⟩,⟨some 88,none,.cpy (.t 86) (.t 87) 2⟩]) (.seq (.reg [⟨some 89,none,.mov (.t 0)⟩,⟨some 90,none,.mov (.t 1)⟩,⟨some 91,none,.slc (.t 89) (some (.t 90)) none none 2⟩,⟨some 92,none,.mov (.t 7)⟩,⟨some 93,none,.call f_slices_rotateRight_Attr [(.t 91),(.t 92)]⟩]) (.seq (.reg [⟨some 94,none,.mov (.t 0)⟩,⟨some 6,none,.mov (.t 94)⟩]) .ret)))))))))))))
theorem pInsertA {f_slices_Insert_Attr_Attr f_slices_overlaps_Attr f_slices_rotateRight_Attr : Nat} (hF : compF P G f_slices_Insert_Attr_Attr = some (95,[(none,6)],(c_slices_Insert_Attr_Attr f_slices_overlaps_Attr f_slices_rotateRight_Attr).bare)) (xs vs : List IV) (i : Nat) (hi : i ≤ xs.length) (hb : xs.length + vs.length ≤ B)
   (ex : Elsz 2 xs) (fx : Flat xs) (ev : Elsz 2 vs) (fv : Flat vs)
   (hO : ∀ (N : Nat) (l : Lb) (sz j n c : Nat) (r : Row) (H : Hp),vs ≠ [] → H l = .live r → 0 < n → ExtC ⟨P,G,N⟩ f_slices_overlaps_Attr [.list vs,.slk l sz j n c] H (.bool false)) :
   GrwC P G 2 f_slices_Insert_Attr_Attr [.sl (.par 0) 2 0 xs.length,.int .i64 i,.list vs] xs (xs.take i ++ vs ++ xs.drop i) := by
 refine grw_of_goK hF (by simp) (by simp [lbss,AV.lbs]) ?_
 have hBv : B = 1073741824 := rfl
 unfold c_slices_Insert_Attr_Attr
 simp only [↓aX,mX,reduceCtorEq,Nat.reduceEqDiff,Nat.reduceLT,Nat.reduceLeDiff,Nat.reduceAdd,Nat.reduceMul,Int.reduceToNat,Int.reduceLE,Int.reduceLT]
 rw [go_sel]
 refine ⟨_,_,_,choice_cap (d := 0) (l := .par 0) (n := xs.length) (els := immE xs) rfl (by simp [rowX]),?_⟩
 rintro ⟨c,hc1,hc2⟩
 obtain ⟨rest,hrest⟩ : ∃ rest,rest = List.replicate (c - (immE xs).length) (List.replicate 2 AV.any) := ⟨_,rfl⟩
 have hrl : rest.length = c - xs.length := by rw [hrest,List.length_replicate,immE_len]
 simp only [← hrest]
 have hz : ∀ (A D : List (List AV)),D = [] → A ++ D = A := fun A D h => by rw [h,List.append_nil]
 have hxl := immE_len xs
 have hvl := immE_len vs
 have hw1 : IntKind.i64.wrap ((xs.length : Int) + (vs.length : Int)) = ((xs.length + vs.length : Nat) : Int) := wrap64 (by omega) (by omega)
 have hw2 : IntKind.i64.wrap (((xs.length + vs.length : Nat) : Int) - (i : Int)) = ((xs.length + vs.length - i : Nat) : Int) := by rw [wrap64 (by omega) (by omega)]; omega
 have hw3 : IntKind.i64.wrap ((i : Int) + (vs.length : Int)) = ((i + vs.length : Nat) : Int) := wrap64 (by omega) (by omega)
 simp only [↓aX,mX,reduceCtorEq,Nat.reduceEqDiff,Nat.reduceLT,Nat.reduceLeDiff,Nat.reduceAdd,Nat.reduceMul,Int.reduceToNat,Int.reduceLE,Int.reduceLT,rowX,slcV,cutK,bnd,evq,hi,Option.isSome_none,Int.natCast_nonneg,Int.toNat_natCast,and_self,true_and,Nat.zero_le,Nat.sub_zero]
 by_cases hm : vs.length = 0
 · have hv0 : vs = [] := List.length_eq_zero_iff.1 hm
   rw [show (((vs.length : Nat) : Int) == 0) = true by simp [hm]]
   subst hv0
   simp only [↓aX,mX,reduceCtorEq,Nat.reduceEqDiff,Nat.reduceLT,Nat.reduceLeDiff,Nat.reduceAdd,Nat.reduceMul,Int.reduceToNat,Int.reduceLE,Int.reduceLT,List.append_nil,List.take_append_drop,ret1_r]
   exact ⟨.par 0,c,rest,.inr rfl,by simp⟩
 · rw [show (((vs.length : Nat) : Int) == 0) = false by simpa using hm]
   simp only [↓aX,mX,reduceCtorEq,Nat.reduceEqDiff,Nat.reduceLT,Nat.reduceLeDiff,Nat.reduceAdd,Nat.reduceMul,Int.reduceToNat,Int.reduceLE,Int.reduceLT]
   have hv1 : vs ≠ [] := fun e => hm (by rw [e]; rfl)
   by_cases hin : i = xs.length
   · rw [show (((i : Nat) : Int) == ((xs.length : Nat) : Int)) = true by simp [hin]]
     simp only [↓aX,mX,reduceCtorEq,Nat.reduceEqDiff,Nat.reduceLT,Nat.reduceLeDiff,Nat.reduceAdd,Nat.reduceMul,Int.reduceToNat,Int.reduceLE,Int.reduceLT]
     by_cases hcap : xs.length + vs.length ≤ c
     · rw [app_slk_in (els := immE xs ++ rest) (by simp) (by simp; omega) ev fv (by decide) (by simp) hcap (by simp; omega)]
       simp only [↓aX,mX,reduceCtorEq,Nat.reduceEqDiff,Nat.reduceLT,Nat.reduceLeDiff,Nat.reduceAdd,Nat.reduceMul,Int.reduceToNat,Int.reduceLE,Int.reduceLT,ret1_r]
       refine ⟨.par 0,c,(immE xs ++ rest).drop (xs.length + vs.length),.inr ?_,?_⟩
       · simp [hin]
       · simp only [upd_at,if_true,Slot.live.injEq,Row.mk.injEq,true_and]
         rw [hin,List.take_of_length_le (Nat.le_refl _),List.drop_of_length_le (Nat.le_refl _),List.append_nil,imm_take (Nat.le_refl _),List.take_of_length_le (Nat.le_refl _),immE_app]
     · rw [app_slk_out (els := immE xs ++ rest) (by simp) (by simp; omega) ev fv (by decide) (by simp) (by omega) (by omega) (by simp [Hp.none,upd_at])]
       simp only [↓aX,mX,reduceCtorEq,Nat.reduceEqDiff,Nat.reduceLT,Nat.reduceLeDiff,Nat.reduceAdd,Nat.reduceMul,Int.reduceToNat,Int.reduceLE,Int.reduceLT,ret1_r]
       subst hin
       refine ⟨.loc 25,0,[],by simp,?_⟩
       simp only [upd_at,if_true,Slot.live.injEq,Row.mk.injEq,true_and]
       rw [List.take_of_length_le (Nat.le_refl _),List.drop_of_length_le (Nat.le_refl _),List.append_nil,imm_take (Nat.le_refl _),List.take_of_length_le (Nat.le_refl _)]
       simp [immE]
   · rw [show (((i : Nat) : Int) == ((xs.length : Nat) : Int)) = false by simp; omega]
     simp only [↓aX,mX,reduceCtorEq,Nat.reduceEqDiff,Nat.reduceLT,Nat.reduceLeDiff,Nat.reduceAdd,Nat.reduceMul,Int.reduceToNat,Int.reduceLE,Int.reduceLT,hw1,capK_slk]
     intro _
     have hfin : immE (xs.take i) ++ immE vs ++ immE (xs.drop i) = immE (xs.take i ++ vs ++ xs.drop i) := by rw [immE_app,immE_app]
     have hlen : (xs.take i ++ vs ++ xs.drop i).length = xs.length + vs.length := by simp; omega
     rw [hlen]
     have hti := immE_len (xs.take i)
     rw [List.length_take,Nat.min_eq_left hi] at hti
     have hdi := immE_len (xs.drop i)
     rw [List.length_drop] at hdi
     by_cases hcap : c < xs.length + vs.length
     · rw [show decide (((xs.length + vs.length : Nat) : Int) > (c : Int)) = true by simp; omega]
       simp only [↓aX,mX,reduceCtorEq,Nat.reduceEqDiff,Nat.reduceLT,Nat.reduceLeDiff,Nat.reduceAdd,Nat.reduceMul,Int.reduceToNat,Int.reduceLE,Int.reduceLT,slcV,cutK,bnd,evq,hi,Option.isSome_none,Int.natCast_nonneg,Int.toNat_natCast,and_self,true_and,Nat.zero_le,Nat.sub_zero,hw1,hw2,show i ≤ c by omega]
       obtain ⟨k,hk⟩ : ∃ k,k = xs.length + vs.length - i := ⟨_,rfl⟩
       rw [← hk]
       have hik : i + k = xs.length + vs.length := by omega
       rw [appz_out (els := immE xs ++ rest) (by simp) (by simp; omega) (by omega) (by omega) (by simp [Hp.none,upd_at]),imm_take hi,hik]
       simp only [↓aX,mX,reduceCtorEq,Nat.reduceEqDiff,Nat.reduceLT,Nat.reduceLeDiff,Nat.reduceAdd,Nat.reduceMul,Int.reduceToNat,Int.reduceLE,Int.reduceLT,slcV,cutB,bnd,evq,hi,Option.isSome_none,Int.natCast_nonneg,Int.toNat_natCast,and_self,true_and,Nat.zero_le,Nat.sub_zero,show i ≤ xs.length + vs.length by omega,Nat.zero_add,← hk]
       rw [cpy_in (news := immE vs) (l := .loc 40) (i := i) (n := k) (els := immE (xs.take i) ++ List.replicate k [AV.str [],AV.str []]) (m := vs.length) (srcE_list ev) rfl (by simp) (by simp; omega) (by rw [hvl]; exact (Nat.min_eq_left (by omega)).symm) (fun cs hcs => fv.one cs (List.mem_of_mem_take hcs))]
       rw [List.take_left' hti,List.take_of_length_le (Nat.le_of_eq hvl)]
       simp only [↓aX,mX,reduceCtorEq,Nat.reduceEqDiff,Nat.reduceLT,Nat.reduceLeDiff,Nat.reduceAdd,Nat.reduceMul,Int.reduceToNat,Int.reduceLE,Int.reduceLT,slcV,cutB,cutK,bnd,evq,hi,Option.isSome_none,Int.natCast_nonneg,Int.toNat_natCast,and_self,true_and,Nat.zero_le,Nat.sub_zero,show i + vs.length ≤ xs.length + vs.length by omega,Nat.zero_add,hw3]
       refine ⟨by decide +kernel,?_⟩
       rw [cpy_in (news := immE (xs.drop i)) (l := .loc 40) (i := i + vs.length) (n := xs.length + vs.length - (i + vs.length)) (els := immE (xs.take i) ++ immE vs ++ (immE (xs.take i) ++ List.replicate k [AV.str [],AV.str []]).drop (i + vs.length)) (m := xs.length - i)]
       · simp only [↓aX,mX,reduceCtorEq,Nat.reduceEqDiff,Nat.reduceLT,Nat.reduceLeDiff,Nat.reduceAdd,Nat.reduceMul,Int.reduceToNat,Int.reduceLE,Int.reduceLT,ret1_r,ptrL,Lb.fam]
         refine ⟨.loc 40,0,[],by simp,?_⟩
         simp only [upd_at,if_true,Slot.live.injEq,Row.mk.injEq,true_and,List.append_nil]
         rw [← hfin,List.take_left' (by simp; omega),List.take_of_length_le (Nat.le_of_eq hdi)]
         exact hz _ _ (List.drop_of_length_le (by simp; omega))
       · simp only [srcE,upd_at,reduceCtorEq,if_false,if_true,true_and]
         rw [if_pos (by simp; omega)]
         congr 1
         rw [imm_part (by omega)]
         congr 1
         exact List.take_of_length_le (by simp)
       · rfl
       · simp
       · simp; omega
       · rw [hdi]; exact (Nat.min_eq_left (by omega)).symm
       · exact fun cs hcs => (Flat.one (fun y hy => fx y (List.mem_of_mem_drop hy)) : ∀ cs ∈ immE (xs.drop i),AV.one1 cs) cs (List.mem_of_mem_take hcs)
     · rw [show decide (((xs.length + vs.length : Nat) : Int) > (c : Int)) = false by simp; omega]
       simp only [↓aX,mX,reduceCtorEq,Nat.reduceEqDiff,Nat.reduceLT,Nat.reduceLeDiff,Nat.reduceAdd,Nat.reduceMul,Int.reduceToNat,Int.reduceLE,Int.reduceLT,slcV,cutK,bnd,evq,hi,Option.isSome_none,Int.natCast_nonneg,Int.toNat_natCast,and_self,true_and,Nat.zero_le,Nat.sub_zero,hw1,hw3,show xs.length + vs.length ≤ c by omega,show i + vs.length ≤ xs.length + vs.length by omega,Nat.zero_add]
       refine exK_in (hO _ (.par 0) _ _ _ _ ⟨2,immE xs ++ rest⟩ _ hv1 (by simp) (by omega)) ?_
       simp only [↓aX,mX,reduceCtorEq,Nat.reduceEqDiff,Nat.reduceLT,Nat.reduceLeDiff,Nat.reduceAdd,Nat.reduceMul,Int.reduceToNat,Int.reduceLE,Int.reduceLT,slcV,cutK,bnd,evq,hi,Option.isSome_none,Int.natCast_nonneg,Int.toNat_natCast,and_self,true_and,Nat.zero_le,Nat.sub_zero,hw1,hw3,show i ≤ xs.length + vs.length by omega,show i + vs.length ≤ xs.length + vs.length by omega,Nat.zero_add]
       refine ⟨by decide +kernel,?_⟩
       have hn : (((immE xs ++ rest).drop i).take (xs.length + vs.length - i)).take (xs.length - i) = immE (xs.drop i) := by rw [List.take_take,Nat.min_eq_left (by omega),imm_part (by omega),List.take_of_length_le (by simp)]
       have fd : ∀ cs ∈ immE (xs.drop i),AV.one1 cs := Flat.one fun y hy => fx y (List.mem_of_mem_drop hy)
       rw [cpy_in (news := ((immE xs ++ rest).drop i).take (xs.length + vs.length - i)) (l := .par 0) (i := i + vs.length) (n := xs.length + vs.length - (i + vs.length)) (els := immE xs ++ rest) (m := xs.length - i)
         (by simp only [srcE,upd_at,if_true,true_and]; rw [if_pos (by simp; omega)]) rfl (by simp) (by simp; omega) (by rw [List.length_take,List.length_drop,List.length_append,hxl,hrl]; show _ = min _ _; omega) (by rw [hn]; exact fd)]
       rw [hn]
       simp only [↓aX,mX,reduceCtorEq,Nat.reduceEqDiff,Nat.reduceLT,Nat.reduceLeDiff,Nat.reduceAdd,Nat.reduceMul,Int.reduceToNat,Int.reduceLE,Int.reduceLT,ptrL,Lb.fam,slcV,cutK,bnd,evq,Option.isSome_none,Int.natCast_nonneg,Int.toNat_natCast,and_self,true_and,Nat.zero_le,Nat.sub_zero,show i ≤ xs.length + vs.length by omega,Nat.zero_add]
       rw [cpy_in (news := immE vs) (l := .par 0) (i := i) (n := xs.length + vs.length - i) (els := (immE xs ++ rest).take (i + vs.length) ++ immE (xs.drop i) ++ (immE xs ++ rest).drop (i + vs.length + (xs.length - i))) (m := vs.length)
         (srcE_list ev) rfl (by simp) (by simp; omega) (by rw [hvl]; exact (Nat.min_eq_left (by omega)).symm) (fun cs hcs => fv.one cs (List.mem_of_mem_take hcs))]
       simp only [↓aX,mX,reduceCtorEq,Nat.reduceEqDiff,Nat.reduceLT,Nat.reduceLeDiff,Nat.reduceAdd,Nat.reduceMul,Int.reduceToNat,Int.reduceLE,Int.reduceLT,ret1_r,or_true,true_and]
       refine ⟨.par 0,c,(immE xs ++ rest).drop (xs.length + vs.length),.inr rfl,?_⟩
       simp only [upd_at,if_true,Slot.live.injEq,Row.mk.injEq,true_and]
       have h1 : ((immE xs ++ rest).take (i + vs.length)).length = i + vs.length := by rw [List.length_take,List.length_append,hxl,hrl]; omega
       have e1 : i + vs.length + (xs.length - i) = xs.length + vs.length := by omega
       have e2 : ((immE xs ++ rest).take (i + vs.length) ++ immE (xs.drop i) ++ (immE xs ++ rest).drop (xs.length + vs.length)).take i = immE (xs.take i) := by
         rw [List.append_assoc,List.take_append_of_le_length (by omega),List.take_take,Nat.min_eq_left (by omega),imm_take hi]
       have e3 : ((immE xs ++ rest).take (i + vs.length) ++ immE (xs.drop i) ++ (immE xs ++ rest).drop (xs.length + vs.length)).drop (i + vs.length) = immE (xs.drop i) ++ (immE xs ++ rest).drop (xs.length + vs.length) := by
         rw [List.append_assoc,List.drop_left' h1]
       rw [e1,e2,e3,← hfin,List.take_of_length_le (Nat.le_of_eq hvl)]
       simp only [List.append_assoc]
def c_slices_Delete_Attr_Attr : AC :=
(.seq (.reg [⟨some 6,none,.mov (.c .nil0)⟩]) (.gh (.sel) (.seq (.reg [⟨some 8,none,.mov (.t 0)⟩,⟨some 9,none,.mov (.t 1)⟩,⟨some 10,none,.mov (.t 2)⟩,⟨some 11,none,.mov (.t 0)⟩,⟨some 12,none,.len (.t 11)⟩,⟨some 13,none,.slc (.t 8) (some (.t 9)) (some (.t 10)) (some (.t 12)) 2⟩]) (.seq (.seq (.reg [⟨some 14,none,.mov (.t 1)⟩,⟨some 15,none,.mov (.t 2)⟩,⟨some 16,none,.bin .eql (.t 14) (.t 15)⟩]) (.cond (.t 16) (.seq (.reg [⟨some 17,none,.mov (.t 0)⟩,⟨some 6,none,.mov (.t 17)⟩]) .ret) .skip)) (.seq (.reg [⟨some 18,none,.mov (.t 0)⟩,⟨some 19,none,.len (.t 18)⟩,⟨some 7,none,.mov (.t 19)⟩]) (.seq (.dreg [⟨some 20,none,.mov (.t 0)⟩,⟨some 21,none,.mov (.t 1)⟩,⟨some 22,none,.slc (.t 20) none (some (.t 21)) none 2⟩,⟨some 23,none,.mov (.t 0)⟩,⟨some 24,none,.mov (.t 2)⟩,⟨some 25,none,.slc (.t 23) (some (.t 24)) none none 2⟩,⟨some 26,none,.app (.t 22) (.t 25) 2 32⟩,⟨some 0,none,.mov (.t 26)⟩] [[],[],[0,1],[],[],[3,4],[2,5],[6,6,0,1,2,3,4,5,6]] [.no,.no,.no,.no,.no,.no,(.rw [] [(.par 0),(.loc 26)]),.no]) (.seq (.reg [⟨some 27,none,.mov (.t 0)⟩,⟨some 28,none,.mov (.t 0)⟩,⟨some 29,none,.len (.t 28)⟩,⟨some 30,none,.mov (.t 7)⟩,⟨some 31,none,.slc (.t 27) (some (.t 29)) (some (.t 30)) none 2⟩,⟨none,none,.clr (.t 31) 2 [(.str []),(.str [])]⟩]) (.seq (.reg [⟨some 32,none,.mov (.t 0)⟩,⟨some 6,none,.mov (.t 32)⟩]) .ret))))))))
theorem pDeleteA {f_slices_Delete_Attr_Attr : Nat} (hF : compF P G f_slices_Delete_Attr_Attr = some (33,[(none,6)],c_slices_Delete_Attr_Attr.bare)) (xs : List IV) (i j : Nat) (hi : i < j) (hj : j ≤ xs.length) (hb : xs.length ≤ B) (ex : Elsz 2 xs) (fx : Flat xs) :
   GrwC P G 2 f_slices_Delete_Attr_Attr [.sl (.par 0) 2 0 xs.length,.int .i64 i,.int .i64 j] xs (xs.take i ++ xs.drop j) := by
 refine grw_of_goK hF (by simp) (by simp [lbss,AV.lbs]) ?_
 have hBv : B = 1073741824 := rfl
 unfold c_slices_Delete_Attr_Attr
 simp only [↓aX,mX,reduceCtorEq,Nat.reduceEqDiff,Nat.reduceLT,Nat.reduceLeDiff,Nat.reduceAdd,Nat.reduceMul,Int.reduceToNat,Int.reduceLE,Int.reduceLT]
 rw [go_sel]
 refine ⟨_,_,_,choice_cap (d := 0) (l := .par 0) (n := xs.length) (els := immE xs) rfl (by simp [rowX]),?_⟩
 rintro ⟨c,hc1,hc2⟩
 obtain ⟨rest,hrest⟩ : ∃ rest,rest = List.replicate (c - (immE xs).length) (List.replicate 2 AV.any) := ⟨_,rfl⟩
 have hrl : rest.length = c - xs.length := by rw [hrest,List.length_replicate,immE_len]
 simp only [← hrest]
 have hxl := immE_len xs
 simp only [↓aX,mX,reduceCtorEq,Nat.reduceEqDiff,Nat.reduceLT,Nat.reduceLeDiff,Nat.reduceAdd,Nat.reduceMul,Int.reduceToNat,Int.reduceLE,Int.reduceLT,rowX,slcV,cutK,bnd,evq,Option.isSome_none,Option.isSome_some,Option.isNone_some,Int.natCast_nonneg,Int.toNat_natCast,and_self,true_and,Nat.zero_le,Nat.sub_zero,hj,hc1,Nat.le_of_lt hi,if_true,show (((i : Nat) : Int) == ((j : Nat) : Int)) = false by simp; omega]
 refine ⟨by decide +kernel,?_⟩
 simp only [↓aX,mX,reduceCtorEq,Nat.reduceEqDiff,Nat.reduceLT,Nat.reduceLeDiff,Nat.reduceAdd,Nat.reduceMul,Int.reduceToNat,Int.reduceLE,Int.reduceLT,rowX,slcV,cutK,bnd,evq,Option.isSome_none,Int.natCast_nonneg,Int.toNat_natCast,and_self,true_and,Nat.zero_le,Nat.sub_zero,hj,show i ≤ c by omega,if_true,Nat.zero_add]
 have fd : ∀ cs ∈ immE (xs.drop j),AV.one1 cs := Flat.one fun y hy => fx y (List.mem_of_mem_drop hy)
 have hdj := immE_len (xs.drop j)
 rw [List.length_drop] at hdj
 have hti := immE_len (xs.take i)
 rw [List.length_take,Nat.min_eq_left (by omega)] at hti
 rw [app_slk_src (news := immE (xs.drop j)) (els := immE xs ++ rest)
   (by simp only [srcE,upd_at,if_true,true_and]; rw [if_pos (by simp; omega),imm_part (by omega),List.take_of_length_le (by simp)]) fd (by simp) (by simp; omega) (by decide) (by simp) (by omega) (by simp; omega)]
 rw [hdj,imm_take (by omega)]
 have hw : xs.length - j + i ≤ xs.length := by omega
 simp only [↓aX,mX,reduceCtorEq,Nat.reduceEqDiff,Nat.reduceLT,Nat.reduceLeDiff,Nat.reduceAdd,Nat.reduceMul,Int.reduceToNat,Int.reduceLE,Int.reduceLT,appL,ptrL,Lb.fam,Lb.app,Lb.fresh,slcV,cutK,bnd,evq,Option.isSome_none,Int.natCast_nonneg,Int.toNat_natCast,and_self,true_and,Nat.zero_le,Nat.sub_zero,hc1,if_true,Nat.zero_add,or_true,true_or,show i + (xs.length - j) ≤ xs.length by omega]
 rw [clr_in (l := .par 0) (i := i + (xs.length - j)) (n := xs.length - (i + (xs.length - j))) (els := immE (xs.take i) ++ immE (xs.drop j) ++ (immE xs ++ rest).drop (i + (xs.length - j))) (by intro x hx; simp at hx; rcases hx with rfl | rfl <;> rfl) rfl (by simp) (by simp; omega)]
 simp only [↓aX,mX,reduceCtorEq,Nat.reduceEqDiff,Nat.reduceLT,Nat.reduceLeDiff,Nat.reduceAdd,Nat.reduceMul,Int.reduceToNat,Int.reduceLE,Int.reduceLT,ret1_r,or_true,true_and]
 refine ⟨by rintro l (rfl | rfl) <;> simp,.par 0,c,List.replicate (xs.length - (i + (xs.length - j))) [AV.str [],AV.str []] ++ (immE (xs.take i) ++ immE (xs.drop j) ++ (immE xs ++ rest).drop (i + (xs.length - j))).drop (i + (xs.length - j) + (xs.length - (i + (xs.length - j)))),.inr (by rw [List.length_append,List.length_take,List.length_drop,Nat.min_eq_left (by omega)]),?_⟩
 simp only [upd_at,if_true,Slot.live.injEq,Row.mk.injEq,true_and]
 rw [List.append_assoc,List.take_left' (by rw [List.length_append]; omega),immE_app]
end
end Go.Am

/- Changes: all contracts together. -/
namespace Go.Am
open Go Go.RowKit
section
variable {P : Program} {G : Nat → Option (List IV)}
theorem bInsI {f_slices_Insert_int_int f_slices_overlaps_int f_slices_rotateRight_int : Nat} (hF : compF P G f_slices_Insert_int_int = some (95,[(none,6)],(c_slices_Insert_int_int f_slices_overlaps_int f_slices_rotateRight_int).bare))
   (hO : ∀ (N : Nat) (vs : List IV) (l : Lb) (sz j n c : Nat) (r : Row) (H : Hp),vs ≠ [] → H l = .live r → 0 < n → ExtC ⟨P,G,N⟩ f_slices_overlaps_int [.list vs,.slk l sz j n c] H (.bool false)) : InsI P G f_slices_Insert_int_int := by
 intro xs vs i hi hb
 have h := pInsertI hF (xs.map intIV) (vs.map intIV) i (by simpa using hi) (by simpa using hb) (elszI _) (flatI _) (elszI _) (flatI _) (fun N l sz j n c r H h1 h2 h3 => hO N _ l sz j n c r H h1 h2 h3)
 rw [List.length_map] at h
 simpa only [List.map_append,List.map_take,List.map_drop] using h
theorem bDelI {f_slices_Delete_int_int : Nat} (hF : compF P G f_slices_Delete_int_int = some (33,[(none,6)],c_slices_Delete_int_int.bare)) : DelI P G f_slices_Delete_int_int := by
 intro xs i hi hb
 have h := pDeleteI hF (xs.map intIV) i (i + 1) (by omega) (by rw [List.length_map]; omega) (by simpa using hb) (elszI _) (flatI _)
 rw [List.length_map] at h
 simpa only [List.map_append,List.map_take,List.map_drop] using h
theorem bInsA {f_slices_Insert_Attr_Attr f_slices_overlaps_Attr f_slices_rotateRight_Attr : Nat} (hF : compF P G f_slices_Insert_Attr_Attr = some (95,[(none,6)],(c_slices_Insert_Attr_Attr f_slices_overlaps_Attr f_slices_rotateRight_Attr).bare))
   (hO : ∀ (N : Nat) (vs : List IV) (l : Lb) (sz j n c : Nat) (r : Row) (H : Hp),vs ≠ [] → H l = .live r → 0 < n → ExtC ⟨P,G,N⟩ f_slices_overlaps_Attr [.list vs,.slk l sz j n c] H (.bool false)) : InsA P G f_slices_Insert_Attr_Attr := by
 intro xs vs i hi hb
 have h := pInsertA hF (ivA xs) (ivA vs) i (by rw [ivA_len]; exact hi) (by rw [ivA_len,ivA_len]; exact hb) (elszA _) (flatA _) (elszA _) (flatA _) (fun N l sz j n c r H h1 h2 h3 => hO N _ l sz j n c r H h1 h2 h3)
 rw [ivA_len] at h
 simpa only [ivA,List.map_append,List.map_take,List.map_drop] using h
theorem bDelA {f_slices_Delete_Attr_Attr : Nat} (hF : compF P G f_slices_Delete_Attr_Attr = some (33,[(none,6)],c_slices_Delete_Attr_Attr.bare)) : DelA P G f_slices_Delete_Attr_Attr := by
 intro xs i hi hb
 have h := pDeleteA hF (ivA xs) i (i + 1) (by omega) (by rw [ivA_len]; exact hi) (by rw [ivA_len]; exact hb) (elszA _) (flatA _)
 rw [ivA_len] at h
 simpa only [ivA,List.map_append,List.map_take,List.map_drop] using h
structure ChF (P : Program) (G : Nat → Option (List IV)) where
 f_change_Apply : Nat
 f_change_Check : Nat
 f_change_Good : Nat
 f_change_wrong : Nat
 f_change_Against : Nat
 f_change_Check_1 : Nat
 f_slices_ContainsFunc_Op_Op : Nat
 f_slices_IndexFunc_Op_Op : Nat
 f_change_phase : Nat
 f_change_bench_do : Nat
 f_change_bench_insert : Nat
 f_change_bench_add : Nat
 f_change_bench_place : Nat
 f_change_bench_value : Nat
 f_change_bench_attr : Nat
 f_change_bench_tree : Nat
 f_change_bench_attr_1 : Nat
 f_slices_Insert_int_int : Nat
 f_slices_Delete_int_int : Nat
 f_slices_Insert_Attr_Attr : Nat
 f_slices_Delete_Attr_Attr : Nat
 f_slices_BinarySearchFunc_Attr_Attr_string : Nat
 f_slices_Index_int_int : Nat
 f_strings_Compare : Nat
 f_internal_bytealg_CompareString : Nat
 f_slices_Clone_Attr_Attr : Nat
 f_slices_Clone_int_int : Nat
 f_slices_overlaps_int : Nat
 f_slices_overlaps_Attr : Nat
 f_slices_rotateRight_int : Nat
 f_slices_rotateRight_Attr : Nat
 f_internal_bytealg_abigen_runtime_cmpstring : Nat
 f_doc_Good : Nat
 f_tree_Content : Nat
 f_tree_Named : Nat
 f_tree_Plain : Nat
 f_tree_Joined : Nat
 f_doc_Make : Nat
 hApply : compF P G f_change_Apply = some (100,[((some (some 1)),4),(none,5)],(c_change_Apply f_change_Check f_slices_Clone_Attr_Attr f_slices_Clone_int_int f_change_phase f_change_bench_do f_change_bench_tree f_tree_Joined f_doc_Make).bare)
 hCheck : compF P G f_change_Check = some (42,[(none,4)],(c_change_Check f_doc_Good f_change_Good f_change_Check_1 f_slices_ContainsFunc_Op_Op).bare)
 hGood : compF P G f_change_Good = some (37,[(none,4)],(c_change_Good f_doc_Good f_change_wrong).bare)
 hWrong : compF P G f_change_wrong = some (107,[(none,4)],(c_change_wrong f_tree_Content f_tree_Named f_tree_Plain).bare)
 hAgainst : compF P G f_change_Against = some (54,[(none,4)],c_change_Against.bare)
 hCheck1 : compF P G f_change_Check_1 = some (7,[(none,3)],(c_change_Check_1 f_change_Against).bare)
 hContains : compF P G f_slices_ContainsFunc_Op_Op = some (9,[(none,4)],(c_slices_ContainsFunc_Op_Op f_slices_IndexFunc_Op_Op).bare)
 hIndexF : compF P G f_slices_IndexFunc_Op_Op = some (19,[(none,4)],c_slices_IndexFunc_Op_Op.bare)
 hPhase : compF P G f_change_phase = some (17,[(none,4)],c_change_phase.bare)
 hDo : compF P G f_change_bench_do = some (194,[],(c_change_bench_do f_change_bench_insert f_change_bench_place f_slices_Delete_int_int f_change_bench_value f_change_bench_attr).bare)
 hInsert : compF P G f_change_bench_insert = some (43,[],(c_change_bench_insert f_change_bench_add f_slices_Insert_int_int).bare)
 hAdd : compF P G f_change_bench_add = some (58,[(none,6)],(c_change_bench_add f_slices_Clone_Attr_Attr f_change_bench_add).bare)
 hPlace : compF P G f_change_bench_place = some (26,[(none,4),(none,5)],(c_change_bench_place f_slices_Index_int_int).bare)
 hValue : compF P G f_change_bench_value = some (35,[],(c_change_bench_value f_change_bench_insert).bare)
 hAttr : compF P G f_change_bench_attr = some (77,[],(c_change_bench_attr f_slices_BinarySearchFunc_Attr_Attr_string f_change_bench_attr_1 f_slices_Delete_Attr_Attr f_slices_Insert_Attr_Attr).bare)
 hTree : compF P G f_change_bench_tree = some (40,[((some (some 4)),4)],(c_change_bench_tree f_change_bench_tree).bare)
 hAttr1 : compF P G f_change_bench_attr_1 = some (9,[(none,4)],(c_change_bench_attr_1 f_strings_Compare).bare)
 hInsI : compF P G f_slices_Insert_int_int = some (95,[(none,6)],(c_slices_Insert_int_int f_slices_overlaps_int f_slices_rotateRight_int).bare)
 hDelI : compF P G f_slices_Delete_int_int = some (33,[(none,6)],c_slices_Delete_int_int.bare)
 hInsA : compF P G f_slices_Insert_Attr_Attr = some (95,[(none,6)],(c_slices_Insert_Attr_Attr f_slices_overlaps_Attr f_slices_rotateRight_Attr).bare)
 hDelA : compF P G f_slices_Delete_Attr_Attr = some (33,[(none,6)],c_slices_Delete_Attr_Attr.bare)
 hSearch : compF P G f_slices_BinarySearchFunc_Attr_Attr_string = some (49,[(none,6),(none,7)],c_slices_BinarySearchFunc_Attr_Attr_string.bare)
 hIndex : compF P G f_slices_Index_int_int = some (19,[(none,4)],c_slices_Index_int_int.bare)
 hCompare : compF P G f_strings_Compare = some (8,[(none,4)],(c_strings_Compare f_internal_bytealg_CompareString).bare)
 hCmp : compF P G f_internal_bytealg_CompareString = some (8,[(none,4)],(c_internal_bytealg_CompareString f_internal_bytealg_abigen_runtime_cmpstring).bare)
 hCloneA : compF P G f_slices_Clone_Attr_Attr = some (8,[(none,2)],c_slices_Clone_Attr_Attr.bare)
 hCloneI : compF P G f_slices_Clone_int_int = some (8,[(none,2)],c_slices_Clone_int_int.bare)
 oI : ∀ (N : Nat) (vs : List IV) (l : Lb) (sz j n c : Nat) (r : Row) (H : Hp),vs ≠ [] → H l = .live r → 0 < n → ExtC ⟨P,G,N⟩ f_slices_overlaps_int [.list vs,.slk l sz j n c] H (.bool false)
 oA : ∀ (N : Nat) (vs : List IV) (l : Lb) (sz j n c : Nat) (r : Row) (H : Hp),vs ≠ [] → H l = .live r → 0 < n → ExtC ⟨P,G,N⟩ f_slices_overlaps_Attr [.list vs,.slk l sz j n c] H (.bool false)
 xCmp : ∀ (N : Nat) (s t : Bs) (H : Hp),ExtC ⟨P,G,N⟩ f_internal_bytealg_abigen_runtime_cmpstring [.str s,.str t] H (.int .i64 (Lib.compareBytes s t))
 gAttr1 : goBody P f_change_bench_attr_1 = true
 gCheck1 : goBody P f_change_Check_1 = true
 dGood : ∀ d : Doc,wtN d ≤ B → PureC P G f_doc_Good [Doc.av d] (.bool (isDoc d))
 dContent : ∀ l : List Tree,wtT l ≤ B → PureC P G f_tree_Content [.list (ivT l)] (.bool (content l))
 dNamed : ∀ s : Bs,s.length ≤ B → PureC P G f_tree_Named [.str s] (.bool (named s))
 dPlain : ∀ s : Bs,s.length ≤ B → PureC P G f_tree_Plain [.str s] (.bool (plain s))
 dJoined : ∀ l : List Tree,wtT l ≤ B → PureC P G f_tree_Joined [.list (ivT l)] (.list (ivT (joined l)))
 dMake : ∀ x : Tree,x.wt ≤ B → PureC P G f_doc_Make [x.av] (.tup [Doc.av (makeD x).1,.int .i64 (makeD x).2])
namespace ChF
variable (c : ChF P G)
theorem cGood (d : Doc) (hd : wtN d ≤ B) (o : Op) (ho : wtT o.content ≤ B ∧ o.name.length ≤ B ∧ o.s.length ≤ B) : PureC P G c.f_change_Good [Doc.av d,o.av] (.int .i64 (goodOpF d o)) :=
 pChangeGood c.hGood d o (c.dGood d hd) fun x k1 k10 => pWrong c.hWrong x o k1 k10 (c.dContent _ ho.1) (c.dNamed _ ho.2.1) (c.dPlain _ ho.2.2)
theorem cCheck (d : Doc) (hd : wtN d ≤ B) (l : List Op) (hl : l.length ≤ B) (ho : ∀ o ∈ l,wtT o.content ≤ B ∧ o.name.length ≤ B ∧ o.s.length ≤ B) : PureC P G c.f_change_Check [Doc.av d,.list (l.map Op.iv)] (.int .i64 (checkF d l)) :=
 pCheck c.hCheck d l hl (c.dGood d hd) (fun o h => c.cGood d hd o (ho o h)) fun a _ i =>
   pContainsO c.hContains _ _ (pIndexFuncO c.hIndexF _ (by rw [List.length_take]; omega) _ c.gCheck1 fun b _ => pCheck1 c.hCheck1 a b (pAgainst c.hAgainst a b))
theorem cCmp (s t : Bs) : PureC P G c.f_strings_Compare [.str s,.str t] (.int .i64 (Lib.compareBytes s t)) := pCompare c.hCompare s t (pCmpString c.hCmp c.xCmp s t)
theorem cInsI : InsI P G c.f_slices_Insert_int_int := bInsI c.hInsI c.oI
theorem cInsC : InsC P G c.f_change_bench_insert := fun b hn p pl hp x hx hpl l hb hxk =>
 cInsert c.hInsert b hn p pl hp x hx hpl l hb hxk (fun t b hn p hb => cAdd c.hAdd (fun xs h => pCloneA c.hCloneA xs h) _ t (Nat.le_refl _) b hn p hb) c.cInsI
theorem cPlaceC : PlaceC P G c.f_change_bench_place := fun b n p x y hx hp hy hpn hB => cPlace c.hPlace b n p x y hx hp hy hpn (pIndexInt c.hIndex _ _ hB)
theorem cValueC : ValueC P G c.f_change_bench_value := fun b hn n hp x hx s hb => cValue c.hValue b hn n hp x hx s hb c.cInsC
theorem cAttrC : AttrC P G c.f_change_bench_attr := fun b n hp x hx o ht hk hb hr =>
 cAttr c.hAttr b n hp x hx o ht hk hb (pBinSearch c.hSearch _ _ (by omega) hr c.gAttr1 fun a _ => pCmpK c.hAttr1 a _ (c.cCmp _ _)) (bInsA c.hInsA c.oA) (bDelA c.hDelA)
theorem cApply : ApplyC P G c.f_change_Apply := by
 intro d l hd hl
 have hBv : B = 1073741824 := rfl
 have h22 : (2 : Nat) ^ 22 = 4194304 := by decide
 obtain ⟨h1,h2⟩ := hl
 exact pApply c.hApply c.hDo c.hTree (oCloneA c.hCloneA) (oCloneI c.hCloneI) (pPhase c.hPhase) c.cInsC c.cPlaceC (bDelI c.hDelI) c.cValueC c.cAttrC c.dJoined c.dMake d l (by omega)
   (c.cCheck d (by omega) l (by omega) fun o ho => by have := h2 o ho; omega)
end ChF
end
end Go.Am
