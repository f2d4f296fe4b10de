import Derived.Test.YtfinkeaikbmpgaaKAm27
import Derived.Test.YtfinkeaikbmpgaaKT7
set_option linter.unusedSimpArgs false
set_option linter.unusedVariables false
set_option linter.unnecessarySimpa false
set_option linter.defProp false
/- Joined. -/
namespace Go.Am
open Go Go.RowKit
def c_tree_Joined (f_tree_Joined : Nat) : AC :=
(.seq (.reg [⟨some 2,none,.mov (.c .nil0)⟩]) (.seq (.reg [⟨some 3,none,.mov (.c .nil0)⟩]) (.gh (.own 3 4) (.seq (.seq (.reg [⟨some 7,none,.mov (.t 0)⟩,⟨some 8,none,.len (.t 7)⟩,⟨some 9,none,.mov (.c (.int .i64 0))⟩]) (.block 0 (.loop (.seq (.reg [⟨some 10,none,.bin .lss (.t 9) (.t 8)⟩]) (.seq (.cond (.t 10) .skip (.exit 0)) (.seq (.block 1 (.seq (.reg [⟨some 11,none,.ixa (.t 7) (.t 9) 4⟩,⟨some 12,none,.load (some 4) (.t 11)⟩,⟨some 5,none,.new [(.bool false),(.str []),.nil0,.nil0]⟩,⟨none,none,.store 4 (.t 5) (.t 12)⟩]) (.seq (.reg [⟨some 13,none,.fld (.t 5) 3⟩,⟨some 14,none,.load none (.t 13)⟩,⟨some 15,none,.call f_tree_Joined [(.t 14)]⟩,⟨some 16,none,.fld (.t 5) 3⟩,⟨none,none,.store 1 (.t 16) (.t 15)⟩]) (.seq (.reg [⟨some 17,none,.mov (.t 3)⟩,⟨some 18,none,.len (.t 17)⟩,⟨some 6,none,.mov (.t 18)⟩]) (.block 2 (.seq (.reg [⟨some 24,none,.fld (.t 5) 0⟩,⟨some 25,none,.load none (.t 24)⟩,⟨some 26,none,.mov (.t 25)⟩,⟨some 27,(some (26,true)),(.fld (.t 5) 1)⟩,⟨some 28,(some (26,true)),(.load none (.t 27))⟩,⟨some 29,(some (26,true)),(.bin .eql (.t 28) (.c (.str [])))⟩,⟨some 30,none,.pick (.t 26) (.t 29) (.c (.bool false))⟩,⟨some 23,none,.mov (.t 30)⟩]) (.cond (.t 23) .skip (.seq (.reg [⟨some 32,none,.fld (.t 5) 0⟩,⟨some 33,none,.load none (.t 32)⟩,⟨some 34,none,.mov (.t 33)⟩,⟨some 35,(some (34,true)),(.mov (.t 6))⟩,⟨some 36,(some (34,true)),(.bin .gtr (.t 35) (.c (.int .i64 0)))⟩,⟨some 37,none,.pick (.t 34) (.t 36) (.c (.bool false))⟩,⟨some 38,none,.mov (.t 37)⟩,⟨some 39,(some (38,true)),(.mov (.t 3))⟩,⟨some 40,(some (38,true)),(.mov (.t 6))⟩,⟨some 41,(some (38,true)),(.bin .sub (.t 40) (.c (.int .i64 1)))⟩,⟨some 42,(some (38,true)),(.ixa (.t 39) (.t 41) 4)⟩,⟨some 43,(some (38,true)),(.fld (.t 42) 0)⟩,⟨some 44,(some (38,true)),(.load none (.t 43))⟩,⟨some 45,none,.pick (.t 38) (.t 44) (.c (.bool false))⟩,⟨some 31,none,.mov (.t 45)⟩]) (.cond (.t 31) (.dreg [⟨some 46,none,.mov (.t 3)⟩,⟨some 47,none,.mov (.t 6)⟩,⟨some 48,none,.bin .sub (.t 47) (.c (.int .i64 1))⟩,⟨some 49,none,.ixa (.t 46) (.t 48) 4⟩,⟨some 50,none,.fld (.t 49) 1⟩,⟨some 51,none,.load none (.t 50)⟩,⟨some 52,none,.fld (.t 5) 1⟩,⟨some 53,none,.load none (.t 52)⟩,⟨some 54,none,.bin .add (.t 51) (.t 53)⟩,⟨some 55,none,.ixa (.t 46) (.t 48) 4⟩,⟨some 56,none,.fld (.t 55) 1⟩,⟨none,none,.store 1 (.t 56) (.t 54)⟩] [[],[],[1],[0,2],[3],[4],[],[6],[5,7],[0,2,0,1,2,3,4,5,6,7,8],[9,0,1,2,3,4,5,6,7,8],[10,8,0,1,2,3,4,5,6,7,8]] [.no,.no,.no,.no,.no,(.rw [.loc 3] []),.no,.rw [.loc 5] [],.no,.no,.no,(.rw [] [.loc 3])]) (.reg [⟨some 19,none,.mov (.t 3)⟩,⟨some 20,none,.load (some 4) (.t 5)⟩,⟨some 21,none,.lits 1 4 [(.bool false),(.str []),.nil0,.nil0] [(0,(.t 20))]⟩,⟨some 22,none,.app (.t 19) (.t 21) 4 72⟩,⟨some 3,none,.mov (.t 22)⟩])))))))))) (.reg [⟨some 57,none,.bin .add (.t 9) (.c (.int .i64 1))⟩,⟨some 9,none,.mov (.t 57)⟩]))))))) (.seq (.reg [⟨some 58,none,.mov (.t 3)⟩,⟨some 2,none,.mov (.t 58)⟩]) (.gh (.frz (.loc 3) 2) .ret))))))
theorem Tree.cs_av (x : Tree) : x.cs.map IV.av1 = [.bool x.text,.str x.s,.list (ivA x.attrs),.list (ivT x.kids)] := rfl
theorem pJoined {P : Program} {G : Nat → Option (List IV)} {f_tree_Joined : Nat} (hF : compF P G f_tree_Joined = some (59,[(none,2)],(c_tree_Joined f_tree_Joined).bare)) (l : List Tree) (hx : wtT l ≤ B)
   (hJ : ∀ x ∈ l,PureC P G f_tree_Joined [.list (ivT x.kids)] (.list (ivT (joined x.kids)))) : PureC P G f_tree_Joined [.list (ivT l)] (.list (ivT (joined l))) := by
 refine pure_of_go hF (by simp) (by simp [lbss,AV.lbs]) (by simp [AV.lbs]) ?_
 have hl := wtT_len l
 unfold c_tree_Joined
 simp only [↓aX,mX,reduceCtorEq,Nat.reduceEqDiff,Nat.reduceLT,Nat.reduceLeDiff,Nat.reduceAdd,Nat.reduceMul,Int.reduceToNat,Int.reduceLE,Int.reduceLT,ivT_len]
 refine loop_row (σ := { i : Nat // i ≤ l.length }) 3 4 (fun q => [(7,.list (ivT l)),(8,.int .i64 l.length),(9,.int .i64 q.1)]) (fun q => ivT (joinA [] (l.take q.1))) (fun q => l.length - q.1) ⟨0,by simp⟩ (fun _ => rfl) ?_ ?_
 · simp only [WR_at,↓aX,mX,reduceCtorEq,Nat.reduceEqDiff,Nat.reduceLT,Nat.reduceLeDiff,Nat.reduceAdd,Nat.reduceMul,Int.reduceToNat,Int.reduceLE,Int.reduceLT]
   exact ⟨rfl,3,[],rfl,rfl,rfl⟩
 · rintro ⟨i,hi⟩
   have hw0 := wtT_joinA [] (l.take i)
   have hw1 := wtT_take l i
   have hw2 := wtT_len (joinA [] (l.take i))
   simp only [wtT] at hw0
   simp only [↓aX,mX,reduceCtorEq,Nat.reduceEqDiff,Nat.reduceLT,Nat.reduceLeDiff,Nat.reduceAdd,Nat.reduceMul,Int.reduceToNat,Int.reduceLE,Int.reduceLT,ivT_len]
   refine cK_b (fun h => ?_) (fun h => ?_)
   · have hlt : i < l.length := by simpa using h
     obtain ⟨x,hxi⟩ : ∃ x,l[i]? = some x := ⟨_,List.getElem?_eq_getElem hlt⟩
     have hw : IntKind.i64.wrap ((i : Int) + 1) = ((i + 1 : Nat) : Int) := wrap64 (by omega) (by unfold B at hx; omega)
     have hnext : joinA [] (l.take (i + 1)) = push (joinA [] (l.take i)) x.jn := by rw [List.take_add_one,hxi,joinA_app]; rfl
     simp only [↓aX,mX,reduceCtorEq,Nat.reduceEqDiff,Nat.reduceLT,Nat.reduceLeDiff,Nat.reduceAdd,Nat.reduceMul,Int.reduceToNat,Int.reduceLE,Int.reduceLT,h,hw,ivT_get,hxi,elszT,Tree.cells_eq,Tree.cs]
     generalize hout : joinA [] (l.take i) = out at *
     refine callT_pure (hJ x (List.mem_of_getElem? hxi)) ?_
     have hlen : (ivT out).length = out.length := ivT_len _
     have hivj : ivT (out ++ [x.jn]) = ivT out ++ [.agg [.bool x.text,.str x.s,.list (ivA x.attrs),.list (ivT (joined x.kids))]] := by
       rw [ivT_app]; simp [ivT,Tree.iv_eq,Tree.cs,x.jn_text,x.jn_s,x.jn_attrs,x.jn_kids]
     have next : ∀ (out' : List Tree) (env : Env) (H : Hp) (n : Nat),push out x.jn = out' → NF H → env 7 = .list (ivT l) → env 8 = .int .i64 l.length → env 9 = .int .i64 ((i + 1 : Nat) : Int) → env 3 = .sl (.loc n) 4 0 out'.length → H (.loc n) = .live ⟨4,immE (ivT out')⟩ →
         ∃ s : { i : Nat // i ≤ l.length },l.length - s.1 < l.length - i ∧ WR 3 4 (fun q : { i : Nat // i ≤ l.length } => [(7,.list (ivT l)),(8,.int .i64 l.length),(9,.int .i64 q.1)]) (fun q => ivT (joinA [] (l.take q.1))) env H s := by
       intro out' env H n h1 h2 h3 h4 h5 h6 h7
       refine ⟨⟨i + 1,hlt⟩,by simp only; omega,?_⟩
       rw [WR_at]
       simp only [EqI_cons,EqI_nil,and_true,hnext,h1,ivT_len]
       exact ⟨h2,⟨h3,h4,h5⟩,n,_,h6,h7,rfl⟩
     simp only [↓aX,mX,reduceCtorEq,Nat.reduceEqDiff,Nat.reduceLT,Nat.reduceLeDiff,Nat.reduceAdd,Nat.reduceMul,Int.reduceToNat,Int.reduceLE,Int.reduceLT,ivT_len]
     cases ht : x.text with
     | false =>
       have hp : push out x.jn = out ++ [x.jn] := by unfold push; rw [x.jn_text,ht]; simp
       simp only [↓aX,mX,reduceCtorEq,Nat.reduceEqDiff,Nat.reduceLT,Nat.reduceLeDiff,Nat.reduceAdd,Nat.reduceMul,Int.reduceToNat,Int.reduceLE,Int.reduceLT,ivT_len]
       rw [app_loc 4 72 22 3 (ivT out) (.agg [.bool false,.str x.s,.list (ivA x.attrs),.list (ivT (joined x.kids))]) (by simp [upd_at]) hlen rfl (by simp [IV.cells]) (by unfold B at hx; omega) (by decide) (by decide) (by simp [upd_at,Hp.none])]
       simp only [↓aX,mX,reduceCtorEq,Nat.reduceEqDiff,Nat.reduceLT,Nat.reduceLeDiff,Nat.reduceAdd,Nat.reduceMul,Int.reduceToNat,Int.reduceLE,Int.reduceLT,hw]
       refine next _ _ _ 22 hp (by simp only [↓aX,mX,reduceCtorEq,Nat.reduceEqDiff,Nat.reduceLT,Nat.reduceLeDiff,Nat.reduceAdd,Nat.reduceMul,Int.reduceToNat,Int.reduceLE,Int.reduceLT]) rfl rfl rfl (by simp only [↓aX,mX,reduceCtorEq,Nat.reduceEqDiff,Nat.reduceLT,Nat.reduceLeDiff,Nat.reduceAdd,Nat.reduceMul,Int.reduceToNat,Int.reduceLE,Int.reduceLT]; simp) ?_
       rw [hivj,ht]; simp only [↓aX,mX,reduceCtorEq,Nat.reduceEqDiff,Nat.reduceLT,Nat.reduceLeDiff,Nat.reduceAdd,Nat.reduceMul,Int.reduceToNat,Int.reduceLE,Int.reduceLT]
     | true =>
       simp only [↓aX,mX,reduceCtorEq,Nat.reduceEqDiff,Nat.reduceLT,Nat.reduceLeDiff,Nat.reduceAdd,Nat.reduceMul,Int.reduceToNat,Int.reduceLE,Int.reduceLT,ivT_len]
       cases hs : (x.s == []) with
       | true =>
         have hp : push out x.jn = out := by unfold push; rw [x.jn_text,ht,x.jn_s,hs]; rfl
         simp only [↓aX,mX,reduceCtorEq,Nat.reduceEqDiff,Nat.reduceLT,Nat.reduceLeDiff,Nat.reduceAdd,Nat.reduceMul,Int.reduceToNat,Int.reduceLE,Int.reduceLT,hw]
         exact next _ _ _ 3 hp (by simp only [↓aX,mX,reduceCtorEq,Nat.reduceEqDiff,Nat.reduceLT,Nat.reduceLeDiff,Nat.reduceAdd,Nat.reduceMul,Int.reduceToNat,Int.reduceLE,Int.reduceLT]) rfl rfl rfl (by simp only [↓aX,mX,reduceCtorEq,Nat.reduceEqDiff,Nat.reduceLT,Nat.reduceLeDiff,Nat.reduceAdd,Nat.reduceMul,Int.reduceToNat,Int.reduceLE,Int.reduceLT,ivT_len]) rfl
       | false =>
         simp only [↓aX,mX,reduceCtorEq,Nat.reduceEqDiff,Nat.reduceLT,Nat.reduceLeDiff,Nat.reduceAdd,Nat.reduceMul,Int.reduceToNat,Int.reduceLE,Int.reduceLT]
         by_cases h0 : out = []
         · have hp : push out x.jn = out ++ [x.jn] := by unfold push; rw [x.jn_text,ht,x.jn_s,hs,h0]; rfl
           rw [show decide ((out.length : Int) > 0) = false by rw [h0]; rfl]
           simp only [↓aX,mX,reduceCtorEq,Nat.reduceEqDiff,Nat.reduceLT,Nat.reduceLeDiff,Nat.reduceAdd,Nat.reduceMul,Int.reduceToNat,Int.reduceLE,Int.reduceLT,ivT_len]
           rw [app_loc 4 72 22 3 (ivT out) (.agg [.bool true,.str x.s,.list (ivA x.attrs),.list (ivT (joined x.kids))]) (by simp [upd_at]) hlen rfl (by simp [IV.cells]) (by unfold B at hx; omega) (by decide) (by decide) (by simp [upd_at,Hp.none])]
           simp only [↓aX,mX,reduceCtorEq,Nat.reduceEqDiff,Nat.reduceLT,Nat.reduceLeDiff,Nat.reduceAdd,Nat.reduceMul,Int.reduceToNat,Int.reduceLE,Int.reduceLT,hw]
           refine next _ _ _ 22 hp (by simp only [↓aX,mX,reduceCtorEq,Nat.reduceEqDiff,Nat.reduceLT,Nat.reduceLeDiff,Nat.reduceAdd,Nat.reduceMul,Int.reduceToNat,Int.reduceLE,Int.reduceLT]) rfl rfl rfl (by simp only [↓aX,mX,reduceCtorEq,Nat.reduceEqDiff,Nat.reduceLT,Nat.reduceLeDiff,Nat.reduceAdd,Nat.reduceMul,Int.reduceToNat,Int.reduceLE,Int.reduceLT]; simp) ?_
           rw [hivj,ht]; simp only [↓aX,mX,reduceCtorEq,Nat.reduceEqDiff,Nat.reduceLT,Nat.reduceLeDiff,Nat.reduceAdd,Nat.reduceMul,Int.reduceToNat,Int.reduceLE,Int.reduceLT]
         · have hpos : 0 < out.length := List.length_pos_iff.2 h0
           obtain ⟨y,hy,hlast⟩ := lastT_get false out h0
           have hw3 : IntKind.i64.wrap ((out.length : Int) - 1) = ((out.length - 1 : Nat) : Int) := by rw [wrap64 (by omega) (by unfold B at hx; omega)]; omega
           have hget : (immE (ivT out))[out.length - 1]? = some [.bool y.text,.str y.s,.list (ivA y.attrs),.list (ivT y.kids)] := by rw [immE_get,ivT_get,hy]; simp [Tree.cells_eq,Tree.cs,IV.av1]
           have hlt2 : out.length - 1 < out.length := by omega
           rw [show decide ((out.length : Int) > 0) = true by simp; exact hpos]
           simp only [↓aX,mX,reduceCtorEq,Nat.reduceEqDiff,Nat.reduceLT,Nat.reduceLeDiff,Nat.reduceAdd,Nat.reduceMul,Int.reduceToNat,Int.reduceLE,Int.reduceLT,hw3,hlt2,hget,ivT_len]
           cases hyt : y.text with
           | false =>
             have hp : push out x.jn = out ++ [x.jn] := by unfold push; rw [x.jn_text,ht,x.jn_s,hs,hlast,hyt]; rfl
             simp only [↓aX,mX,reduceCtorEq,Nat.reduceEqDiff,Nat.reduceLT,Nat.reduceLeDiff,Nat.reduceAdd,Nat.reduceMul,Int.reduceToNat,Int.reduceLE,Int.reduceLT,ivT_len]
             rw [app_loc 4 72 22 3 (ivT out) (.agg [.bool true,.str x.s,.list (ivA x.attrs),.list (ivT (joined x.kids))]) (by simp [upd_at]) hlen rfl (by simp [IV.cells]) (by unfold B at hx; omega) (by decide) (by decide) (by simp [upd_at,Hp.none])]
             simp only [↓aX,mX,reduceCtorEq,Nat.reduceEqDiff,Nat.reduceLT,Nat.reduceLeDiff,Nat.reduceAdd,Nat.reduceMul,Int.reduceToNat,Int.reduceLE,Int.reduceLT,hw]
             refine next _ _ _ 22 hp (by simp only [↓aX,mX,reduceCtorEq,Nat.reduceEqDiff,Nat.reduceLT,Nat.reduceLeDiff,Nat.reduceAdd,Nat.reduceMul,Int.reduceToNat,Int.reduceLE,Int.reduceLT]) rfl rfl rfl (by simp only [↓aX,mX,reduceCtorEq,Nat.reduceEqDiff,Nat.reduceLT,Nat.reduceLeDiff,Nat.reduceAdd,Nat.reduceMul,Int.reduceToNat,Int.reduceLE,Int.reduceLT]; simp) ?_
             rw [hivj,ht]; simp only [↓aX,mX,reduceCtorEq,Nat.reduceEqDiff,Nat.reduceLT,Nat.reduceLeDiff,Nat.reduceAdd,Nat.reduceMul,Int.reduceToNat,Int.reduceLE,Int.reduceLT]
           | true =>
             have hp : push out x.jn = grow x.s out := by unfold push; rw [x.jn_text,ht,x.jn_s,hs,hlast,hyt]; rfl
             have hg := grow_eq x.s out y hy
             simp only [↓aX,mX,reduceCtorEq,Nat.reduceEqDiff,Nat.reduceLT,Nat.reduceLeDiff,Nat.reduceAdd,Nat.reduceMul,Int.reduceToNat,Int.reduceLE,Int.reduceLT,hw3,hlt2,hget,ivT_len,hyt]
             refine ⟨rfl,?_⟩
             have hadd : y.s.length + x.s.length ≤ 9223372036854775807 := by
               have h1 := wtT_get _ _ _ hy
               have h2 := y.wt_eq
               have h3 := wtT_get _ _ _ hxi
               have h4 := x.wt_eq
               unfold B at hx; omega
             simp only [↓aX,mX,reduceCtorEq,Nat.reduceEqDiff,Nat.reduceLT,Nat.reduceLeDiff,Nat.reduceAdd,Nat.reduceMul,Int.reduceToNat,Int.reduceLE,Int.reduceLT,hadd,hw3,hlt2,hget,ivT_len,hyt,immE_len,hw]
             refine next (grow x.s out) _ _ 3 hp (by simp only [↓aX,mX,reduceCtorEq,Nat.reduceEqDiff,Nat.reduceLT,Nat.reduceLeDiff,Nat.reduceAdd,Nat.reduceMul,Int.reduceToNat,Int.reduceLE,Int.reduceLT]) rfl rfl rfl (by simp only [↓aX,mX,reduceCtorEq,Nat.reduceEqDiff,Nat.reduceLT,Nat.reduceLeDiff,Nat.reduceAdd,Nat.reduceMul,Int.reduceToNat,Int.reduceLE,Int.reduceLT,ivT_len,grow_len]) ?_
             have hiv : (y.withS (y.s ++ x.s)).iv.cells.map IV.av1 = [.bool true,.str (y.s ++ x.s),.list (ivA y.attrs),.list (ivT y.kids)] := by
               rw [Tree.cells_eq,Tree.cs_av]; simp [Tree.withS,Tree.text,Tree.s,Tree.attrs,Tree.kids]; rw [← hyt]; rfl
             simp only [↓aX,mX,reduceCtorEq,Nat.reduceEqDiff,Nat.reduceLT,Nat.reduceLeDiff,Nat.reduceAdd,Nat.reduceMul,Int.reduceToNat,Int.reduceLE,Int.reduceLT]
             have hset : ivT (out.set (out.length - 1) (y.withS (y.s ++ x.s))) = (ivT out).set (out.length - 1) (y.withS (y.s ++ x.s)).iv := by rw [ivT_map,ivT_map,List.map_set]
             rw [hg,hset,← immE_set,hiv]
   · simp only [↓aX,mX,reduceCtorEq,Nat.reduceEqDiff,Nat.reduceLT,Nat.reduceLeDiff,Nat.reduceAdd,Nat.reduceMul,Int.reduceToNat,Int.reduceLE,Int.reduceLT,h]
     refine ⟨4,ivT (joinA [] (l.take i)),0,_,rfl,rfl,by rw [ivT_len]; omega,flatT _,?_⟩
     have hil : i = l.length := by simp at h; omega
     subst hil
     simp only [joined,List.take_length,List.drop_zero,ivT_len]
     congr 1
     exact List.take_of_length_le (by rw [ivT_len]; exact Nat.le_refl _)
end Go.Am

/- JoinedOf. -/
namespace Go.Am
open Go Go.RowKit
theorem take_snoc' {α : Type} {l : List α} {i : Nat} {x : α} (h : l[i]? = some x) : l.take (i + 1) = l.take i ++ [x] := by rw [List.take_add_one,h]; rfl
theorem drop_take_snoc {α : Type} {l : List α} {i j : Nat} {x : α} (hij : i ≤ j) (h : l[j]? = some x) : (l.drop i).take (j + 1 - i) = (l.drop i).take (j - i) ++ [x] := by
 rw [show j + 1 - i = (j - i) + 1 by omega]
 exact take_snoc' (by rw [List.getElem?_drop,show i + (j - i) = j by omega]; exact h)
end Go.Am

/- Trees: the contracts, for all trees. -/
namespace Go.Am
open Go Go.RowKit
theorem byWt {M : List Tree → Prop} (step : ∀ l,(∀ x ∈ l,M x.kids) → M l) : ∀ l,M l := by
 have key : ∀ (n : Nat) (l : List Tree),wtT l ≤ n → M l := by
   intro n
   induction n with
   | zero =>
     intro l hn
     refine step l fun x hx => ?_
     obtain ⟨i,hi⟩ := List.getElem?_of_mem hx
     have := wtT_get l i x hi
     have := x.wt_eq
     omega
   | succ n ih =>
     intro l hn
     refine step l fun x hx => ih _ ?_
     obtain ⟨i,hi⟩ := List.getElem?_of_mem hx
     have := wtT_get l i x hi
     have := x.wt_eq
     omega
 exact fun l => key _ l (Nat.le_refl _)
theorem wt_mem {l : List Tree} {x : Tree} (h : x ∈ l) : x.wt ≤ wtT l := by
 obtain ⟨i,hi⟩ := List.getElem?_of_mem h
 exact wtT_get l i x hi
theorem wt_kids (x : Tree) : wtT x.kids ≤ x.wt := by have := x.wt_eq; omega
theorem wt_s (x : Tree) : x.s.length ≤ x.wt := by have := x.wt_eq; omega
theorem wt_attrs (x : Tree) : wtA x.attrs ≤ x.wt := by have := x.wt_eq; omega
theorem wtA_mem : ∀ {l : List Attr} {a : Attr},a ∈ l → a.wt ≤ wtA l
 | [],a,h => by simp at h
 | b :: r,a,h => by
   simp only [List.mem_cons] at h
   rcases h with rfl | h
   · simp [wtA]
   · have := wtA_mem h; simp only [wtA]; omega
section
variable {P : Program} {G : Nat → Option (List IV)}
theorem wJoined {f_tree_Joined : Nat} (hF : compF P G f_tree_Joined = some (59,[(none,2)],(c_tree_Joined f_tree_Joined).bare)) (l : List Tree) : wtT l ≤ B → PureC P G f_tree_Joined [.list (ivT l)] (.list (ivT (joined l))) :=
 byWt (M := fun l => wtT l ≤ B → PureC P G f_tree_Joined [.list (ivT l)] (.list (ivT (joined l)))) (fun l h hB => pJoined hF l hB fun x hx => h x hx (by have := wt_mem hx; have := wt_kids x; omega)) l
theorem wSize {g : Nat} (hF : compF P G g = some (32,[(none,2),(none,3)],(cSize g).bare)) : ∀ x : Tree,x.wt ≤ B → PureC P G g [x.av] (.tup [.int .i64 x.dep,.int .i64 x.cnt]) := by
 have key := byWt (M := fun l => ∀ x ∈ l,x.wt ≤ B → PureC P G g [x.av] (.tup [.int .i64 x.dep,.int .i64 x.cnt])) (fun l h x hx hB => pSize hF x hB fun k hk => h x hx k hk (by have := wt_mem hk; have := wt_kids x; omega))
 exact fun x => key [x] x (by simp)
theorem wFines {fP fN fGA fF fFs : Nat} (hP : compF P G fP = some (29,[(none,2)],cPlain.bare)) (hN : compF P G fN = some (28,[(none,2)],cNamed.bare)) (hA : compF P G fGA = some (41,[(none,2)],(cGoodAttrs fN fP).bare))
   (hF : compF P G fF = some (38,[(none,2)],(cFine fP fN fGA fFs).bare)) (hFs : compF P G fFs = some (32,[(none,2)],(cFines fF).bare)) (l : List Tree) : wtT l ≤ B → PureC P G fFs [.list (ivT l)] (.bool (fines none l)) := by
 refine byWt (M := fun l => wtT l ≤ B → PureC P G fFs [.list (ivT l)] (.bool (fines none l))) (fun l h hB => pFines hFs l (by have := wtT_len l; omega) fun x hx => ?_) l
 have h1 := wt_mem hx
 have h2 := wt_kids x
 have h3 := wt_s x
 have h4 := wt_attrs x
 have h5 := wtA_len x.attrs
 refine pFine hF x (pPlain hP _ (by omega)) (pNamed hN _ (by omega)) (pGoodAttrs hA _ (by omega) (fun a ha => pNamed hN _ ?_) (fun a ha => pPlain hP _ ?_)) (h x hx (by omega))
 · have := wtA_mem ha; unfold Attr.wt at this; omega
 · have := wtA_mem ha; unfold Attr.wt at this; omega
theorem wFine {fP fN fGA fF fFs : Nat} (hP : compF P G fP = some (29,[(none,2)],cPlain.bare)) (hN : compF P G fN = some (28,[(none,2)],cNamed.bare)) (hA : compF P G fGA = some (41,[(none,2)],(cGoodAttrs fN fP).bare))
   (hF : compF P G fF = some (38,[(none,2)],(cFine fP fN fGA fFs).bare)) (hFs : compF P G fFs = some (32,[(none,2)],(cFines fF).bare)) (x : Tree) (hB : x.wt ≤ B) : PureC P G fF [x.av] (.bool x.fine) := by
 have h2 := wt_kids x
 have h3 := wt_s x
 have h4 := wt_attrs x
 have h5 := wtA_len x.attrs
 refine pFine hF x (pPlain hP _ (by omega)) (pNamed hN _ (by omega)) (pGoodAttrs hA _ (by omega) (fun a ha => pNamed hN _ ?_) (fun a ha => pPlain hP _ ?_)) (wFines hP hN hA hF hFs _ (by omega))
 · have := wtA_mem ha; unfold Attr.wt at this; omega
 · have := wtA_mem ha; unfold Attr.wt at this; omega
end
end Go.Am

/- THE ABSTRACT MACHINE, part 32: loops whose rows stay where they are. -/
namespace Go.Am
open Go Go.RowKit
def RwI (H : Hp) : List (Lb × Row) → Prop
 | [] => True
 | (l,r) :: t => H l = .live r ∧ RwI H t
theorem RwI.rw {H : Hp} : ∀ {rs : List (Lb × Row)},RwI H rs → RwL (rnF []) H rs
 | [],_ => trivial
 | (l,r) :: t,h => ⟨by show H l = .live (renR id r); rw [renR_id]; exact h.1,RwI.rw h.2⟩
def WS {σ : Type} (ls : List Lb) (ps : σ → List (Nat × AV)) (rs : σ → List (Lb × Row)) (env : Env) (H : Hp) (s : σ) : Prop := NFx H ls ∧ EqI env (ps s) ∧ RwI H (rs s)
theorem loop_same {σ : Type} {S : St} {Q : Post} {c : AC} {k : List It} {env : Env} {H : Hp} (ls : List Lb) (ps : σ → List (Nat × AV)) (rs : σ → List (Lb × Row)) (μ : σ → Nat) (s0 : σ)
   (hls : ∀ s,(rs s).map Prod.fst = ls) (hnd : ls.Nodup) (hp : ∀ s,∀ l ∈ lbss ((ps s).map Prod.snd),l ∈ ls) (hr : ∀ s,∀ q ∈ rs s,∀ cs ∈ q.2.els,∀ l ∈ lbss cs,l ∈ ls) (h0 : WS ls ps rs env H s0)
   (round : ∀ s,go S (LoopX S Q k (WS ls ps rs) μ (μ s)) [.code c] (ofL (ps s)) (ofH (rs s))) : LoopG S Q c k env H := by
 refine loop_gen (fun s => ofL (ps s)) (fun s => ofH (rs s)) (WS ls ps rs) ?_ μ s0 h0 round
 rintro env H s ⟨h1,h2,h3⟩
 refine ⟨rnF [],WRs.wk (m := []) ⟨h1,h2.eql,RwI.rw h3,?_,fun l _ => ⟨id,fun _ => rfl⟩⟩ (hls s) (hp s) (hr s)⟩
 have : rnF [] = id := rfl
 rw [this,List.map_id]; exact hnd
theorem WS_mk {σ : Type} {ls : List Lb} {ps : σ → List (Nat × AV)} {rs : σ → List (Lb × Row)} {env : Env} {H : Hp} {s : σ} (h1 : NFx H ls) (h2 : EqI env (ps s)) (h3 : RwI H (rs s)) : WS ls ps rs env H s := ⟨h1,h2,h3⟩
theorem ofH_nil : ofH [] = Hp.none := rfl
theorem ofH_cons (l : Lb) (r : Row) (t : List (Lb × Row)) : ofH ((l,r) :: t) = upd (ofH t) l (.live r) := rfl
theorem RwI_nil (H : Hp) : RwI H [] = True := rfl
theorem RwI_cons (H : Hp) (l : Lb) (r : Row) (t : List (Lb × Row)) : RwI H ((l,r) :: t) = (H l = .live r ∧ RwI H t) := rfl
end Go.Am

/- Documents: their values; how a tree lies in one. -/
namespace Go.Am
open Go Go.RowKit
structure Node where
 text : Bool
 s : Bs
 attrs : List Attr
 parent : Int
 kids : List Int
abbrev Doc := List Node
def intIV (n : Int) : IV := .int .i64 n
def Node.cs (x : Node) : List IV := [.bool x.text,.str x.s,.list (ivA x.attrs),.int .i64 x.parent,.list (x.kids.map intIV)]
def Node.iv (x : Node) : IV := .agg x.cs
def Node.av (x : Node) : AV := .agg [.bool x.text,.str x.s,.list (ivA x.attrs),.int .i64 x.parent,.list (x.kids.map intIV)]
theorem Node.cells_eq (x : Node) : x.iv.cells = x.cs := rfl
theorem elsz_map {α : Type} (f : α → IV) (n : Nat) (h : ∀ x,(f x).cells.length = n) (xs : List α) : Elsz n (xs.map f) := by
 intro x hx
 obtain ⟨a,_,rfl⟩ := List.mem_map.1 hx
 exact h a
theorem flat_map {α : Type} (f : α → IV) (h : ∀ x,∀ z ∈ (f x).cells,∀ cs,z ≠ .agg cs) (xs : List α) : Flat (xs.map f) := by
 intro x hx
 obtain ⟨a,_,rfl⟩ := List.mem_map.1 hx
 exact h a
theorem elszI (xs : List Int) : Elsz 1 (xs.map intIV) := elsz_map intIV 1 (fun _ => rfl) xs
theorem flatI (xs : List Int) : Flat (xs.map intIV) := flat_map _ (by intro x z hz cs; simp [intIV,IV.cells] at hz; subst hz; simp) _
theorem Node.cs_flat (x : Node) : ∀ z ∈ x.cs,∀ cs,z ≠ .agg cs := by
 intro z hz cs
 simp only [Node.cs,List.mem_cons,List.not_mem_nil,or_false] at hz
 rcases hz with rfl | rfl | rfl | rfl | rfl <;> simp
theorem elszN (xs : List Node) : Elsz 5 (xs.map Node.iv) := elsz_map Node.iv 5 (fun _ => rfl) xs
theorem flatN (xs : List Node) : Flat (xs.map Node.iv) := flat_map _ (fun x => x.cs_flat) _
theorem Node.ext' {x y : Node} (h1 : x.text = y.text) (h2 : x.s = y.s) (h3 : x.attrs = y.attrs) (h4 : x.parent = y.parent) (h5 : x.kids = y.kids) : x = y := by
 cases x; cases y; simp_all
def kidsAt (off : Nat) : List Tree → List Int
 | [] => []
 | k :: r => (off : Int) :: kidsAt (off + k.cnt) r
mutual
def Tree.flat (off : Nat) (p : Int) : Tree → List Node
 | .mk t s as ks => ⟨t,s,as,p,kidsAt (off + 1) ks⟩ :: flats (off + 1) off ks
def flats (off : Nat) (p : Nat) : List Tree → List Node
 | [] => []
 | k :: r => k.flat off p ++ flats (off + k.cnt) p r
end
def Tree.node (off : Nat) (p : Int) (x : Tree) : Node := ⟨x.text,x.s,x.attrs,p,kidsAt (off + 1) x.kids⟩
theorem Tree.flat_eq (off : Nat) (p : Int) (x : Tree) : x.flat off p = x.node off p :: flats (off + 1) off x.kids := by
 cases x; simp [Tree.flat,Tree.node,Tree.text,Tree.s,Tree.attrs,Tree.kids]
mutual
theorem Tree.flat_len (off : Nat) (p : Int) : ∀ x : Tree,(x.flat off p).length = x.cnt
 | .mk t s as ks => by simp [Tree.flat,Tree.cnt,flats_len (off + 1) off ks]
theorem flats_len (off : Nat) (p : Nat) : ∀ xs : List Tree,(flats off p xs).length = cntT xs
 | [] => by simp [flats,cntT]
 | k :: r => by simp [flats,cntT,k.flat_len,flats_len _ p r]
end
theorem kidsAt_len : ∀ (off : Nat) (xs : List Tree),(kidsAt off xs).length = xs.length
 | _,[] => rfl
 | off,k :: r => by simp [kidsAt,kidsAt_len _ r]
theorem flats_app : ∀ (off p : Nat) (xs ys : List Tree),flats off p (xs ++ ys) = flats off p xs ++ flats (off + cntT xs) p ys
 | off,p,[],ys => by simp [flats,cntT]
 | off,p,k :: r,ys => by simp [flats,cntT,flats_app _ p r ys,Nat.add_assoc]
theorem kidsAt_app : ∀ (off : Nat) (xs ys : List Tree),kidsAt off (xs ++ ys) = kidsAt off xs ++ kidsAt (off + cntT xs) ys
 | off,[],ys => by simp [kidsAt,cntT]
 | off,k :: r,ys => by simp [kidsAt,cntT,kidsAt_app _ r ys,Nat.add_assoc]
def docOf (x : Tree) : Doc := x.flat 0 (-1)
theorem Tree.cnt_pos (x : Tree) : 0 < x.cnt := by rw [x.cnt_eq]; omega
end Go.Am

/- Documents: which lists of nodes are some. -/
namespace Go.Am
open Go Go.RowKit
def wk (d : Doc) : Nat → Int → Int → Int → Option Int
 | 0,_,_,_ => none
 | f + 1,n,p,nx => if n = nx then match d[n.toNat]? with
     | some x => if x.parent = p then x.kids.foldlM (fun q k => wk d f k n q) (nx + 1) else none
     | none => none
   else none
theorem drop_mem {α : Type} {l : List α} {n : Nat} {x : α} {r : List α} (h : l.drop n = x :: r) : l[n]? = some x ∧ l.drop (n + 1) = r := by
 have h1 : (l.drop n)[0]? = some x := by rw [h]; rfl
 refine ⟨by simpa [List.getElem?_drop] using h1,?_⟩
 have : (l.drop n).drop 1 = r := by rw [h]; rfl
 rwa [List.drop_drop] at this
theorem drop_eq {α : Type} {l : List α} {n : Nat} {x : α} (h : l[n]? = some x) : l.drop n = x :: l.drop (n + 1) := by
 obtain ⟨hn,rfl⟩ := List.getElem?_eq_some_iff.1 h
 exact List.drop_eq_getElem_cons hn
theorem wk_some (d : Doc) : ∀ (f : Nat),
   (∀ (m : Nat) (n p r : Int),wk d f n p m = some r → n = m ∧ ∃ x : Tree,x.dep ≤ f ∧ (∃ post,d.drop m = x.flat m p ++ post) ∧ r = ((m + x.cnt : Nat) : Int)) := by
 intro f
 induction f with
 | zero => intro m n p r h; simp [wk] at h
 | succ f ih =>
   intro m n p r h
   unfold wk at h
   split at h
   · rename_i hn
     subst hn
     simp only [Int.toNat_natCast] at h
     cases hx : d[m]? with
     | none => rw [hx] at h; simp at h
     | some nd =>
       rw [hx] at h
       simp only at h
       split at h
       · rename_i hp
         refine ⟨rfl,?_⟩
         have kids : ∀ (ks : List Int) (q : Nat) (r : Int),ks.foldlM (fun q k => wk d f k (m : Int) q) (q : Int) = some r → ∃ xs : List Tree,ks = kidsAt q xs ∧ depT xs ≤ f ∧ (∃ post,d.drop q = flats q m xs ++ post) ∧ r = ((q + cntT xs : Nat) : Int) := by
           intro ks
           induction ks with
           | nil => intro q r h; simp at h; subst h; exact ⟨[],rfl,by simp [depT],⟨_,by simp [flats]; rfl⟩,by simp [cntT]⟩
           | cons k ks ihk =>
             intro q r h
             rw [List.foldlM_cons] at h
             obtain ⟨q',h1,h2⟩ := Option.bind_eq_some_iff.1 h
             obtain ⟨rfl,x,x1,⟨post,x2⟩,rfl⟩ := ih q k m q' h1
             obtain ⟨xs,e1,e2,⟨post2,e3⟩,rfl⟩ := ihk _ _ h2
             refine ⟨x :: xs,by simp only [kidsAt,e1],by simp only [depT]; omega,⟨post2,?_⟩,by simp only [cntT,Nat.add_assoc]⟩
             have : d.drop (q + x.cnt) = post := by
               rw [← List.drop_drop,x2,List.drop_append_of_le_length (by rw [x.flat_len]; exact Nat.le_refl _),List.drop_eq_nil_of_le (by rw [x.flat_len]; exact Nat.le_refl _)]; rfl
             rw [x2,← this,e3]; simp [flats]
         obtain ⟨xs,e1,e2,⟨post,e3⟩,rfl⟩ := kids nd.kids (m + 1) r (by simpa using h)
         refine ⟨.mk nd.text nd.s nd.attrs xs,by simp only [Tree.dep]; omega,⟨post,?_⟩,by simp only [Tree.cnt]; congr 1; omega⟩
         rw [drop_eq hx,e3]
         simp only [Tree.flat,List.cons_append,List.cons.injEq,and_true]
         exact Node.ext' rfl rfl rfl hp e1
       · simp at h
   · simp at h
theorem wk_of (d : Doc) : ∀ (f : Nat) (x : Tree) (m : Nat) (p : Int),x.dep ≤ f → (∃ post,d.drop m = x.flat m p ++ post) → wk d f m p m = some ((m + x.cnt : Nat) : Int) := by
 intro f
 induction f with
 | zero => intro x m p h; rw [x.dep_eq] at h; omega
 | succ f ih =>
   intro x m p hd ⟨post,hx⟩
   rw [x.flat_eq] at hx
   obtain ⟨h1,h2⟩ := drop_mem hx
   unfold wk
   rw [if_pos rfl,Int.toNat_natCast,h1]
   simp only [Tree.node,if_true]
   have kids : ∀ (xs : List Tree) (q : Nat),depT xs ≤ f → (∃ post,d.drop q = flats q m xs ++ post) → (kidsAt q xs).foldlM (fun q k => wk d f k (m : Int) q) (q : Int) = some ((q + cntT xs : Nat) : Int) := by
     intro xs
     induction xs with
     | nil => intro q _ _; simp [kidsAt,cntT]
     | cons y ys ihk =>
       intro q hq ⟨post,hp⟩
       simp only [depT] at hq
       simp only [flats,List.append_assoc] at hp
       simp only [kidsAt,List.foldlM_cons]
       rw [ih y q m (by omega) ⟨_,hp⟩]
       simp only [Option.bind_eq_bind,Option.bind_some]
       rw [ihk (q + y.cnt) (by omega) ⟨post,by rw [← List.drop_drop,hp,List.drop_append_of_le_length (by rw [y.flat_len]; exact Nat.le_refl _),List.drop_eq_nil_of_le (by rw [y.flat_len]; exact Nat.le_refl _)]; rfl⟩]
       simp only [cntT,Nat.add_assoc]
   have hdep := x.dep_eq
   have := kids x.kids (m + 1) (by omega) ⟨post,h2⟩
   rw [show ((m : Int) + 1) = ((m + 1 : Nat) : Int) by omega,this,x.cnt_eq]
   congr 2; omega
mutual
theorem Tree.flat_inj : ∀ (x y : Tree) (off : Nat) (p : Int) (r r' : List Node),x.flat off p ++ r = y.flat off p ++ r' → x = y
 | .mk t s as ks,.mk t' s' as' ks',off,p,r,r',h => by
   simp only [Tree.flat,List.cons_append,List.cons.injEq,Node.mk.injEq] at h
   obtain ⟨⟨rfl,rfl,rfl,_,hk⟩,h⟩ := h
   have hl : ks.length = ks'.length := by have := congrArg List.length hk; simpa [kidsAt_len] using this
   rw [flats_inj ks ks' (off + 1) off r r' hl h]
theorem flats_inj : ∀ (xs ys : List Tree) (off p : Nat) (r r' : List Node),xs.length = ys.length → flats off p xs ++ r = flats off p ys ++ r' → xs = ys
 | [],[],_,_,_,_,_,_ => rfl
 | [],_ :: _,_,_,_,_,h,_ => by simp at h
 | _ :: _,[],_,_,_,_,h,_ => by simp at h
 | x :: xs,y :: ys,off,p,r,r',hl,h => by
   simp only [flats,List.append_assoc] at h
   have e := x.flat_inj y off p _ _ h
   subst e
   have := List.append_cancel_left h
   rw [flats_inj xs ys _ p r r' (by simpa using hl) this]
end
theorem docOf_inj {x y : Tree} (h : docOf x = docOf y) : x = y := x.flat_inj y 0 (-1) [] [] (by simpa [docOf] using h)
theorem docOf_len (x : Tree) : (docOf x).length = x.cnt := x.flat_len 0 (-1)
def IsDoc (d : Doc) : Prop := ∃ x : Tree,x.good = true ∧ d = docOf x
open Classical in
noncomputable def isDoc (d : Doc) : Bool := decide (IsDoc d)
theorem isDoc_iff {d : Doc} : isDoc d = true ↔ IsDoc d := by simp [isDoc]
theorem isDoc_of {x : Tree} (h : x.good = true) : isDoc (docOf x) = true := isDoc_iff.2 ⟨x,h,rfl⟩
theorem isDoc_not {d : Doc} (h : ¬ IsDoc d) : isDoc d = false := by simp [isDoc,h]
theorem good_iff (x : Tree) : x.good = true ↔ x.text = false ∧ x.dep ≤ 8 ∧ x.cnt ≤ 80 ∧ x.fine = true := by
 simp only [Tree.good,Bool.and_eq_true,Bool.not_eq_true',decide_eq_true_eq]
 constructor
 · rintro ⟨h1,h2,h3,h4⟩; exact ⟨h1,by omega,by omega,h4⟩
 · rintro ⟨h1,h2,h3,h4⟩; exact ⟨h1,by omega,by omega,h4⟩
theorem wk_doc {d : Doc} (h : wk d 8 0 (-1) 0 = some (d.length : Int)) : ∃ x : Tree,x.dep ≤ 8 ∧ d = docOf x := by
 obtain ⟨_,x,h1,⟨post,h2⟩,h3⟩ := wk_some d 8 0 0 (-1) _ h
 refine ⟨x,h1,?_⟩
 simp only [List.drop_zero,Nat.zero_add] at h2 h3
 have hl : post = [] := by
   have := congrArg List.length h2
   rw [List.length_append,x.flat_len] at this
   have : x.cnt = d.length := by omega
   exact List.length_eq_zero_iff.1 (by omega)
 rw [h2,hl,List.append_nil]; rfl
theorem wk_doc' {x : Tree} (h : x.dep ≤ 8) : wk (docOf x) 8 0 (-1) 0 = some ((docOf x).length : Int) := by
 have := wk_of (docOf x) 8 x 0 (-1) h ⟨[],by simp [docOf]⟩
 rw [docOf_len]; simpa using this
end Go.Am

/- Documents: what lies where. -/
namespace Go.Am
open Go Go.RowKit
inductive Sub : Nat → Int → Tree → Nat → Int → Tree → Prop
 | self (off : Nat) (p : Int) (t : Tree) : Sub off p t off p t
 | kid {off : Nat} {p : Int} {t : Tree} {n : Nat} {q : Int} {y : Tree} (a b : List Tree) (k : Tree) : t.kids = a ++ k :: b → Sub (off + 1 + cntT a) off k n q y → Sub off p t n q y
def Lies (d : Doc) (n : Nat) (q : Int) (y : Tree) : Prop := ∃ post,d.drop n = y.flat n q ++ post
theorem Sub.rng {off : Nat} {p : Int} {t : Tree} {n : Nat} {q : Int} {y : Tree} (h : Sub off p t n q y) : off ≤ n ∧ n + y.cnt ≤ off + t.cnt := by
 induction h with
 | self => exact ⟨Nat.le_refl _,Nat.le_refl _⟩
 | @kid off p t n q y a b k hk _ ih =>
   have h1 := t.cnt_eq
   rw [hk,cntT_app] at h1
   simp only [cntT] at h1
   omega
theorem drop_app {α : Type} {a b c : List α} {n : Nat} (h : a.length = n) : (a ++ b).drop n = b := by subst h; simp
theorem Sub.lies {off : Nat} {p : Int} {t : Tree} {n : Nat} {q : Int} {y : Tree} (h : Sub off p t n q y) : ∀ d : Doc,Lies d off p t → Lies d n q y := by
 induction h with
 | self => exact fun _ h => h
 | @kid off p t n q y a b k hk _ ih =>
   rintro d ⟨post,h⟩
   refine ih d ⟨flats (off + 1 + cntT a + k.cnt) off b ++ post,?_⟩
   rw [t.flat_eq,hk] at h
   have h2 := (drop_mem h).2
   rw [flats_app] at h2
   have h3 : d.drop (off + 1) = flats (off + 1) off a ++ (flats (off + 1 + cntT a) off (k :: b) ++ post) := by rw [h2]; exact List.append_assoc _ _ _
   rw [← List.drop_drop,h3,drop_app (c := []) (flats_len _ _ _)]
   simp [flats]
theorem Sub.parent {off : Nat} {p : Int} {t : Tree} {n : Nat} {q : Int} {y : Tree} (h : Sub off p t n q y) :
   (n = off ∧ q = p ∧ y = t) ∨ ∃ (m : Nat) (z : Tree) (r : Int),q = (m : Int) ∧ Sub off p t m r z ∧ m < n ∧ n + y.cnt ≤ m + z.cnt ∧ y ∈ z.kids ∧ off ≤ m := by
 induction h with
 | self => exact .inl ⟨rfl,rfl,rfl⟩
 | @kid off p t n q y a b k hk hs ih =>
   right
   rcases ih with ⟨rfl,rfl,rfl⟩ | ⟨m,z,r,e1,e2,e3,e4,e5,e6⟩
   · have h1 := t.cnt_eq
     rw [hk,cntT_app] at h1
     simp only [cntT] at h1
     exact ⟨off,t,p,rfl,.self _ _ _,by omega,by omega,by rw [hk]; simp,Nat.le_refl _⟩
   · exact ⟨m,z,r,e1,.kid a b k hk e2,e3,e4,e5,by omega⟩
theorem Sub.trans {off : Nat} {p : Int} {t : Tree} {n : Nat} {q : Int} {y : Tree} (h : Sub off p t n q y) {m : Nat} {r : Int} {z : Tree} (h2 : Sub n q y m r z) : Sub off p t m r z := by
 induction h with
 | self => exact h2
 | kid a b k hk _ ih => exact .kid a b k hk (ih h2)
theorem sub_all : ∀ (sz : Nat) (t : Tree) (off : Nat) (p : Int) (n : Nat),t.cnt ≤ sz → off ≤ n → n < off + t.cnt → ∃ q y,Sub off p t n q y := by
 intro sz
 induction sz with
 | zero => intro t off p n h; have := t.cnt_pos; omega
 | succ sz ih =>
   intro t off p n h h1 h2
   by_cases e : n = off
   · subst e; exact ⟨_,_,.self _ _ _⟩
   · have key : ∀ (ks a : List Tree),t.kids = a ++ ks → off + 1 + cntT a ≤ n → n < off + 1 + cntT a + cntT ks → ∃ q y,Sub off p t n q y := by
       intro ks
       induction ks with
       | nil => intro a _ h3 h4; simp [cntT] at h4; omega
       | cons k ks ihk =>
         intro a hk h3 h4
         by_cases hlt : n < off + 1 + cntT a + k.cnt
         · have hc := t.cnt_eq
           rw [hk,cntT_app] at hc
           simp only [cntT] at hc
           obtain ⟨q,y,hs⟩ := ih k (off + 1 + cntT a) off n (by omega) h3 hlt
           exact ⟨q,y,.kid a ks k hk hs⟩
         · simp only [cntT] at h4
           refine ihk (a ++ [k]) (by rw [hk]; simp) ?_ ?_
           · rw [cntT_app]; simp only [cntT]; omega
           · rw [cntT_app]; simp only [cntT]; omega
     refine key t.kids [] rfl ?_ ?_
     · simp [cntT]; omega
     · have := t.cnt_eq; simp [cntT]; omega
theorem Lies.node {d : Doc} {n : Nat} {q : Int} {y : Tree} (h : Lies d n q y) : d[n]? = some (y.node n q) := by
 obtain ⟨post,h⟩ := h
 rw [y.flat_eq] at h
 exact (drop_mem h).1
theorem Lies.len {d : Doc} {n : Nat} {q : Int} {y : Tree} (h : Lies d n q y) : n + y.cnt ≤ d.length := by
 obtain ⟨post,h⟩ := h
 have := congrArg List.length h
 rw [List.length_drop,List.length_append,y.flat_len] at this
 have := y.cnt_pos
 omega
theorem Lies.kid {d : Doc} {n : Nat} {q : Int} {y : Tree} (h : Lies d n q y) (a b : List Tree) (k : Tree) (hk : y.kids = a ++ k :: b) : Lies d (n + 1 + cntT a) n k :=
 (Sub.kid (off := n) (p := q) a b k hk (.self _ _ _)).lies d h
theorem Lies.uniq {d : Doc} {n : Nat} {q q' : Int} {y y' : Tree} (h : Lies d n q y) (h' : Lies d n q' y') : y = y' ∧ q = q' := by
 have e : q = q' := by
   have := h.node.symm.trans h'.node
   simp only [Option.some.injEq] at this
   exact congrArg Node.parent this
 subst e
 obtain ⟨post,h⟩ := h
 obtain ⟨post',h'⟩ := h'
 exact ⟨y.flat_inj y' n q post post' (h.symm.trans h'),rfl⟩
theorem lies_doc {t : Tree} {n : Nat} (h : n < (docOf t).length) : ∃ q y,Lies (docOf t) n q y ∧ Sub 0 (-1) t n q y := by
 rw [docOf_len] at h
 obtain ⟨q,y,hs⟩ := sub_all t.cnt t 0 (-1) n (Nat.le_refl _) (Nat.zero_le _) (by omega)
 exact ⟨q,y,hs.lies _ ⟨[],by simp [docOf]⟩,hs⟩
theorem fines_mem : ∀ {p : Option Bool} {l : List Tree},fines p l = true → ∀ x ∈ l,x.fine = true
 | _,[],_,x,hx => by simp at hx
 | p,y :: r,h,x,hx => by
   simp only [fines,Bool.and_eq_true] at h
   simp only [List.mem_cons] at hx
   rcases hx with rfl | hx
   · exact h.1
   · exact fines_mem h.2.2 x hx
theorem Tree.fine_kids {x : Tree} (h : x.fine = true) : fines none x.kids = true := by
 cases ht : x.text with
 | true =>
   rw [x.fine_t ht] at h
   simp only [Bool.and_eq_true,beq_iff_eq,List.length_eq_zero_iff] at h
   rw [h.2.2.2]; rfl
 | false =>
   rw [x.fine_e ht] at h
   simp only [Bool.and_eq_true] at h
   exact h.2.2
theorem Sub.fine {off : Nat} {p : Int} {t : Tree} {n : Nat} {q : Int} {y : Tree} (h : Sub off p t n q y) : t.fine = true → y.fine = true := by
 induction h with
 | self => exact id
 | kid a b k hk _ ih => exact fun h => ih (fines_mem (Tree.fine_kids h) k (by rw [hk]; simp))
theorem Tree.fine_text {x : Tree} (h : x.fine = true) (ht : x.text = true) : x.kids = [] ∧ x.attrs = [] ∧ x.s ≠ [] := by
 rw [x.fine_t ht] at h
 simp only [Bool.and_eq_true,beq_iff_eq,List.length_eq_zero_iff,bne_iff_ne] at h
 exact ⟨h.2.2.2,h.2.2.1,h.2.1⟩
mutual
def Tree.told : Tree → Bs
 | .mk t s _ ks => (if t then s else []) ++ toldT ks
def toldT : List Tree → Bs
 | [] => []
 | x :: r => x.told ++ toldT r
end
def Node.told (x : Node) : Bs := if x.text then x.s else []
mutual
theorem Tree.told_flat (off : Nat) (p : Int) : ∀ x : Tree,(x.flat off p).flatMap Node.told = x.told
 | .mk t s as ks => by simp only [Tree.flat,List.flatMap_cons,Node.told,Tree.told,toldT_flats (off + 1) off ks]
theorem toldT_flats (off : Nat) (p : Nat) : ∀ xs : List Tree,(flats off p xs).flatMap Node.told = toldT xs
 | [] => rfl
 | x :: r => by simp only [flats,List.flatMap_append,toldT,x.told_flat,toldT_flats _ p r]
end
theorem Lies.told {d : Doc} {n : Nat} {q : Int} {y : Tree} (h : Lies d n q y) : ((d.drop n).take y.cnt).flatMap Node.told = y.told := by
 obtain ⟨post,h⟩ := h
 rw [h,List.take_append_of_le_length (by rw [y.flat_len]; exact Nat.le_refl _),List.take_of_length_le (by rw [y.flat_len]; exact Nat.le_refl _),y.told_flat]
end Go.Am

/- Content; what is told; sameness, once more. -/
namespace Go.Am
open Go Go.RowKit
def c_tree_Content (f_tree_Size f_tree_fines : Nat) : AC :=
(.seq (.reg [⟨some 2,none,.mov (.c (.bool false))⟩]) (.seq (.reg [⟨some 3,none,.mov (.c (.int .i64 0))⟩]) (.seq (.seq (.reg [⟨some 8,none,.mov (.t 0)⟩,⟨some 9,none,.len (.t 8)⟩,⟨some 10,none,.mov (.c (.int .i64 0))⟩]) (.block 0 (.loop (.seq (.reg [⟨some 11,none,.bin .lss (.t 10) (.t 9)⟩]) (.seq (.cond (.t 11) .skip (.exit 0)) (.seq (.block 1 (.seq (.reg [⟨some 12,none,.ixa (.t 8) (.t 10) 4⟩,⟨some 13,none,.load (some 4) (.t 12)⟩,⟨some 5,none,.new [(.bool false),(.str []),.nil0,.nil0]⟩,⟨none,none,.store 4 (.t 5) (.t 13)⟩]) (.seq (.reg [⟨some 15,none,.load (some 4) (.t 5)⟩,⟨some 16,none,.call f_tree_Size [(.t 15)]⟩,⟨some 14,none,.mov (.t 16)⟩,⟨some 17,none,.ext (.t 14) 0⟩,⟨some 18,none,.ext (.t 14) 1⟩,⟨some 6,none,.mov (.t 17)⟩,⟨some 7,none,.mov (.t 18)⟩]) (.seq (.seq (.reg [⟨some 19,none,.mov (.t 6)⟩,⟨some 20,none,.bin .gtr (.t 19) (.c (.int .i64 8))⟩]) (.cond (.t 20) (.seq (.reg [⟨some 2,none,.mov (.c (.bool false))⟩]) .ret) .skip)) (.reg [⟨some 21,none,.mov (.t 3)⟩,⟨some 22,none,.mov (.t 7)⟩,⟨some 23,none,.bin .add (.t 21) (.t 22)⟩,⟨some 3,none,.mov (.t 23)⟩]))))) (.reg [⟨some 24,none,.bin .add (.t 10) (.c (.int .i64 1))⟩,⟨some 10,none,.mov (.t 24)⟩]))))))) (.seq (.reg [⟨some 25,none,.mov (.t 3)⟩,⟨some 26,none,.bin .leq (.t 25) (.c (.int .i64 80))⟩,⟨some 27,none,.mov (.t 26)⟩,⟨some 28,(some (27,true)),(.mov (.t 0))⟩,⟨some 29,(some (27,true)),(.call f_tree_fines [(.t 28)])⟩,⟨some 30,none,.pick (.t 27) (.t 29) (.c (.bool false))⟩,⟨some 2,none,.mov (.t 30)⟩]) .ret))))
def content (l : List Tree) : Bool := l.all (fun x => decide (x.dep ≤ 8)) && (decide (cntT l ≤ 80) && fines none l)
theorem pContent {P : Program} {G : Nat → Option (List IV)} {f_tree_Content f_tree_Size f_tree_fines : Nat} (hF : compF P G f_tree_Content = some (31,[(none,2)],(c_tree_Content f_tree_Size f_tree_fines).bare)) (l : List Tree) (hx : wtT l ≤ B)
   (hS : ∀ x ∈ l,PureC P G f_tree_Size [x.av] (.tup [.int .i64 x.dep,.int .i64 x.cnt])) (hFs : PureC P G f_tree_fines [.list (ivT l)] (.bool (fines none l))) : PureC P G f_tree_Content [.list (ivT l)] (.bool (content l)) := by
 refine pure_of_go hF (by simp) (by simp [lbss,AV.lbs]) (by simp [AV.lbs]) ?_
 have hl := wtT_len l
 unfold c_tree_Content
 simp only [↓aX,mX,reduceCtorEq,Nat.reduceEqDiff,Nat.reduceLT,Nat.reduceLeDiff,Nat.reduceAdd,Nat.reduceMul,Int.reduceToNat,Int.reduceLE,Int.reduceLT,ivT_len]
 refine loop_data (σ := { i : Nat // i ≤ l.length ∧ (l.take i).all (fun x => decide (x.dep ≤ 8)) = true }) (fun q => [(0,.list (ivT l)),(3,.int .i64 (cntT (l.take q.1))),(8,.list (ivT l)),(9,.int .i64 l.length),(10,.int .i64 q.1)]) (fun q => l.length - q.1) ⟨0,by simp⟩ (fun _ => rfl) ?_ ?_
 · exact ⟨by simp only [↓aX,mX,reduceCtorEq,Nat.reduceEqDiff,Nat.reduceLT,Nat.reduceLeDiff,Nat.reduceAdd,Nat.reduceMul,Int.reduceToNat,Int.reduceLE,Int.reduceLT],by repeat' constructor⟩
 · rintro ⟨i,hi,hs⟩
   simp only [↓aX,mX,reduceCtorEq,Nat.reduceEqDiff,Nat.reduceLT,Nat.reduceLeDiff,Nat.reduceAdd,Nat.reduceMul,Int.reduceToNat,Int.reduceLE,Int.reduceLT,ivT_len]
   refine cK_b (fun h => ?_) (fun h => ?_)
   · have hlt : i < l.length := by simpa using h
     obtain ⟨x,hxi⟩ : ∃ x,l[i]? = some x := ⟨_,List.getElem?_eq_getElem hlt⟩
     have hw : IntKind.i64.wrap ((i : Int) + 1) = ((i + 1 : Nat) : Int) := wrap64 (by omega) (by unfold B at hx; omega)
     have h2 := wtT_take l i
     have h3 := cntT_le (l.take i)
     have h5 := wtT_get _ _ _ hxi
     have h6 := x.cnt_le
     have h1 : l.take (i + 1) = l.take i ++ [x] := by rw [List.take_add_one,hxi]; rfl
     have hc : IntKind.i64.wrap ((cntT (l.take i) : Int) + (x.cnt : Int)) = ((cntT (l.take (i + 1)) : Nat) : Int) := by
       rw [wrap64 (by omega) (by unfold B at hx; omega),h1,cntT_app]; simp [cntT]
     simp only [↓aX,mX,reduceCtorEq,Nat.reduceEqDiff,Nat.reduceLT,Nat.reduceLeDiff,Nat.reduceAdd,Nat.reduceMul,Int.reduceToNat,Int.reduceLE,Int.reduceLT,ivT_get,hxi,elszT,Tree.cells_eq,Tree.cs]
     refine callT_pure (hS x (List.mem_of_getElem? hxi)) ?_
     simp only [↓aX,mX,reduceCtorEq,Nat.reduceEqDiff,Nat.reduceLT,Nat.reduceLeDiff,Nat.reduceAdd,Nat.reduceMul,Int.reduceToNat,Int.reduceLE,Int.reduceLT]
     refine cK_b (fun h9 => ?_) (fun h9 => ?_)
     · simp only [↓aX,mX,reduceCtorEq,Nat.reduceEqDiff,Nat.reduceLT,Nat.reduceLeDiff,Nat.reduceAdd,Nat.reduceMul,Int.reduceToNat,Int.reduceLE,Int.reduceLT]
       have : l.all (fun x => decide (x.dep ≤ 8)) = false := by
         rw [Bool.eq_false_iff]
         intro hall
         have := List.all_eq_true.1 hall x (List.mem_of_getElem? hxi)
         simp at this h9; omega
       rw [content,this]; rfl
     · simp only [↓aX,mX,reduceCtorEq,Nat.reduceEqDiff,Nat.reduceLT,Nat.reduceLeDiff,Nat.reduceAdd,Nat.reduceMul,Int.reduceToNat,Int.reduceLE,Int.reduceLT,hw,hc]
       refine ⟨⟨i + 1,hlt,?_⟩,by simp only; omega,by simp only [↓aX,mX,reduceCtorEq,Nat.reduceEqDiff,Nat.reduceLT,Nat.reduceLeDiff,Nat.reduceAdd,Nat.reduceMul,Int.reduceToNat,Int.reduceLE,Int.reduceLT],by repeat' constructor⟩
       rw [h1,List.all_append,hs]
       simp at h9 ⊢; omega
   · have hil : i = l.length := by simp at h; omega
     subst hil
     rw [List.take_length] at hs
     simp only [↓aX,mX,reduceCtorEq,Nat.reduceEqDiff,Nat.reduceLT,Nat.reduceLeDiff,Nat.reduceAdd,Nat.reduceMul,Int.reduceToNat,Int.reduceLE,Int.reduceLT,List.take_length]
     cases h9 : decide ((cntT l : Int) ≤ 80) with
     | true =>
       simp only [↓aX,mX,reduceCtorEq,Nat.reduceEqDiff,Nat.reduceLT,Nat.reduceLeDiff,Nat.reduceAdd,Nat.reduceMul,Int.reduceToNat,Int.reduceLE,Int.reduceLT]
       refine callT_pure hFs ?_
       simp only [↓aX,mX,reduceCtorEq,Nat.reduceEqDiff,Nat.reduceLT,Nat.reduceLeDiff,Nat.reduceAdd,Nat.reduceMul,Int.reduceToNat,Int.reduceLE,Int.reduceLT]
       have : decide (cntT l ≤ 80) = true := by simp at h9 ⊢; omega
       rw [content,hs,this]; rfl
     | false =>
       simp only [↓aX,mX,reduceCtorEq,Nat.reduceEqDiff,Nat.reduceLT,Nat.reduceLeDiff,Nat.reduceAdd,Nat.reduceMul,Int.reduceToNat,Int.reduceLE,Int.reduceLT]
       have : decide (cntT l ≤ 80) = false := by simp at h9 ⊢; omega
       rw [content,hs,this]; rfl
theorem Tree.told_eq (x : Tree) : x.told = (if x.text then x.s else []) ++ toldT x.kids := by
 cases x with
 | mk t s as ks => cases t <;> rfl
end Go.Am
