import Derived.Test.YtfinkeaikbmpgaaKS3
import Derived.Test.YtfinkeaikbmpgaaKT8
import Derived.Test.YtfinkeaikbmpgaaKB1
import Derived.Test.YtfinkeaikbmpgaaKT84
import Derived.Test.YtfinkeaikbmpgaaKAm33
set_option linter.unusedSimpArgs false
set_option linter.unusedVariables false
set_option linter.unnecessarySimpa false
set_option linter.defProp false
/- Changes: what is wrong with one. -/
namespace Go.Am
open Go Go.RowKit
structure Op where
 kind : Int
 target : Int
 content : List Tree
 name : Bs
 s : Bs
def Op.cs (x : Op) : List IV := [.int .i64 x.kind,.int .i64 x.target,.list (ivT x.content),.str x.name,.str x.s]
def Op.iv (x : Op) : IV := .agg x.cs
def Op.av (x : Op) : AV := .agg [.int .i64 x.kind,.int .i64 x.target,.list (ivT x.content),.str x.name,.str x.s]
theorem Op.cells_eq (x : Op) : x.iv.cells = x.cs := rfl
theorem elszO (xs : List Op) : Elsz 5 (xs.map Op.iv) := elsz_map Op.iv 5 (fun _ => rfl) xs
theorem opGet (l : List Op) (i : Nat) : (l.map Op.iv)[i]? = (l[i]?).map Op.iv := List.getElem?_map ..
theorem Op.cs_flat (x : Op) : ∀ z ∈ x.cs,∀ cs,z ≠ .agg cs := by
 intro z hz cs
 simp only [Op.cs,List.mem_cons,List.not_mem_nil,or_false] at hz
 rcases hz with rfl | rfl | rfl | rfl | rfl <;> simp
theorem flatO (xs : List Op) : Flat (xs.map Op.iv) := flat_map _ (fun x => x.cs_flat) _
def phaseF (k : Int) (t : Bool) : Int := if k = 3 then 2 else if k = 4 then 2 else if k = 6 then 3 else if k = 7 then (if t then 1 else 4) else if k = 5 then 5 else 1
def c_change_phase : AC :=
(.seq (.reg [⟨some 4,none,.mov (.c (.int .i64 0))⟩]) (.seq (.seq (.reg [⟨some 5,none,.mov (.t 0)⟩]) (.block 0 (.seq (.seq (.reg [⟨some 7,none,.bin .eql (.t 5) (.c (.int .i64 3))⟩,⟨some 6,none,.mov (.t 7)⟩]) (.cond (.t 6) .skip (.reg [⟨some 8,none,.bin .eql (.t 5) (.c (.int .i64 4))⟩,⟨some 6,none,.mov (.t 8)⟩]))) (.cond (.t 6) (.seq (.reg [⟨some 4,none,.mov (.c (.int .i64 2))⟩]) .ret) (.seq (.reg [⟨some 10,none,.bin .eql (.t 5) (.c (.int .i64 6))⟩,⟨some 9,none,.mov (.t 10)⟩]) (.cond (.t 9) (.seq (.reg [⟨some 4,none,.mov (.c (.int .i64 3))⟩]) .ret) (.seq (.reg [⟨some 12,none,.bin .eql (.t 5) (.c (.int .i64 7))⟩,⟨some 11,none,.mov (.t 12)⟩]) (.cond (.t 11) (.seq (.reg [⟨some 13,none,.mov (.t 1)⟩,⟨some 14,none,.not (.t 13)⟩]) (.cond (.t 14) (.seq (.reg [⟨some 4,none,.mov (.c (.int .i64 4))⟩]) .ret) .skip)) (.seq (.reg [⟨some 16,none,.bin .eql (.t 5) (.c (.int .i64 5))⟩,⟨some 15,none,.mov (.t 16)⟩]) (.cond (.t 15) (.seq (.reg [⟨some 4,none,.mov (.c (.int .i64 5))⟩]) .ret) .skip)))))))))) (.seq (.reg [⟨some 4,none,.mov (.c (.int .i64 1))⟩]) .ret)))
theorem pPhase {P : Program} {G : Nat → Option (List IV)} {f_change_phase : Nat} (hF : compF P G f_change_phase = some (17,[(none,4)],c_change_phase.bare)) (k : Int) (t : Bool) : PureC P G f_change_phase [.int .i64 k,.bool t] (.int .i64 (phaseF k t)) := by
 refine pure_of_go hF (by simp) (by simp [lbss,AV.lbs]) (by simp [AV.lbs]) ?_
 unfold c_change_phase
 by_cases h3 : k = 3
 · subst h3; simp only [↓aX,mX,reduceCtorEq,Nat.reduceEqDiff,Nat.reduceLT,Nat.reduceLeDiff,Nat.reduceAdd,Nat.reduceMul,Int.reduceToNat,Int.reduceLE,Int.reduceLT,Int.reduceBEq]; rfl
 by_cases h4 : k = 4
 · subst h4; simp only [↓aX,mX,reduceCtorEq,Nat.reduceEqDiff,Nat.reduceLT,Nat.reduceLeDiff,Nat.reduceAdd,Nat.reduceMul,Int.reduceToNat,Int.reduceLE,Int.reduceLT,Int.reduceBEq]; rfl
 by_cases h6 : k = 6
 · subst h6; simp only [↓aX,mX,reduceCtorEq,Nat.reduceEqDiff,Nat.reduceLT,Nat.reduceLeDiff,Nat.reduceAdd,Nat.reduceMul,Int.reduceToNat,Int.reduceLE,Int.reduceLT,Int.reduceBEq]; rfl
 by_cases h7 : k = 7
 · subst h7
   cases t
   · simp only [↓aX,mX,reduceCtorEq,Nat.reduceEqDiff,Nat.reduceLT,Nat.reduceLeDiff,Nat.reduceAdd,Nat.reduceMul,Int.reduceToNat,Int.reduceLE,Int.reduceLT,Int.reduceBEq,Bool.not_false]; rfl
   · simp only [↓aX,mX,reduceCtorEq,Nat.reduceEqDiff,Nat.reduceLT,Nat.reduceLeDiff,Nat.reduceAdd,Nat.reduceMul,Int.reduceToNat,Int.reduceLE,Int.reduceLT,Int.reduceBEq,Bool.not_true]; rfl
 by_cases h5 : k = 5
 · subst h5; simp only [↓aX,mX,reduceCtorEq,Nat.reduceEqDiff,Nat.reduceLT,Nat.reduceLeDiff,Nat.reduceAdd,Nat.reduceMul,Int.reduceToNat,Int.reduceLE,Int.reduceLT,Int.reduceBEq]; rfl
 simp only [↓aX,mX,reduceCtorEq,Nat.reduceEqDiff,Nat.reduceLT,Nat.reduceLeDiff,Nat.reduceAdd,Nat.reduceMul,Int.reduceToNat,Int.reduceLE,Int.reduceLT,beq_eq_false_iff_ne.2 h3,beq_eq_false_iff_ne.2 h4,beq_eq_false_iff_ne.2 h6,beq_eq_false_iff_ne.2 h7,beq_eq_false_iff_ne.2 h5]
 simp only [phaseF,h3,h4,h5,h6,h7,if_false]
def attrK (k : Int) : Bool := k == 9 || k == 10
def againstF (a b : Op) : Bool := a.target == b.target && ((attrK a.kind && attrK b.kind && a.name == b.name) || (a.kind == b.kind && decide (6 ≤ a.kind) && decide (a.kind ≤ 8)))
def c_change_Against : AC :=
(.seq (.reg [⟨some 2,none,.box (.t 0)⟩,⟨some 3,none,.box (.t 1)⟩,⟨some 4,none,.mov (.c (.bool false))⟩]) (.seq (.seq (.reg [⟨some 6,none,.fld (.t 2) 1⟩,⟨some 7,none,.load none (.t 6)⟩,⟨some 8,none,.fld (.t 3) 1⟩,⟨some 9,none,.load none (.t 8)⟩,⟨some 10,none,.bin .neq (.t 7) (.t 9)⟩]) (.cond (.t 10) (.seq (.reg [⟨some 4,none,.mov (.c (.bool false))⟩]) .ret) .skip)) (.seq (.reg [⟨some 11,none,.fld (.t 2) 0⟩,⟨some 12,none,.load none (.t 11)⟩,⟨some 13,none,.bin .eql (.t 12) (.c (.int .i64 9))⟩,⟨some 14,none,.mov (.t 13)⟩,⟨some 15,(some (14,false)),(.fld (.t 2) 0)⟩,⟨some 16,(some (14,false)),(.load none (.t 15))⟩,⟨some 17,(some (14,false)),(.bin .eql (.t 16) (.c (.int .i64 10)))⟩,⟨some 18,none,.pick (.t 14) (.c (.bool true)) (.t 17)⟩,⟨some 19,none,.mov (.t 18)⟩,⟨some 20,(some (19,true)),(.fld (.t 3) 0)⟩,⟨some 21,(some (19,true)),(.load none (.t 20))⟩,⟨some 22,(some (19,true)),(.bin .eql (.t 21) (.c (.int .i64 9)))⟩,⟨some 23,(some (19,true)),(.mov (.t 22))⟩,⟨some 24,(some (23,false)),(.fld (.t 3) 0)⟩,⟨some 25,(some (23,false)),(.load none (.t 24))⟩,⟨some 26,(some (23,false)),(.bin .eql (.t 25) (.c (.int .i64 10)))⟩,⟨some 27,(some (19,true)),(.pick (.t 23) (.c (.bool true)) (.t 26))⟩,⟨some 28,none,.pick (.t 19) (.t 27) (.c (.bool false))⟩,⟨some 5,none,.mov (.t 28)⟩]) (.seq (.reg [⟨some 29,none,.mov (.t 5)⟩,⟨some 30,none,.mov (.t 29)⟩,⟨some 31,(some (30,true)),(.fld (.t 2) 3)⟩,⟨some 32,(some (30,true)),(.load none (.t 31))⟩,⟨some 33,(some (30,true)),(.fld (.t 3) 3)⟩,⟨some 34,(some (30,true)),(.load none (.t 33))⟩,⟨some 35,(some (30,true)),(.bin .eql (.t 32) (.t 34))⟩,⟨some 36,none,.pick (.t 30) (.t 35) (.c (.bool false))⟩,⟨some 37,none,.mov (.t 36)⟩,⟨some 38,(some (37,false)),(.fld (.t 2) 0)⟩,⟨some 39,(some (37,false)),(.load none (.t 38))⟩,⟨some 40,(some (37,false)),(.fld (.t 3) 0)⟩,⟨some 41,(some (37,false)),(.load none (.t 40))⟩,⟨some 42,(some (37,false)),(.bin .eql (.t 39) (.t 41))⟩,⟨some 43,(some (37,false)),(.mov (.t 42))⟩,⟨some 44,(some (43,true)),(.fld (.t 2) 0)⟩,⟨some 45,(some (43,true)),(.load none (.t 44))⟩,⟨some 46,(some (43,true)),(.bin .geq (.t 45) (.c (.int .i64 6)))⟩,⟨some 47,(some (37,false)),(.pick (.t 43) (.t 46) (.c (.bool false)))⟩,⟨some 48,(some (37,false)),(.mov (.t 47))⟩,⟨some 49,(some (48,true)),(.fld (.t 2) 0)⟩,⟨some 50,(some (48,true)),(.load none (.t 49))⟩,⟨some 51,(some (48,true)),(.bin .leq (.t 50) (.c (.int .i64 8)))⟩,⟨some 52,(some (37,false)),(.pick (.t 48) (.t 51) (.c (.bool false)))⟩,⟨some 53,none,.pick (.t 37) (.c (.bool true)) (.t 52)⟩,⟨some 4,none,.mov (.t 53)⟩]) .ret))))
set_option maxHeartbeats 1600000 in
theorem pAgainst {P : Program} {G : Nat → Option (List IV)} {f_change_Against : Nat} (hF : compF P G f_change_Against = some (54,[(none,4)],c_change_Against.bare)) (a b : Op) : PureC P G f_change_Against [a.av,b.av] (.bool (againstF a b)) := by
 refine pure_of_go hF (by simp) (by simp [lbss,AV.lbs,Op.av]) (by simp [AV.lbs]) ?_
 unfold c_change_Against
 simp only [↓aX,mX,reduceCtorEq,Nat.reduceEqDiff,Nat.reduceLT,Nat.reduceLeDiff,Nat.reduceAdd,Nat.reduceMul,Int.reduceToNat,Int.reduceLE,Int.reduceLT,Op.av,List.length_cons,List.length_nil]
 clear hF
 cases h0 : (a.target != b.target)
 case false =>
   simp only [↓aX,mX,reduceCtorEq,Nat.reduceEqDiff,Nat.reduceLT,Nat.reduceLeDiff,Nat.reduceAdd,Nat.reduceMul,Int.reduceToNat,Int.reduceLE,Int.reduceLT,h0,ge_iff_le,Bool.not_true,Bool.not_false,List.length_cons,List.length_nil]
   cases h1 : (a.kind == 9)
   case false =>
     simp only [↓aX,mX,reduceCtorEq,Nat.reduceEqDiff,Nat.reduceLT,Nat.reduceLeDiff,Nat.reduceAdd,Nat.reduceMul,Int.reduceToNat,Int.reduceLE,Int.reduceLT,h0,h1,ge_iff_le,Bool.not_true,Bool.not_false,List.length_cons,List.length_nil]
     cases h2 : (a.kind == 10)
     case false =>
       simp only [↓aX,mX,reduceCtorEq,Nat.reduceEqDiff,Nat.reduceLT,Nat.reduceLeDiff,Nat.reduceAdd,Nat.reduceMul,Int.reduceToNat,Int.reduceLE,Int.reduceLT,h0,h1,h2,ge_iff_le,Bool.not_true,Bool.not_false,List.length_cons,List.length_nil]
       cases h6 : (a.kind == b.kind)
       case false =>
         simp only [↓aX,mX,reduceCtorEq,Nat.reduceEqDiff,Nat.reduceLT,Nat.reduceLeDiff,Nat.reduceAdd,Nat.reduceMul,Int.reduceToNat,Int.reduceLE,Int.reduceLT,h0,h1,h2,h6,ge_iff_le,Bool.not_true,Bool.not_false,List.length_cons,List.length_nil]
         first | (simp_all [againstF,attrK]; done) | (simp_all [againstF,attrK]; omega)
       case true =>
         simp only [↓aX,mX,reduceCtorEq,Nat.reduceEqDiff,Nat.reduceLT,Nat.reduceLeDiff,Nat.reduceAdd,Nat.reduceMul,Int.reduceToNat,Int.reduceLE,Int.reduceLT,h0,h1,h2,h6,ge_iff_le,Bool.not_true,Bool.not_false,List.length_cons,List.length_nil]
         cases h7 : decide (6 ≤ a.kind)
         case false =>
           simp only [↓aX,mX,reduceCtorEq,Nat.reduceEqDiff,Nat.reduceLT,Nat.reduceLeDiff,Nat.reduceAdd,Nat.reduceMul,Int.reduceToNat,Int.reduceLE,Int.reduceLT,h0,h1,h2,h6,h7,ge_iff_le,Bool.not_true,Bool.not_false,List.length_cons,List.length_nil]
           first | (simp_all [againstF,attrK]; done) | (simp_all [againstF,attrK]; omega)
         case true =>
           simp only [↓aX,mX,reduceCtorEq,Nat.reduceEqDiff,Nat.reduceLT,Nat.reduceLeDiff,Nat.reduceAdd,Nat.reduceMul,Int.reduceToNat,Int.reduceLE,Int.reduceLT,h0,h1,h2,h6,h7,ge_iff_le,Bool.not_true,Bool.not_false,List.length_cons,List.length_nil]
           first | (simp_all [againstF,attrK]; done) | (simp_all [againstF,attrK]; omega)
     case true =>
       simp only [↓aX,mX,reduceCtorEq,Nat.reduceEqDiff,Nat.reduceLT,Nat.reduceLeDiff,Nat.reduceAdd,Nat.reduceMul,Int.reduceToNat,Int.reduceLE,Int.reduceLT,h0,h1,h2,ge_iff_le,Bool.not_true,Bool.not_false,List.length_cons,List.length_nil]
       cases h3 : (b.kind == 9)
       case false =>
         simp only [↓aX,mX,reduceCtorEq,Nat.reduceEqDiff,Nat.reduceLT,Nat.reduceLeDiff,Nat.reduceAdd,Nat.reduceMul,Int.reduceToNat,Int.reduceLE,Int.reduceLT,h0,h1,h2,h3,ge_iff_le,Bool.not_true,Bool.not_false,List.length_cons,List.length_nil]
         cases h4 : (b.kind == 10)
         case false =>
           simp only [↓aX,mX,reduceCtorEq,Nat.reduceEqDiff,Nat.reduceLT,Nat.reduceLeDiff,Nat.reduceAdd,Nat.reduceMul,Int.reduceToNat,Int.reduceLE,Int.reduceLT,h0,h1,h2,h3,h4,ge_iff_le,Bool.not_true,Bool.not_false,List.length_cons,List.length_nil]
           cases h6 : (a.kind == b.kind)
           case false =>
             simp only [↓aX,mX,reduceCtorEq,Nat.reduceEqDiff,Nat.reduceLT,Nat.reduceLeDiff,Nat.reduceAdd,Nat.reduceMul,Int.reduceToNat,Int.reduceLE,Int.reduceLT,h0,h1,h2,h3,h4,h6,ge_iff_le,Bool.not_true,Bool.not_false,List.length_cons,List.length_nil]
             first | (simp_all [againstF,attrK]; done) | (simp_all [againstF,attrK]; omega)
           case true =>
             simp only [↓aX,mX,reduceCtorEq,Nat.reduceEqDiff,Nat.reduceLT,Nat.reduceLeDiff,Nat.reduceAdd,Nat.reduceMul,Int.reduceToNat,Int.reduceLE,Int.reduceLT,h0,h1,h2,h3,h4,h6,ge_iff_le,Bool.not_true,Bool.not_false,List.length_cons,List.length_nil]
             cases h7 : decide (6 ≤ a.kind)
             case false =>
               simp only [↓aX,mX,reduceCtorEq,Nat.reduceEqDiff,Nat.reduceLT,Nat.reduceLeDiff,Nat.reduceAdd,Nat.reduceMul,Int.reduceToNat,Int.reduceLE,Int.reduceLT,h0,h1,h2,h3,h4,h6,h7,ge_iff_le,Bool.not_true,Bool.not_false,List.length_cons,List.length_nil]
               first | (simp_all [againstF,attrK]; done) | (simp_all [againstF,attrK]; omega)
             case true =>
               simp only [↓aX,mX,reduceCtorEq,Nat.reduceEqDiff,Nat.reduceLT,Nat.reduceLeDiff,Nat.reduceAdd,Nat.reduceMul,Int.reduceToNat,Int.reduceLE,Int.reduceLT,h0,h1,h2,h3,h4,h6,h7,ge_iff_le,Bool.not_true,Bool.not_false,List.length_cons,List.length_nil]
               first | (simp_all [againstF,attrK]; done) | (simp_all [againstF,attrK]; omega)
         case true =>
           simp only [↓aX,mX,reduceCtorEq,Nat.reduceEqDiff,Nat.reduceLT,Nat.reduceLeDiff,Nat.reduceAdd,Nat.reduceMul,Int.reduceToNat,Int.reduceLE,Int.reduceLT,h0,h1,h2,h3,h4,ge_iff_le,Bool.not_true,Bool.not_false,List.length_cons,List.length_nil]
           cases h5 : (a.name == b.name)
           case false =>
             simp only [↓aX,mX,reduceCtorEq,Nat.reduceEqDiff,Nat.reduceLT,Nat.reduceLeDiff,Nat.reduceAdd,Nat.reduceMul,Int.reduceToNat,Int.reduceLE,Int.reduceLT,h0,h1,h2,h3,h4,h5,ge_iff_le,Bool.not_true,Bool.not_false,List.length_cons,List.length_nil]
             cases h6 : (a.kind == b.kind)
             case false =>
               simp only [↓aX,mX,reduceCtorEq,Nat.reduceEqDiff,Nat.reduceLT,Nat.reduceLeDiff,Nat.reduceAdd,Nat.reduceMul,Int.reduceToNat,Int.reduceLE,Int.reduceLT,h0,h1,h2,h3,h4,h5,h6,ge_iff_le,Bool.not_true,Bool.not_false,List.length_cons,List.length_nil]
               first | (simp_all [againstF,attrK]; done) | (simp_all [againstF,attrK]; omega)
             case true =>
               simp only [↓aX,mX,reduceCtorEq,Nat.reduceEqDiff,Nat.reduceLT,Nat.reduceLeDiff,Nat.reduceAdd,Nat.reduceMul,Int.reduceToNat,Int.reduceLE,Int.reduceLT,h0,h1,h2,h3,h4,h5,h6,ge_iff_le,Bool.not_true,Bool.not_false,List.length_cons,List.length_nil]
               cases h7 : decide (6 ≤ a.kind)
               case false =>
                 simp only [↓aX,mX,reduceCtorEq,Nat.reduceEqDiff,Nat.reduceLT,Nat.reduceLeDiff,Nat.reduceAdd,Nat.reduceMul,Int.reduceToNat,Int.reduceLE,Int.reduceLT,h0,h1,h2,h3,h4,h5,h6,h7,ge_iff_le,Bool.not_true,Bool.not_false,List.length_cons,List.length_nil]
                 first | (simp_all [againstF,attrK]; done) | (simp_all [againstF,attrK]; omega)
               case true =>
                 simp only [↓aX,mX,reduceCtorEq,Nat.reduceEqDiff,Nat.reduceLT,Nat.reduceLeDiff,Nat.reduceAdd,Nat.reduceMul,Int.reduceToNat,Int.reduceLE,Int.reduceLT,h0,h1,h2,h3,h4,h5,h6,h7,ge_iff_le,Bool.not_true,Bool.not_false,List.length_cons,List.length_nil]
                 first | (simp_all [againstF,attrK]; done) | (simp_all [againstF,attrK]; omega)
           case true =>
             simp only [↓aX,mX,reduceCtorEq,Nat.reduceEqDiff,Nat.reduceLT,Nat.reduceLeDiff,Nat.reduceAdd,Nat.reduceMul,Int.reduceToNat,Int.reduceLE,Int.reduceLT,h0,h1,h2,h3,h4,h5,ge_iff_le,Bool.not_true,Bool.not_false,List.length_cons,List.length_nil]
             first | (simp_all [againstF,attrK]; done) | (simp_all [againstF,attrK]; omega)
       case true =>
         simp only [↓aX,mX,reduceCtorEq,Nat.reduceEqDiff,Nat.reduceLT,Nat.reduceLeDiff,Nat.reduceAdd,Nat.reduceMul,Int.reduceToNat,Int.reduceLE,Int.reduceLT,h0,h1,h2,h3,ge_iff_le,Bool.not_true,Bool.not_false,List.length_cons,List.length_nil]
         cases h5 : (a.name == b.name)
         case false =>
           simp only [↓aX,mX,reduceCtorEq,Nat.reduceEqDiff,Nat.reduceLT,Nat.reduceLeDiff,Nat.reduceAdd,Nat.reduceMul,Int.reduceToNat,Int.reduceLE,Int.reduceLT,h0,h1,h2,h3,h5,ge_iff_le,Bool.not_true,Bool.not_false,List.length_cons,List.length_nil]
           cases h6 : (a.kind == b.kind)
           case false =>
             simp only [↓aX,mX,reduceCtorEq,Nat.reduceEqDiff,Nat.reduceLT,Nat.reduceLeDiff,Nat.reduceAdd,Nat.reduceMul,Int.reduceToNat,Int.reduceLE,Int.reduceLT,h0,h1,h2,h3,h5,h6,ge_iff_le,Bool.not_true,Bool.not_false,List.length_cons,List.length_nil]
             first | (simp_all [againstF,attrK]; done) | (simp_all [againstF,attrK]; omega)
           case true =>
             simp only [↓aX,mX,reduceCtorEq,Nat.reduceEqDiff,Nat.reduceLT,Nat.reduceLeDiff,Nat.reduceAdd,Nat.reduceMul,Int.reduceToNat,Int.reduceLE,Int.reduceLT,h0,h1,h2,h3,h5,h6,ge_iff_le,Bool.not_true,Bool.not_false,List.length_cons,List.length_nil]
             cases h7 : decide (6 ≤ a.kind)
             case false =>
               simp only [↓aX,mX,reduceCtorEq,Nat.reduceEqDiff,Nat.reduceLT,Nat.reduceLeDiff,Nat.reduceAdd,Nat.reduceMul,Int.reduceToNat,Int.reduceLE,Int.reduceLT,h0,h1,h2,h3,h5,h6,h7,ge_iff_le,Bool.not_true,Bool.not_false,List.length_cons,List.length_nil]
               first | (simp_all [againstF,attrK]; done) | (simp_all [againstF,attrK]; omega)
             case true =>
               simp only [↓aX,mX,reduceCtorEq,Nat.reduceEqDiff,Nat.reduceLT,Nat.reduceLeDiff,Nat.reduceAdd,Nat.reduceMul,Int.reduceToNat,Int.reduceLE,Int.reduceLT,h0,h1,h2,h3,h5,h6,h7,ge_iff_le,Bool.not_true,Bool.not_false,List.length_cons,List.length_nil]
               first | (simp_all [againstF,attrK]; done) | (simp_all [againstF,attrK]; omega)
         case true =>
           simp only [↓aX,mX,reduceCtorEq,Nat.reduceEqDiff,Nat.reduceLT,Nat.reduceLeDiff,Nat.reduceAdd,Nat.reduceMul,Int.reduceToNat,Int.reduceLE,Int.reduceLT,h0,h1,h2,h3,h5,ge_iff_le,Bool.not_true,Bool.not_false,List.length_cons,List.length_nil]
           first | (simp_all [againstF,attrK]; done) | (simp_all [againstF,attrK]; omega)
   case true =>
     simp only [↓aX,mX,reduceCtorEq,Nat.reduceEqDiff,Nat.reduceLT,Nat.reduceLeDiff,Nat.reduceAdd,Nat.reduceMul,Int.reduceToNat,Int.reduceLE,Int.reduceLT,h0,h1,ge_iff_le,Bool.not_true,Bool.not_false,List.length_cons,List.length_nil]
     cases h3 : (b.kind == 9)
     case false =>
       simp only [↓aX,mX,reduceCtorEq,Nat.reduceEqDiff,Nat.reduceLT,Nat.reduceLeDiff,Nat.reduceAdd,Nat.reduceMul,Int.reduceToNat,Int.reduceLE,Int.reduceLT,h0,h1,h3,ge_iff_le,Bool.not_true,Bool.not_false,List.length_cons,List.length_nil]
       cases h4 : (b.kind == 10)
       case false =>
         simp only [↓aX,mX,reduceCtorEq,Nat.reduceEqDiff,Nat.reduceLT,Nat.reduceLeDiff,Nat.reduceAdd,Nat.reduceMul,Int.reduceToNat,Int.reduceLE,Int.reduceLT,h0,h1,h3,h4,ge_iff_le,Bool.not_true,Bool.not_false,List.length_cons,List.length_nil]
         cases h6 : (a.kind == b.kind)
         case false =>
           simp only [↓aX,mX,reduceCtorEq,Nat.reduceEqDiff,Nat.reduceLT,Nat.reduceLeDiff,Nat.reduceAdd,Nat.reduceMul,Int.reduceToNat,Int.reduceLE,Int.reduceLT,h0,h1,h3,h4,h6,ge_iff_le,Bool.not_true,Bool.not_false,List.length_cons,List.length_nil]
           first | (simp_all [againstF,attrK]; done) | (simp_all [againstF,attrK]; omega)
         case true =>
           simp only [↓aX,mX,reduceCtorEq,Nat.reduceEqDiff,Nat.reduceLT,Nat.reduceLeDiff,Nat.reduceAdd,Nat.reduceMul,Int.reduceToNat,Int.reduceLE,Int.reduceLT,h0,h1,h3,h4,h6,ge_iff_le,Bool.not_true,Bool.not_false,List.length_cons,List.length_nil]
           cases h7 : decide (6 ≤ a.kind)
           case false =>
             simp only [↓aX,mX,reduceCtorEq,Nat.reduceEqDiff,Nat.reduceLT,Nat.reduceLeDiff,Nat.reduceAdd,Nat.reduceMul,Int.reduceToNat,Int.reduceLE,Int.reduceLT,h0,h1,h3,h4,h6,h7,ge_iff_le,Bool.not_true,Bool.not_false,List.length_cons,List.length_nil]
             first | (simp_all [againstF,attrK]; done) | (simp_all [againstF,attrK]; omega)
           case true =>
             simp only [↓aX,mX,reduceCtorEq,Nat.reduceEqDiff,Nat.reduceLT,Nat.reduceLeDiff,Nat.reduceAdd,Nat.reduceMul,Int.reduceToNat,Int.reduceLE,Int.reduceLT,h0,h1,h3,h4,h6,h7,ge_iff_le,Bool.not_true,Bool.not_false,List.length_cons,List.length_nil]
             first | (simp_all [againstF,attrK]; done) | (simp_all [againstF,attrK]; omega)
       case true =>
         simp only [↓aX,mX,reduceCtorEq,Nat.reduceEqDiff,Nat.reduceLT,Nat.reduceLeDiff,Nat.reduceAdd,Nat.reduceMul,Int.reduceToNat,Int.reduceLE,Int.reduceLT,h0,h1,h3,h4,ge_iff_le,Bool.not_true,Bool.not_false,List.length_cons,List.length_nil]
         cases h5 : (a.name == b.name)
         case false =>
           simp only [↓aX,mX,reduceCtorEq,Nat.reduceEqDiff,Nat.reduceLT,Nat.reduceLeDiff,Nat.reduceAdd,Nat.reduceMul,Int.reduceToNat,Int.reduceLE,Int.reduceLT,h0,h1,h3,h4,h5,ge_iff_le,Bool.not_true,Bool.not_false,List.length_cons,List.length_nil]
           cases h6 : (a.kind == b.kind)
           case false =>
             simp only [↓aX,mX,reduceCtorEq,Nat.reduceEqDiff,Nat.reduceLT,Nat.reduceLeDiff,Nat.reduceAdd,Nat.reduceMul,Int.reduceToNat,Int.reduceLE,Int.reduceLT,h0,h1,h3,h4,h5,h6,ge_iff_le,Bool.not_true,Bool.not_false,List.length_cons,List.length_nil]
             first | (simp_all [againstF,attrK]; done) | (simp_all [againstF,attrK]; omega)
           case true =>
             simp only [↓aX,mX,reduceCtorEq,Nat.reduceEqDiff,Nat.reduceLT,Nat.reduceLeDiff,Nat.reduceAdd,Nat.reduceMul,Int.reduceToNat,Int.reduceLE,Int.reduceLT,h0,h1,h3,h4,h5,h6,ge_iff_le,Bool.not_true,Bool.not_false,List.length_cons,List.length_nil]
             cases h7 : decide (6 ≤ a.kind)
             case false =>
               simp only [↓aX,mX,reduceCtorEq,Nat.reduceEqDiff,Nat.reduceLT,Nat.reduceLeDiff,Nat.reduceAdd,Nat.reduceMul,Int.reduceToNat,Int.reduceLE,Int.reduceLT,h0,h1,h3,h4,h5,h6,h7,ge_iff_le,Bool.not_true,Bool.not_false,List.length_cons,List.length_nil]
               first | (simp_all [againstF,attrK]; done) | (simp_all [againstF,attrK]; omega)
             case true =>
               simp only [↓aX,mX,reduceCtorEq,Nat.reduceEqDiff,Nat.reduceLT,Nat.reduceLeDiff,Nat.reduceAdd,Nat.reduceMul,Int.reduceToNat,Int.reduceLE,Int.reduceLT,h0,h1,h3,h4,h5,h6,h7,ge_iff_le,Bool.not_true,Bool.not_false,List.length_cons,List.length_nil]
               first | (simp_all [againstF,attrK]; done) | (simp_all [againstF,attrK]; omega)
         case true =>
           simp only [↓aX,mX,reduceCtorEq,Nat.reduceEqDiff,Nat.reduceLT,Nat.reduceLeDiff,Nat.reduceAdd,Nat.reduceMul,Int.reduceToNat,Int.reduceLE,Int.reduceLT,h0,h1,h3,h4,h5,ge_iff_le,Bool.not_true,Bool.not_false,List.length_cons,List.length_nil]
           first | (simp_all [againstF,attrK]; done) | (simp_all [againstF,attrK]; omega)
     case true =>
       simp only [↓aX,mX,reduceCtorEq,Nat.reduceEqDiff,Nat.reduceLT,Nat.reduceLeDiff,Nat.reduceAdd,Nat.reduceMul,Int.reduceToNat,Int.reduceLE,Int.reduceLT,h0,h1,h3,ge_iff_le,Bool.not_true,Bool.not_false,List.length_cons,List.length_nil]
       cases h5 : (a.name == b.name)
       case false =>
         simp only [↓aX,mX,reduceCtorEq,Nat.reduceEqDiff,Nat.reduceLT,Nat.reduceLeDiff,Nat.reduceAdd,Nat.reduceMul,Int.reduceToNat,Int.reduceLE,Int.reduceLT,h0,h1,h3,h5,ge_iff_le,Bool.not_true,Bool.not_false,List.length_cons,List.length_nil]
         cases h6 : (a.kind == b.kind)
         case false =>
           simp only [↓aX,mX,reduceCtorEq,Nat.reduceEqDiff,Nat.reduceLT,Nat.reduceLeDiff,Nat.reduceAdd,Nat.reduceMul,Int.reduceToNat,Int.reduceLE,Int.reduceLT,h0,h1,h3,h5,h6,ge_iff_le,Bool.not_true,Bool.not_false,List.length_cons,List.length_nil]
           first | (simp_all [againstF,attrK]; done) | (simp_all [againstF,attrK]; omega)
         case true =>
           simp only [↓aX,mX,reduceCtorEq,Nat.reduceEqDiff,Nat.reduceLT,Nat.reduceLeDiff,Nat.reduceAdd,Nat.reduceMul,Int.reduceToNat,Int.reduceLE,Int.reduceLT,h0,h1,h3,h5,h6,ge_iff_le,Bool.not_true,Bool.not_false,List.length_cons,List.length_nil]
           cases h7 : decide (6 ≤ a.kind)
           case false =>
             simp only [↓aX,mX,reduceCtorEq,Nat.reduceEqDiff,Nat.reduceLT,Nat.reduceLeDiff,Nat.reduceAdd,Nat.reduceMul,Int.reduceToNat,Int.reduceLE,Int.reduceLT,h0,h1,h3,h5,h6,h7,ge_iff_le,Bool.not_true,Bool.not_false,List.length_cons,List.length_nil]
             first | (simp_all [againstF,attrK]; done) | (simp_all [againstF,attrK]; omega)
           case true =>
             simp only [↓aX,mX,reduceCtorEq,Nat.reduceEqDiff,Nat.reduceLT,Nat.reduceLeDiff,Nat.reduceAdd,Nat.reduceMul,Int.reduceToNat,Int.reduceLE,Int.reduceLT,h0,h1,h3,h5,h6,h7,ge_iff_le,Bool.not_true,Bool.not_false,List.length_cons,List.length_nil]
             first | (simp_all [againstF,attrK]; done) | (simp_all [againstF,attrK]; omega)
       case true =>
         simp only [↓aX,mX,reduceCtorEq,Nat.reduceEqDiff,Nat.reduceLT,Nat.reduceLeDiff,Nat.reduceAdd,Nat.reduceMul,Int.reduceToNat,Int.reduceLE,Int.reduceLT,h0,h1,h3,h5,ge_iff_le,Bool.not_true,Bool.not_false,List.length_cons,List.length_nil]
         first | (simp_all [againstF,attrK]; done) | (simp_all [againstF,attrK]; omega)
 case true =>
   simp only [↓aX,mX,reduceCtorEq,Nat.reduceEqDiff,Nat.reduceLT,Nat.reduceLeDiff,Nat.reduceAdd,Nat.reduceMul,Int.reduceToNat,Int.reduceLE,Int.reduceLT,h0,ge_iff_le,Bool.not_true,Bool.not_false,List.length_cons,List.length_nil]
   first | (simp_all [againstF,attrK]; done) | (simp_all [againstF,attrK]; omega)
end Go.Am

/- The bench: attributes set and dropped. -/
set_option pp.deepTerms false
set_option pp.deepTerms.threshold 5
namespace Go.Am
open Go Go.RowKit
def attrB (as : List Attr) (o : Op) : List Attr :=
 if o.kind = 10 then (if hasA as o.name then as.take (posA as o.name) ++ as.drop (posA as o.name + 1) else as)
 else if hasA as o.name then as.set (posA as o.name) ⟨o.name,o.s⟩ else as.take (posA as o.name) ++ [⟨o.name,o.s⟩] ++ as.drop (posA as o.name)
def Bn.attr (b : Bn) (n : Nat) (o : Op) : Bn := match b.nodes[n]? with
 | some x => b.set n { x with attrs := attrB x.attrs o }
 | none => b
theorem posA_le (as : List Attr) (key : Bs) : posA as key ≤ as.length := by unfold posA; exact (List.takeWhile_sublist _).length_le
theorem hasA_get {as : List Attr} {key : Bs} (h : hasA as key = true) : ∃ a,as[posA as key]? = some a ∧ a.name = key := by
 unfold hasA at h
 split at h
 · rename_i a ha; exact ⟨a,ha,by simpa using h⟩
 · cases h
theorem set_same {α : Type} {l : List α} {n : Nat} {v : α} (h : l[n]? = some v) : l.set n v = l := by
 obtain ⟨h1,rfl⟩ := List.getElem?_eq_some_iff.1 h
 exact List.set_getElem_self h1
theorem immA_get {as : List Attr} {i : Nat} {a : Attr} (h : as[i]? = some a) : (immE (ivA as))[i]? = some [.str a.name,.str a.val] := by
 simp [immE,ivA,h,Attr.iv,Attr.cs,IV.cells,IV.av1]
theorem immA_set (as : List Attr) (i : Nat) (a : Attr) : (immE (ivA as)).set i [.str a.name,.str a.val] = immE (ivA (as.set i a)) := by
 simp [immE,ivA,List.map_set,Attr.iv,Attr.cs,IV.cells,IV.av1]
def InsA (P : Program) (G : Nat → Option (List IV)) (f : Nat) : Prop := ∀ (xs vs : List Attr) (i : Nat),i ≤ xs.length → xs.length + vs.length ≤ B →
 GrwC P G 2 f [.sl (.par 0) 2 0 xs.length,.int .i64 i,.list (ivA vs)] (ivA xs) (ivA (xs.take i ++ vs ++ xs.drop i))
def DelA (P : Program) (G : Nat → Option (List IV)) (f : Nat) : Prop := ∀ (xs : List Attr) (i : Nat),i < xs.length → xs.length ≤ B →
 GrwC P G 2 f [.sl (.par 0) 2 0 xs.length,.int .i64 i,.int .i64 ((i + 1 : Nat) : Int)] (ivA xs) (ivA (xs.take i ++ xs.drop (i + 1)))
section
variable {P : Program} {G : Nat → Option (List IV)}
def c_change_bench_attr (f_slices_BinarySearchFunc_Attr_Attr_string f_change_bench_attr_1 f_slices_Delete_Attr_Attr f_slices_Insert_Attr_Attr : Nat) : AC :=
(.seq (.reg [⟨some 3,none,.box (.t 1)⟩]) (.seq (.dreg [⟨some 7,none,.mov (.t 0)⟩,⟨some 8,none,.nchk (.t 7)⟩,⟨some 9,none,.fld (.t 8) 0⟩,⟨some 10,none,.load none (.t 9)⟩,⟨some 11,none,.fld (.t 3) 1⟩,⟨some 12,none,.load none (.t 11)⟩,⟨some 13,none,.ixa (.t 10) (.t 12) 5⟩,⟨some 4,none,.mov (.t 13)⟩] [[],[0],[1],[2],[],[4],[3,5],[6,0,1,2,3,4,5,6]] [.no,.no,.no,(.rw [(.par 0)] []),.no,.rw [.loc 3] [],.no,.no]) (.seq (.dreg [⟨some 15,none,.mov (.t 4)⟩,⟨some 16,none,.nchk (.t 15)⟩,⟨some 17,none,.fld (.t 16) 2⟩,⟨some 18,none,.load none (.t 17)⟩,⟨some 19,none,.fld (.t 3) 3⟩,⟨some 20,none,.load none (.t 19)⟩,⟨some 21,none,.call f_slices_BinarySearchFunc_Attr_Attr_string [(.t 18),(.t 20),(.c (.fn f_change_bench_attr_1 [] []))]⟩,⟨some 14,none,.mov (.t 21)⟩,⟨some 22,none,.ext (.t 14) 0⟩,⟨some 23,none,.ext (.t 14) 1⟩,⟨some 5,none,.mov (.t 22)⟩,⟨some 6,none,.mov (.t 23)⟩] [[],[0],[1],[2],[],[4],[3,5],[6],[7],[7],[8,6,0,1,2,3,4,5,6,7,8],[9,10,0,1,2,3,4,5,6,7,8,9,10]] [.no,.no,.no,(.rw [(.par 1)] []),.no,.rw [.loc 3] [],(.far []),.no,.no,.no,.no,.no]) (.block 0 (.seq (.reg [⟨some 25,none,.fld (.t 3) 0⟩,⟨some 26,none,.load none (.t 25)⟩,⟨some 27,none,.bin .eql (.t 26) (.c (.int .i64 10))⟩,⟨some 28,none,.mov (.t 27)⟩,⟨some 29,(some (28,true)),(.mov (.t 6))⟩,⟨some 30,none,.pick (.t 28) (.t 29) (.c (.bool false))⟩,⟨some 24,none,.mov (.t 30)⟩]) (.cond (.t 24) (.reg [⟨some 31,none,.mov (.t 4)⟩,⟨some 32,none,.mov (.t 4)⟩,⟨some 33,none,.nchk (.t 32)⟩,⟨some 34,none,.fld (.t 33) 2⟩,⟨some 35,none,.load none (.t 34)⟩,⟨some 36,none,.mov (.t 5)⟩,⟨some 37,none,.mov (.t 5)⟩,⟨some 38,none,.bin .add (.t 37) (.c (.int .i64 1))⟩,⟨some 39,none,.call f_slices_Delete_Attr_Attr [(.t 35),(.t 36),(.t 38)]⟩,⟨some 40,none,.nchk (.t 31)⟩,⟨some 41,none,.fld (.t 40) 2⟩,⟨none,none,.store 1 (.t 41) (.t 39)⟩]) (.seq (.reg [⟨some 43,none,.fld (.t 3) 0⟩,⟨some 44,none,.load none (.t 43)⟩,⟨some 45,none,.bin .eql (.t 44) (.c (.int .i64 9))⟩,⟨some 46,none,.mov (.t 45)⟩,⟨some 47,(some (46,true)),(.mov (.t 6))⟩,⟨some 48,none,.pick (.t 46) (.t 47) (.c (.bool false))⟩,⟨some 42,none,.mov (.t 48)⟩]) (.cond (.t 42) (.dreg [⟨some 49,none,.mov (.t 4)⟩,⟨some 50,none,.nchk (.t 49)⟩,⟨some 51,none,.fld (.t 50) 2⟩,⟨some 52,none,.load none (.t 51)⟩,⟨some 53,none,.mov (.t 5)⟩,⟨some 54,none,.fld (.t 3) 4⟩,⟨some 55,none,.load none (.t 54)⟩,⟨some 56,none,.ixa (.t 52) (.t 53) 2⟩,⟨some 57,none,.fld (.t 56) 1⟩,⟨none,none,.store 1 (.t 57) (.t 55)⟩] [[],[0],[1],[2],[],[],[5],[3,4,0,1,2,3,4,5,6],[7,0,1,2,3,4,5,6],[8,6,0,1,2,3,4,5,6]] [.no,.no,.no,(.rw [(.par 1)] []),.no,.no,.rw [.loc 3] [],.no,.no,.all]) (.seq (.reg [⟨some 59,none,.fld (.t 3) 0⟩,⟨some 60,none,.load none (.t 59)⟩,⟨some 61,none,.bin .eql (.t 60) (.c (.int .i64 9))⟩,⟨some 58,none,.mov (.t 61)⟩]) (.cond (.t 58) (.dreg [⟨some 62,none,.mov (.t 4)⟩,⟨some 63,none,.mov (.t 4)⟩,⟨some 64,none,.nchk (.t 63)⟩,⟨some 65,none,.fld (.t 64) 2⟩,⟨some 66,none,.load none (.t 65)⟩,⟨some 67,none,.mov (.t 5)⟩,⟨some 68,none,.fld (.t 3) 3⟩,⟨some 69,none,.load none (.t 68)⟩,⟨some 70,none,.fld (.t 3) 4⟩,⟨some 71,none,.load none (.t 70)⟩,⟨some 72,none,.bld [(.str []),(.str [])] [(0,(1,(.t 69))),(1,(1,(.t 71)))]⟩,⟨some 73,none,.lits 1 2 [(.str []),(.str [])] [(0,(.t 72))]⟩,⟨some 74,none,.call f_slices_Insert_Attr_Attr [(.t 66),(.t 67),(.t 73)]⟩,⟨some 75,none,.nchk (.t 62)⟩,⟨some 76,none,.fld (.t 75) 2⟩,⟨none,none,.store 1 (.t 76) (.t 74)⟩] [[],[],[1],[2],[3],[],[],[6],[],[8],[7,9],[10],[4,5,11],[0,0,1,2,3,4,5,6,7,8,9,10,11,12],[13,0,1,2,3,4,5,6,7,8,9,10,11,12],[14,12,12,0,1,2,3,4,5,6,7,8,9,10,11,12]] [.no,.no,.no,.no,(.rw [(.par 1)] []),.no,.no,.rw [.loc 3] [],.no,.rw [.loc 3] [],.no,.no,(.far []),.no,.no,(.rw [] [(.par 1)])]) .skip))))))))))
set_option maxRecDepth 20000 in
theorem cAttr {f_change_bench_attr f_slices_BinarySearchFunc_Attr_Attr_string f_change_bench_attr_1 f_slices_Delete_Attr_Attr f_slices_Insert_Attr_Attr : Nat} (hF : compF P G f_change_bench_attr = some (77,[],(c_change_bench_attr f_slices_BinarySearchFunc_Attr_Attr_string f_change_bench_attr_1 f_slices_Delete_Attr_Attr f_slices_Insert_Attr_Attr).bare)) (b : Bn) (n : Nat) (hp : n < b.n0) (x : Node) (hx : b.nodes[n]? = some x)
   (o : Op) (ht : o.target = n) (hk : o.kind = 9 ∨ o.kind = 10) (hb : x.attrs.length + 1 ≤ B) (hS : PureC P G f_slices_BinarySearchFunc_Attr_Attr_string [.list (ivA x.attrs),.str o.name,.fn f_change_bench_attr_1 [] []] (.tup [.int .i64 (posA x.attrs o.name),.bool (hasA x.attrs o.name)]))
   (hI : InsA P G f_slices_Insert_Attr_Attr) (hD : DelA P G f_slices_Delete_Attr_Attr) :
   ShC P G f_change_bench_attr [.ptr (.par 0) 3 0 0,o.av] (bSh b) (b.but (4 + 2 * n)) fun X R2 => X = (fun _ => .tup []) ∧ R2 = bSh (b.attr n o) := by
 refine sh_of_go hF (by simp) (by simp [lbss,AV.lbs,bSh_ok,Op.av]; omega) ?_
 have hA0 : BnAt Lb.par b (inS (bSh b)) := inS_at _
 have hU : ∀ q : Lb,(∀ p,p < 4 + 2 * b.n0 → q ≠ .par p) → inS (bSh b) q = .unused := fun q hq => shH_ne _ fun p hp e => hq p (bSh_ok.1 hp) e.symm
 have h3 : inS (bSh b) (.loc 3) = .unused := hU _ (by simp)
 have h39 : inS (bSh b) (.gen 39) = .unused := hU _ (by simp)
 have h74 : inS (bSh b) (.gen 74) = .unused := hU _ (by simp)
 have hlen : n < b.nodes.length := (List.getElem?_eq_some_iff.1 hx).1
 have hBv : B = 1073741824 := rfl
 have hbn := bNode_lt (n0 := b.n0) (lab := Lb.par) (x := x) hp
 have hget := hA0.get hx
 rw [hbn] at hget
 have hrow := hA0.at' hp hx
 unfold c_change_bench_attr
 simp only [↓aX,mX,reduceCtorEq,Nat.reduceEqDiff,Nat.reduceLT,Nat.reduceLeDiff,Nat.reduceAdd,Nat.reduceMul,Int.reduceToNat,Int.reduceLE,Int.reduceLT,Op.av,ht,h3,hA0.s,hA0.n,hlen,List.length_mapIdx,Int.natCast_nonneg,Int.toNat_natCast,and_self,true_and,Nat.zero_add,hget]
 refine ⟨rfl,rfl,?_⟩
 refine far_lend hS (.cons (lent_all (by rw [upd_ne _ _ (by simp)]; exact hrow) (flatA _) (by simp [ivA_len])) (.cons (.same _) (.cons (.same _) .nil))) rfl ?_
 have hpl := posA_le x.attrs o.name
 have hw : IntKind.i64.wrap ((posA x.attrs o.name : Int) + 1) = ((posA x.attrs o.name + 1 : Nat) : Int) := wrap64 (by omega) (by omega)
 have hw0 : IntKind.i64.wrap ((posA x.attrs o.name : Int) + 1) = ((posA x.attrs o.name + 1 : Nat) : Int) := hw
 simp only [↓aX,mX,reduceCtorEq,Nat.reduceEqDiff,Nat.reduceLT,Nat.reduceLeDiff,Nat.reduceAdd,Nat.reduceMul,Int.reduceToNat,Int.reduceLE,Int.reduceLT,Op.av,ht,h3,hA0.s,hA0.n,hlen,List.length_mapIdx,Int.natCast_nonneg,Int.toNat_natCast,and_self,true_and,Nat.zero_add,hget]
 have hatt : b.attr n o = b.set n { x with attrs := attrB x.attrs o } := by unfold Bn.attr; rw [hx]
 have hb3 : BnAt Lb.par b (upd (inS (bSh b)) (.loc 3) (.live ⟨5,[[.int .i64 o.kind,.int .i64 n,.list (ivT o.content),.str o.name,.str o.s]]⟩)) := hA0.upd' (by simp)
 have key : ∀ (N : Lb) (ys : List Attr),attrB x.attrs o = ys → (N = .par (4 + 2 * n) ∨ N = .gen 39 ∨ N = .gen 74) → ∀ H2 : Hp,H2 (.par 1) = .live ⟨5,(b.nodes.mapIdx (bNode b.n0 Lb.par)).set n [.bool x.text,.str x.s,.sl N 2 0 ys.length,.int .i64 x.parent,.sl (.par (5 + 2 * n)) 1 0 x.kids.length]⟩ →
     H2 N = .live ⟨2,immE (ivA ys)⟩ → (∀ q,q ≠ .par 1 → q ≠ N → q ≠ .par (4 + 2 * n) → q ≠ .loc 3 → H2 q = inS (bSh b) q) →
     ∃ t : ((Nat → Lb) → AV) × Shp × (Nat → Lb),(t.1 = (fun _ => .tup []) ∧ t.2.1 = bSh (b.attr n o)) ∧ (∀ ρ,ren ρ (t.1 t.2.2) = t.1 fun i => ρ (t.2.2 i)) ∧ (∀ l ∈ (AV.tup []).lbs,∃ p,t.2.1.ok p ∧ l = t.2.2 p) ∧ AV.tup [] = t.1 t.2.2 ∧ ShAt t.2.2 t.2.1 H2 ∧ ∀ p' ∈ b.but (4 + 2 * n),t.2.2 p' = .par p' := by
   intro N ys hys hN H2 e1 e2 e3
   refine ⟨⟨fun _ => .tup [],bSh (b.attr n o),fun p' => if p' = 4 + 2 * n then N else .par p'⟩,⟨rfl,rfl⟩,fun ρ => by simp [ren,rens],by simp [AV.lbs,lbss],rfl,?_,?_⟩
   · rw [hatt,hys]
     have hN3 : ∀ p',(if p' = 4 + 2 * n then N else Lb.par p') ≠ .loc 3 := by
       intro p'; split
       · rcases hN with rfl | rfl | rfl <;> simp
       · simp
     have := BnAt.setA (H2 := fun q => if q = .loc 3 then inS (bSh b) q else H2 q) hA0 (N := N) (ys := ys) hp hx (by
       rcases hN with rfl | rfl | rfl
       · exact .inl rfl
       · exact .inr (by simp)
       · exact .inr (by simp)) (by simp [e1]) (by rw [if_neg (by rcases hN with rfl | rfl | rfl <;> simp)]; exact e2) (by
       intro q g1 g2 g3
       by_cases g4 : q = .loc 3
       · simp [g4]
       · simp only [g4,if_false]; exact e3 q g1 g2 g3 g4)
     refine ⟨fun q r hr => ?_,this.inj⟩
     have h1 := this.row q r hr
     exact (if_neg (hN3 q)).symm.trans h1
   · intro p' hp'
     exact if_neg (but_mem.1 hp').2
 have h14 : ¬ (1 : Nat) = 4 + 2 * n := by omega
 have hk10 : ∀ P Q : List Attr,(if (9 : Int) = 10 then P else Q) = Q := fun _ _ => if_neg (by decide)
 rcases hk with hk | hk
 · simp only [↓aX,mX,reduceCtorEq,Nat.reduceEqDiff,Nat.reduceLT,Nat.reduceLeDiff,Nat.reduceAdd,Nat.reduceMul,Int.reduceToNat,Int.reduceLE,Int.reduceLT,hk,Int.reduceBEq,ht,h3,hA0.s,hA0.n,hlen,List.length_mapIdx,Int.natCast_nonneg,Int.toNat_natCast,and_self,true_and,Nat.zero_add,hget]
   refine cK_b (fun h => ?_) (fun h => ?_)
   · obtain ⟨a,ha,hn⟩ := hasA_get h
     have hal : posA x.attrs o.name < x.attrs.length := (List.getElem?_eq_some_iff.1 ha).1
     simp only [↓aX,mX,reduceCtorEq,Nat.reduceEqDiff,Nat.reduceLT,Nat.reduceLeDiff,Nat.reduceAdd,Nat.reduceMul,Int.reduceToNat,Int.reduceLE,Int.reduceLT,hk,h,Int.reduceBEq,ht,h3,hA0.s,hA0.n,hlen,List.length_mapIdx,Int.natCast_nonneg,Int.toNat_natCast,and_self,true_and,Nat.zero_add,hget]
     refine ⟨rfl,?_⟩
     have himm := immA_get ha
     simp only [↓aX,mX,reduceCtorEq,Nat.reduceEqDiff,Nat.reduceLT,Nat.reduceLeDiff,Nat.reduceAdd,Nat.reduceMul,Int.reduceToNat,Int.reduceLE,Int.reduceLT,hal,h3,hrow,himm]
     rw [ret_n]
     refine ⟨[],rfl,key (.par (4 + 2 * n)) (x.attrs.set (posA x.attrs o.name) ⟨o.name,o.s⟩) ?_ (.inl rfl) _ ?_ ?_ ?_⟩
     · simp only [attrB,hk,hk10,h,if_true]
     · rw [List.length_set,set_same hget]; simp [upd_at,hA0.n,h14]
     · rw [upd_at,if_pos rfl,← immA_set,hn]
     · intro q g1 g2 g3 g4; simp [upd_at,g3,g4]
   · simp only [↓aX,mX,reduceCtorEq,Nat.reduceEqDiff,Nat.reduceLT,Nat.reduceLeDiff,Nat.reduceAdd,Nat.reduceMul,Int.reduceToNat,Int.reduceLE,Int.reduceLT,hk,h,Int.reduceBEq,ht,h3,hA0.s,hA0.n,hlen,List.length_mapIdx,Int.natCast_nonneg,Int.toNat_natCast,and_self,true_and,Nat.zero_add,hget]
     refine ⟨rfl,?_⟩
     refine far_grw (l := .par (4 + 2 * n)) (N := .gen 74) (hI x.attrs [⟨o.name,o.s⟩] (posA x.attrs o.name) hpl (by simp; omega)) rfl (by rw [upd_ne _ _ (by simp)]; exact hrow) (by rw [upd_ne _ _ (by simp)]; exact h74) (by simp [Lb.fresh]) (by simp) (by simp) ?_ ?_
     · simp only [↓aX,mX,reduceCtorEq,Nat.reduceEqDiff,Nat.reduceLT,Nat.reduceLeDiff,Nat.reduceAdd,Nat.reduceMul,Int.reduceToNat,Int.reduceLE,Int.reduceLT,hk,h,Int.reduceBEq,ht,h3,hA0.s,hA0.n,hlen,List.length_mapIdx,Int.natCast_nonneg,Int.toNat_natCast,and_self,true_and,Nat.zero_add,hget,ivA_len,h14]
       rw [ret_n]
       refine ⟨[],rfl,key (.gen 74) (x.attrs.take (posA x.attrs o.name) ++ [⟨o.name,o.s⟩] ++ x.attrs.drop (posA x.attrs o.name)) ?_ (.inr (.inr rfl)) _ ?_ ?_ ?_⟩
       · simp [attrB,hk,h]
       · simp [upd_at]
       · simp [upd_at]
       · intro q g1 g2 g3 g4; simp [upd_at,g1,g2,g3,g4]
     · simp only [↓aX,mX,reduceCtorEq,Nat.reduceEqDiff,Nat.reduceLT,Nat.reduceLeDiff,Nat.reduceAdd,Nat.reduceMul,Int.reduceToNat,Int.reduceLE,Int.reduceLT,hk,h,Int.reduceBEq,ht,h3,hA0.s,hA0.n,hlen,List.length_mapIdx,Int.natCast_nonneg,Int.toNat_natCast,and_self,true_and,Nat.zero_add,hget,ivA_len,h14]
       rw [ret_n]
       refine ⟨[],rfl,key (.par (4 + 2 * n)) (x.attrs.take (posA x.attrs o.name) ++ [⟨o.name,o.s⟩] ++ x.attrs.drop (posA x.attrs o.name)) ?_ (.inl rfl) _ ?_ ?_ ?_⟩
       · simp [attrB,hk,h]
       · simp [upd_at]
       · simp [upd_at]; omega
       · intro q g1 g2 g3 g4; simp [upd_at,g1,g3,g4]
 · simp only [↓aX,mX,reduceCtorEq,Nat.reduceEqDiff,Nat.reduceLT,Nat.reduceLeDiff,Nat.reduceAdd,Nat.reduceMul,Int.reduceToNat,Int.reduceLE,Int.reduceLT,hk,Int.reduceBEq,ht,h3,hA0.s,hA0.n,hlen,List.length_mapIdx,Int.natCast_nonneg,Int.toNat_natCast,and_self,true_and,Nat.zero_add,hget]
   refine cK_b (fun h => ?_) (fun h => ?_)
   · obtain ⟨a,ha,hn⟩ := hasA_get h
     have hal : posA x.attrs o.name < x.attrs.length := (List.getElem?_eq_some_iff.1 ha).1
     simp only [↓aX,mX,reduceCtorEq,Nat.reduceEqDiff,Nat.reduceLT,Nat.reduceLeDiff,Nat.reduceAdd,Nat.reduceMul,Int.reduceToNat,Int.reduceLE,Int.reduceLT,hw,h,Int.reduceBEq,ht,h3,hA0.s,hA0.n,hlen,List.length_mapIdx,Int.natCast_nonneg,Int.toNat_natCast,and_self,true_and,Nat.zero_add,hget]
     refine callT_grw (l := .par (4 + 2 * n)) (N := .gen 39) (hD x.attrs (posA x.attrs o.name) hal (by omega)) rfl (by rw [upd_ne _ _ (by simp)]; exact hrow) (by rw [upd_ne _ _ (by simp)]; exact h39) (by simp [Lb.fresh]) ?_ ?_
     · simp only [↓aX,mX,reduceCtorEq,Nat.reduceEqDiff,Nat.reduceLT,Nat.reduceLeDiff,Nat.reduceAdd,Nat.reduceMul,Int.reduceToNat,Int.reduceLE,Int.reduceLT,hk,h,Int.reduceBEq,ht,h3,hA0.s,hA0.n,hlen,List.length_mapIdx,Int.natCast_nonneg,Int.toNat_natCast,and_self,true_and,Nat.zero_add,hget,ivA_len,h14]
       rw [ret_n]
       refine ⟨[],rfl,key (.gen 39) (x.attrs.take (posA x.attrs o.name) ++ x.attrs.drop (posA x.attrs o.name + 1)) ?_ (.inr (.inl rfl)) _ ?_ ?_ ?_⟩
       · simp [attrB,hk,h]
       · simp [upd_at]
       · simp [upd_at]
       · intro q g1 g2 g3 g4; simp [upd_at,g1,g2,g3,g4]
     · simp only [↓aX,mX,reduceCtorEq,Nat.reduceEqDiff,Nat.reduceLT,Nat.reduceLeDiff,Nat.reduceAdd,Nat.reduceMul,Int.reduceToNat,Int.reduceLE,Int.reduceLT,hk,h,Int.reduceBEq,ht,h3,hA0.s,hA0.n,hlen,List.length_mapIdx,Int.natCast_nonneg,Int.toNat_natCast,and_self,true_and,Nat.zero_add,hget,ivA_len,h14]
       rw [ret_n]
       refine ⟨[],rfl,key (.par (4 + 2 * n)) (x.attrs.take (posA x.attrs o.name) ++ x.attrs.drop (posA x.attrs o.name + 1)) ?_ (.inl rfl) _ ?_ ?_ ?_⟩
       · simp [attrB,hk,h]
       · simp [upd_at]
       · simp [upd_at]; omega
       · intro q g1 g2 g3 g4; simp [upd_at,g1,g3,g4]
   · simp only [↓aX,mX,reduceCtorEq,Nat.reduceEqDiff,Nat.reduceLT,Nat.reduceLeDiff,Nat.reduceAdd,Nat.reduceMul,Int.reduceToNat,Int.reduceLE,Int.reduceLT,hk,h,Int.reduceBEq,ht,h3,hA0.s,hA0.n,hlen,List.length_mapIdx,Int.natCast_nonneg,Int.toNat_natCast,and_self,true_and,Nat.zero_add,hget]
     rw [ret_n]
     refine ⟨[],rfl,key (.par (4 + 2 * n)) x.attrs ?_ (.inl rfl) _ ?_ ?_ ?_⟩
     · simp [attrB,hk,h]
     · rw [set_same hget]; simp [upd_at,hA0.n,h14]
     · simp [upd_at,hrow]
     · intro q g1 g2 g3 g4; simp [upd_at,g4]
end
end Go.Am

/- Attributes set and dropped, by their names. -/
namespace Go.Am
open Go Go.RowKit
def putA (as : List Attr) (k v : Bs) : List Attr := as.filter (fun a => Op.bytesLess a.name k) ++ ⟨k,v⟩ :: as.filter (fun a => Op.bytesLess k a.name)
def dropA (as : List Attr) (k : Bs) : List Attr := as.filter (fun a => Op.bytesLess a.name k) ++ as.filter (fun a => Op.bytesLess k a.name)
theorem risA_pw : ∀ {as : List Attr},risA as = true ↔ as.Pairwise fun a b => Op.bytesLess a.name b.name = true
 | [] => by simp [risA]
 | a :: r => by
   rw [List.pairwise_cons]
   constructor
   · intro h; exact ⟨risA_lt h,risA_pw.1 (risA_tail h)⟩
   · rintro ⟨h1,h2⟩
     cases r with
     | nil => rfl
     | cons b r => simp only [risA,Bool.and_eq_true]; exact ⟨h1 b (by simp),risA_pw.2 h2⟩
theorem pos_split {key : Bs} : ∀ {as : List Attr},risA as = true → as.take (posA as key) = as.filter (fun a => Op.bytesLess a.name key) ∧
   (hasA as key = true → as.drop (posA as key + 1) = as.filter (fun a => Op.bytesLess key a.name)) ∧ (hasA as key = false → as.drop (posA as key) = as.filter (fun a => Op.bytesLess key a.name))
 | [],_ => by simp [posA,hasA]
 | a :: r,h => by
   have ht := risA_tail h
   have hlt := risA_lt h
   obtain ⟨i1,i2,i3⟩ := pos_split (key := key) ht
   cases h1 : Op.bytesLess a.name key with
   | true =>
     have hp : posA (a :: r) key = posA r key + 1 := by simp [posA,List.takeWhile_cons,h1]
     have hh : hasA (a :: r) key = hasA r key := by unfold hasA; rw [hp]; simp
     rw [hp,hh]
     refine ⟨by rw [List.take_succ_cons,i1]; simp [List.filter_cons,h1],fun hq => ?_,fun hq => ?_⟩
     · rw [List.drop_succ_cons,i2 hq,List.filter_cons_of_neg (by rw [bl_asym h1]; simp)]
     · rw [List.drop_succ_cons,i3 hq,List.filter_cons_of_neg (by rw [bl_asym h1]; simp)]
   | false =>
     have hp : posA (a :: r) key = 0 := by simp [posA,List.takeWhile_cons,h1]
     have hge : ∀ b ∈ r,Op.bytesLess b.name key = false := fun b hb => by
       cases hq : Op.bytesLess b.name key with
       | false => rfl
       | true => rw [bl_tr (hlt b hb) hq] at h1; cases h1
     have hgt : ∀ b ∈ r,Op.bytesLess key b.name = true := fun b hb => by
       rcases bl_tri key a.name with h2 | h2 | h2
       · exact bl_tr h2 (hlt b hb)
       · rw [h2]; exact hlt b hb
       · rw [h2] at h1; cases h1
     have hf1 : (a :: r).filter (fun a => Op.bytesLess a.name key) = [] := by
       rw [List.filter_eq_nil_iff]
       intro b hb
       rcases List.mem_cons.1 hb with rfl | hb
       · rw [h1]; simp
       · rw [hge b hb]; simp
     have hf2 : r.filter (fun a => Op.bytesLess key a.name) = r := List.filter_eq_self.2 hgt
     have hh : hasA (a :: r) key = (a.name == key) := by unfold hasA; rw [hp]; simp
     rw [hp,hh]
     refine ⟨by rw [hf1]; rfl,fun hq => ?_,fun hq => ?_⟩
     · have e : a.name = key := by simpa using hq
       simp only [List.filter_cons,e,bl_irr,Bool.false_eq_true,if_false,hf2,List.drop_succ_cons,List.drop_zero]
     · have e : a.name ≠ key := by simpa using hq
       have : Op.bytesLess key a.name = true := by
         rcases bl_tri key a.name with h2 | h2 | h2
         · exact h2
         · exact absurd h2.symm e
         · rw [h2] at h1; cases h1
       simp only [List.filter_cons,this,if_true,hf2,List.drop_zero]
theorem attrB_eq {as : List Attr} (h : risA as = true) (o : Op) : attrB as o = if o.kind = 10 then dropA as o.name else putA as o.name o.s := by
 obtain ⟨i1,i2,i3⟩ := pos_split (key := o.name) h
 unfold attrB dropA putA
 cases hh : hasA as o.name with
 | true =>
   obtain ⟨a,ha,hn⟩ := hasA_get hh
   have hlt := (List.getElem?_eq_some_iff.1 ha).1
   have hset : as.set (posA as o.name) ⟨o.name,o.s⟩ = as.take (posA as o.name) ++ ⟨o.name,o.s⟩ :: as.drop (posA as o.name + 1) := List.set_eq_take_append_cons_drop.trans (if_pos hlt)
   simp only [if_true]
   rw [hset,i1,i2 hh]
 | false =>
   simp only [Bool.false_eq_true,if_false]
   rw [i1,i3 hh]
   split
   · rw [← i1,← i3 hh,List.take_append_drop]
   · simp
theorem putA_ris {as : List Attr} (h : risA as = true) (k v : Bs) : risA (putA as k v) = true := by
 rw [risA_pw] at h ⊢
 unfold putA
 rw [List.pairwise_append,List.pairwise_cons]
 refine ⟨h.filter _,⟨fun b hb => ?_,h.filter _⟩,fun a ha b hb => ?_⟩
 · exact (List.mem_filter.1 hb).2
 · have h1 := (List.mem_filter.1 ha).2
   rcases List.mem_cons.1 hb with rfl | hb
   · exact h1
   · exact bl_tr h1 (List.mem_filter.1 hb).2
theorem dropA_ris {as : List Attr} (h : risA as = true) (k : Bs) : risA (dropA as k) = true := by
 rw [risA_pw] at h ⊢
 unfold dropA
 rw [List.pairwise_append]
 exact ⟨h.filter _,h.filter _,fun a ha b hb => bl_tr (List.mem_filter.1 ha).2 (List.mem_filter.1 hb).2⟩
theorem attrB_ris {as : List Attr} (h : risA as = true) (o : Op) : risA (attrB as o) = true := by
 rw [attrB_eq h]; split
 · exact dropA_ris h _
 · exact putA_ris h _ _
theorem attrB_len (as : List Attr) (o : Op) : (attrB as o).length ≤ as.length + 1 := by
 have := posA_le as o.name
 unfold attrB
 split
 · split
   · simp; omega
   · omega
 · split
   · simp
   · simp; omega
end Go.Am

/- THE ABSTRACT MACHINE, part 50: an empty slice in a cell of any row, owned. -/
namespace Go.Am
open Go Go.RowKit
theorem weaker_ownr {S : St} {env : Env} {H : Hp} {q N : Lb} {sq i j sz : Nat} {els : List (List AV)} {cs : List AV} (g1 : H q = .live ⟨sq,els⟩) (g0 : els[i]? = some cs) (g2 : cs[j]? = some .nil0) (g3 : H N = .unused) (g4 : 0 < sz) :
   Weaker S env H env (upd (upd H N (.live ⟨sz,[]⟩)) q (.live ⟨sq,els.set i (cs.set j (.sl N sz 0 0))⟩)) := by
 intro K β a w hKS hS hr
 have hk := hr.addRow N g3 (r := ⟨sz,[]⟩) (Below.refl _ _) none (by simp) (by simp) ⟨g4,by simp,by simp⟩
 have hqd : q ≠ N := by rintro rfl; rw [g1] at g3; cases g3
 have hq : upd H N (.live ⟨sz,[]⟩) q = .live ⟨sq,els⟩ := by rw [upd_ne _ _ hqd]; exact g1
 have hlen := (hr.rows q _ g1).2.1
 have hbq : upd β N none q = β q := upd_ne _ _ hqd
 have hil : i < els.length := (List.getElem?_eq_some_iff.1 g0).1
 cases hb : β q with
 | none =>
   have := (hr.rows q _ g1).2.2
   simp only [hb] at this
   rw [this] at hil; simp at hil
 | some g =>
   obtain ⟨cur,e0,cap,k1,k2,k3,k4,k5⟩ := (hk.rows q _ hq).block (hbq.trans hb)
   have hjl : j < cs.length := (List.getElem?_eq_some_iff.1 g2).1
   have hset := hk.setRow q (r' := ⟨sq,els.set i (cs.set j (.sl N sz 0 0))⟩) (cur' := cur) (cap := cap) hq (hbq.trans hb) k1 rfl rfl k2 k3 (by simpa using k4) (by
       intro ds hds
       rcases List.mem_or_eq_of_mem_set hds with h | rfl
       · exact hlen ds h
       · simpa using hlen cs (List.mem_of_getElem? g0))
     (by
       intro ds hds p hp
       rcases List.mem_or_eq_of_mem_set hds with h | rfl
       · exact hk.rment q _ hq ds h p hp
       · obtain ⟨y,hy,hpy⟩ := mem_lbss hp
         rcases List.mem_or_eq_of_mem_set hy with hy | rfl
         · obtain ⟨m,hm⟩ := List.getElem?_of_mem hy
           exact hk.rment q _ hq cs (List.mem_of_getElem? g0) p (lbss_get _ _ _ hm p hpy)
         · simp only [AV.lbs,List.mem_singleton] at hpy
           subst hpy; simp)
     (by
       intro i' j' ds x0 hi' hj'
       by_cases ei : i' = i
       · subst ei
         simp only at hi'
         rw [List.getElem?_set_self hil] at hi'
         cases hi'
         by_cases e : j' = j
         · subst e
           rw [List.getElem?_set_self hjl] at hj'
           cases hj'
           obtain ⟨v,q1,q2⟩ := k5 i' j' cs _ g0 g2
           simp only [RV] at q2
           obtain ⟨ad,rfl⟩ := q2
           refine ⟨_,q1,?_⟩
           simp only [RV]
           exact ⟨ad,0,rfl,Nat.le_refl _,by simp [maxLen],by simp,fun _ => .inl rfl⟩
         · rw [List.getElem?_set_ne (Ne.symm e)] at hj'
           exact k5 i' j' cs x0 g0 hj'
       · simp only at hi'
         rw [List.getElem?_set_ne (Ne.symm ei)] at hi'
         exact k5 i' j' ds x0 hi' hj')
   have hsame : w.setRow g cur = w := setRow_self w g cur e0 (0,0) k1
   rw [hsame] at hset
   exact ⟨_,hset⟩
end Go.Am

/- The bench: a node has just a text. -/
set_option pp.deepTerms false
set_option pp.deepTerms.threshold 5
namespace Go.Am
open Go Go.RowKit
def txt (s : Bs) : Tree := .mk true s [] []
theorem txt_wt (s : Bs) : (txt s).wt = 1 + s.length := by simp [txt,Tree.wt,wtA,wtT]
def Bn.value (b : Bn) (n : Nat) (s : Bs) : Bn := match b.nodes[n]? with
 | some x => if x.text then b.set n { x with s := s } else (b.set n { x with kids := [] }).ins n 0 [txt s]
 | none => b
def InsC (P : Program) (G : Nat → Option (List IV)) (f : Nat) : Prop := ∀ (b : Bn),b.n0 ≤ b.nodes.length → ∀ (p pl : Nat),p < b.n0 → ∀ (x : Node),b.nodes[p]? = some x → pl ≤ x.kids.length →
   ∀ (l : List Tree),b.nodes.length + wtT l ≤ B → x.kids.length + l.length ≤ B →
   ShC P G f [.ptr (.par 0) 3 0 0,.int .i64 p,.int .i64 pl,.list (ivT l)] (bSh b) (b.but2 1 (5 + 2 * p)) fun X R2 => X = (fun _ => .tup []) ∧ R2 = bSh (b.ins p pl l)
section
variable {P : Program} {G : Nat → Option (List IV)}
def c_change_bench_value (f_change_bench_insert : Nat) : AC :=
(.seq (.seq (.reg [⟨some 6,none,.mov (.t 0)⟩,⟨some 7,none,.nchk (.t 6)⟩,⟨some 8,none,.fld (.t 7) 0⟩,⟨some 9,none,.load none (.t 8)⟩,⟨some 10,none,.mov (.t 1)⟩,⟨some 11,none,.ixa (.t 9) (.t 10) 5⟩,⟨some 12,none,.fld (.t 11) 0⟩,⟨some 13,none,.load none (.t 12)⟩]) (.cond (.t 13) (.seq (.reg [⟨some 14,none,.mov (.t 0)⟩,⟨some 15,none,.nchk (.t 14)⟩,⟨some 16,none,.fld (.t 15) 0⟩,⟨some 17,none,.load none (.t 16)⟩,⟨some 18,none,.mov (.t 1)⟩,⟨some 19,none,.mov (.t 2)⟩,⟨some 20,none,.ixa (.t 17) (.t 18) 5⟩,⟨some 21,none,.fld (.t 20) 1⟩,⟨none,none,.store 1 (.t 21) (.t 19)⟩]) .ret) .skip)) (.seq (.reg [⟨some 22,none,.mov (.t 0)⟩,⟨some 23,none,.nchk (.t 22)⟩,⟨some 24,none,.fld (.t 23) 0⟩,⟨some 25,none,.load none (.t 24)⟩,⟨some 26,none,.mov (.t 1)⟩,⟨some 27,none,.ixa (.t 25) (.t 26) 5⟩,⟨some 28,none,.fld (.t 27) 4⟩,⟨none,none,.store 1 (.t 28) (.c .nil0)⟩]) (.gh .weak (.reg [⟨some 29,none,.mov (.t 0)⟩,⟨some 30,none,.mov (.t 1)⟩,⟨some 31,none,.mov (.t 2)⟩,⟨some 32,none,(.bld [(.bool false),(.str []),.nil0,.nil0] [(0,(1,(.c (.bool true)))),(1,(1,(.t 31)))])⟩,⟨some 33,none,.lits 1 4 [(.bool false),(.str []),.nil0,.nil0] [(0,(.t 32))]⟩,⟨some 34,none,.call f_change_bench_insert [(.t 29),(.t 30),(.c (.int .i64 0)),(.t 33)]⟩]))))
theorem cValue {f_change_bench_value f_change_bench_insert : Nat} (hF : compF P G f_change_bench_value = some (35,[],(c_change_bench_value f_change_bench_insert).bare)) (b : Bn) (hn : b.n0 ≤ b.nodes.length) (n : Nat) (hp : n < b.n0) (x : Node) (hx : b.nodes[n]? = some x) (s : Bs) (hb : b.nodes.length + 1 + s.length ≤ B)
   (hI : InsC P G f_change_bench_insert) :
   ShC P G f_change_bench_value [.ptr (.par 0) 3 0 0,.int .i64 n,.str s] (bSh b) (b.but2 1 (5 + 2 * n)) fun X R2 => X = (fun _ => .tup []) ∧ R2 = bSh (b.value n s) := by
 refine sh_of_go hF (by simp) (by simp [lbss,AV.lbs,bSh_ok,Tree.av]; omega) ?_
 have hA0 : BnAt Lb.par b (inS (bSh b)) := inS_at _
 have hU : ∀ q : Lb,(∀ p,p < 4 + 2 * b.n0 → q ≠ .par p) → inS (bSh b) q = .unused := fun q hq => shH_ne _ fun p hp e => hq p (bSh_ok.1 hp) e.symm
 have hg : inS (bSh b) (.gen 77) = .unused := hU _ (by simp)
 have hgN : ∀ l,inS (bSh b) (NC 9 l) = .unused := fun l => hU _ (by simp [NC])
 have hlen : n < b.nodes.length := by omega
 have hBv : B = 1073741824 := rfl
 have hbn := bNode_lt (n0 := b.n0) (lab := Lb.par) (x := x) hp
 have hget := hA0.get hx
 rw [hbn] at hget
 unfold c_change_bench_value
 simp only [↓aX,mX,reduceCtorEq,Nat.reduceEqDiff,Nat.reduceLT,Nat.reduceLeDiff,Nat.reduceAdd,Nat.reduceMul,Int.reduceToNat,Int.reduceLE,Int.reduceLT,hA0.s,hA0.n,hlen,List.length_mapIdx,Int.natCast_nonneg,Int.toNat_natCast,and_self,true_and,Nat.zero_add,hget]
 refine cK_b (fun h => ?_) (fun h => ?_)
 · simp only [↓aX,mX,reduceCtorEq,Nat.reduceEqDiff,Nat.reduceLT,Nat.reduceLeDiff,Nat.reduceAdd,Nat.reduceMul,Int.reduceToNat,Int.reduceLE,Int.reduceLT,hA0.s,hA0.n,hlen,List.length_mapIdx,Int.natCast_nonneg,Int.toNat_natCast,and_self,true_and,Nat.zero_add,hget]
   rw [ret_r]
   refine ⟨[],rfl,⟨fun _ => .tup [],bSh (b.set n { x with s := s }),Lb.par⟩,⟨rfl,by unfold Bn.value; rw [hx]; simp only [h,if_true]⟩,fun ρ => by simp [ren,rens],by simp [oneV,AV.lbs,lbss],rfl,?_,fun _ _ => rfl⟩
   refine BnAt.setS hA0 hx ?_ (fun q hq => by rw [upd_ne _ _ hq])
   rw [upd_at,if_pos rfl,bNode_lt hp]
 · simp only [↓aX,mX,reduceCtorEq,Nat.reduceEqDiff,Nat.reduceLT,Nat.reduceLeDiff,Nat.reduceAdd,Nat.reduceMul,Int.reduceToNat,Int.reduceLE,Int.reduceLT,hA0.s,hA0.n,hlen,List.length_mapIdx,Int.natCast_nonneg,Int.toNat_natCast,and_self,true_and,Nat.zero_add,hget,go_weak]
   refine ⟨_,_,weaker_ownr (q := .par 1) (N := .gen 77) (i := n) (j := 4) (sz := 1) (by rw [upd_at,if_pos rfl]) (List.getElem?_set_self (by rw [List.length_mapIdx]; exact hlen)) rfl (by rw [upd_ne _ _ (by simp)]; exact hg) (by decide),?_⟩
   simp only [↓aX,mX,reduceCtorEq,Nat.reduceEqDiff,Nat.reduceLT,Nat.reduceLeDiff,Nat.reduceAdd,Nat.reduceMul,Int.reduceToNat,Int.reduceLE,Int.reduceLT]
   have hset : ((b.nodes.mapIdx (bNode b.n0 Lb.par)).set n [.bool x.text,.str x.s,.sl (.par (4 + 2 * n)) 2 0 x.attrs.length,.int .i64 x.parent,.nil0]).set n [.bool x.text,.str x.s,.sl (.par (4 + 2 * n)) 2 0 x.attrs.length,.int .i64 x.parent,.sl (.gen 77) 1 0 0] =
       (b.nodes.mapIdx (bNode b.n0 Lb.par)).set n [.bool x.text,.str x.s,.sl (.par (4 + 2 * n)) 2 0 x.attrs.length,.int .i64 x.parent,.sl (.gen 77) 1 0 0] := List.set_set ..
   have hB : ∀ H2 : Hp,H2 (.par 1) = .live ⟨5,(b.nodes.mapIdx (bNode b.n0 Lb.par)).set n [.bool x.text,.str x.s,.sl (.par (4 + 2 * n)) 2 0 x.attrs.length,.int .i64 x.parent,.sl (.gen 77) 1 0 0]⟩ → H2 (.gen 77) = .live ⟨1,[]⟩ →
       (∀ q,q ≠ .par 1 → q ≠ .gen 77 → q ≠ .par (5 + 2 * n) → H2 q = inS (bSh b) q) → BnAt (fun p => if p = 5 + 2 * n then .gen 77 else Lb.par p) (b.set n { x with kids := [] }) H2 := fun H2 e1 e2 e3 =>
     BnAt.setK hA0 hp hx (.inr (by simp)) e1 (by rw [e2]; rfl) e3
   refine callT_sh (lab := fun p => if p = 5 + 2 * n then .gen 77 else Lb.par p) (N := NC 9) (hI (b.set n { x with kids := [] }) (by simp [Bn.set]; exact hn) n 0 hp { x with kids := [] } (by simp [Bn.set,hlen]) (by simp) [txt s] (by simp [Bn.set,wtT,txt_wt]; omega) (by simp; omega)) ?_ ?_ ?_ (NC_inj 9) (fun l h => .inl h) (fun p' hp' => bSh_ok.2 (but2_mem.1 hp').1) ?_
   · have : ¬ 0 = 5 + 2 * n := by omega
     simp [rens,ren,inR,txt,ivT,Tree.iv,ivA,this]
   · refine hB _ ?_ ?_ ?_
     · simp [upd_at]
     · simp [upd_at]
     · intro q g1 g2 g3; simp [upd_at,g1,g2]
   · intro l; simp [upd_at,NC]; exact hgN l
   · rintro X R2 lab2 H2 ⟨rfl,rfl⟩ g1 g2 g3 g4 g5 g6
     simp only [↓aX,mX,reduceCtorEq,Nat.reduceEqDiff,Nat.reduceLT,Nat.reduceLeDiff,Nat.reduceAdd,Nat.reduceMul,Int.reduceToNat,Int.reduceLE,Int.reduceLT]
     rw [ret_n]
     refine ⟨[],rfl,⟨fun _ => .tup [],_,lab2⟩,⟨rfl,?_⟩,fun ρ => by simp [ren,rens],by simp [oneV,AV.lbs,lbss],rfl,g1,?_⟩
     · have hne : ¬ (x.text = true) := by rw [h]; decide
       unfold Bn.value; rw [hx]
       show _ = bSh (if x.text = true then _ else _)
       rw [if_neg hne]
       rfl
     · intro p' hp'
       have h1 := but2_mem.1 hp'
       exact (g2 p' (but2_mem.2 h1)).trans (if_neg h1.2.2)
end
end Go.Am
