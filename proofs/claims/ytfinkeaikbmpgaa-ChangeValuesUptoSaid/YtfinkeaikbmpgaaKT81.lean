import Derived.Test.YtfinkeaikbmpgaaKT80
import Derived.Test.YtfinkeaikbmpgaaKAm40
set_option linter.unusedSimpArgs false
set_option linter.unusedVariables false
set_option linter.unnecessarySimpa false
set_option linter.defProp false
/- Changes: what is wrong with one, as to its node. -/
namespace Go.Am
open Go Go.RowKit
def kC (k : Int) : Bool := decide (k ≤ 4) || k == 6
def kN (k : Int) : Bool := decide (8 ≤ k)
def kT (k : Int) : Bool := k == 7 || k == 9
def kB (k : Int) : Bool := decide (3 ≤ k) && decide (k ≤ 6)
def wrongF (x : Node) (o : Op) : Int :=
 if (if kC o.kind then !content o.content else decide ((o.content.length : Int) > 0)) then 1
 else if (if kN o.kind then !named o.name else o.name != []) then 1
 else if (if kT o.kind then !plain o.s else o.s != []) then 1
 else if kB o.kind && decide (x.parent < 0) then 6
 else if x.text && (!kB o.kind && o.kind != 7) then 4 else 0
def tQ := And.intro @ge_iff_le.{0} (And.intro @gt_iff_lt.{0} (And.intro decide_true (And.intro decide_false ivT_len)))
def c_change_wrong (f_tree_Content f_tree_Named f_tree_Plain : Nat) : AC :=
(.seq (.reg [⟨some 2,none,.box (.t 0)⟩,⟨some 3,none,.box (.t 1)⟩,⟨some 4,none,.mov (.c (.int .i64 0))⟩]) (.seq (.reg [⟨some 9,none,.fld (.t 3) 0⟩,⟨some 10,none,.load none (.t 9)⟩,⟨some 11,none,.bin .leq (.t 10) (.c (.int .i64 4))⟩,⟨some 12,none,.mov (.t 11)⟩,⟨some 13,(some (12,false)),(.fld (.t 3) 0)⟩,⟨some 14,(some (12,false)),(.load none (.t 13))⟩,⟨some 15,(some (12,false)),(.bin .eql (.t 14) (.c (.int .i64 6)))⟩,⟨some 16,none,.pick (.t 12) (.c (.bool true)) (.t 15)⟩,⟨some 5,none,.mov (.t 16)⟩]) (.seq (.reg [⟨some 17,none,.fld (.t 3) 0⟩,⟨some 18,none,.load none (.t 17)⟩,⟨some 19,none,.bin .geq (.t 18) (.c (.int .i64 8))⟩,⟨some 6,none,.mov (.t 19)⟩]) (.seq (.reg [⟨some 20,none,.fld (.t 3) 0⟩,⟨some 21,none,.load none (.t 20)⟩,⟨some 22,none,.bin .eql (.t 21) (.c (.int .i64 7))⟩,⟨some 23,none,.mov (.t 22)⟩,⟨some 24,(some (23,false)),(.fld (.t 3) 0)⟩,⟨some 25,(some (23,false)),(.load none (.t 24))⟩,⟨some 26,(some (23,false)),(.bin .eql (.t 25) (.c (.int .i64 9)))⟩,⟨some 27,none,.pick (.t 23) (.c (.bool true)) (.t 26)⟩,⟨some 7,none,.mov (.t 27)⟩]) (.seq (.reg [⟨some 28,none,.fld (.t 3) 0⟩,⟨some 29,none,.load none (.t 28)⟩,⟨some 30,none,.bin .geq (.t 29) (.c (.int .i64 3))⟩,⟨some 31,none,.mov (.t 30)⟩,⟨some 32,(some (31,true)),(.fld (.t 3) 0)⟩,⟨some 33,(some (31,true)),(.load none (.t 32))⟩,⟨some 34,(some (31,true)),(.bin .leq (.t 33) (.c (.int .i64 6)))⟩,⟨some 35,none,.pick (.t 31) (.t 34) (.c (.bool false))⟩,⟨some 8,none,.mov (.t 35)⟩]) (.seq (.block 0 (.seq (.reg [⟨some 37,none,.mov (.t 5)⟩,⟨some 38,none,.mov (.t 37)⟩,⟨some 39,(some (38,true)),(.fld (.t 3) 2)⟩,⟨some 40,(some (38,true)),(.load none (.t 39))⟩,⟨some 41,(some (38,true)),(.call f_tree_Content [(.t 40)])⟩,⟨some 42,(some (38,true)),(.not (.t 41))⟩,⟨some 43,none,.pick (.t 38) (.t 42) (.c (.bool false))⟩,⟨some 44,none,.mov (.t 43)⟩,⟨some 45,(some (44,false)),(.mov (.t 5))⟩,⟨some 46,(some (44,false)),(.not (.t 45))⟩,⟨some 47,(some (44,false)),(.mov (.t 46))⟩,⟨some 48,(some (47,true)),(.fld (.t 3) 2)⟩,⟨some 49,(some (47,true)),(.load none (.t 48))⟩,⟨some 50,(some (47,true)),(.len (.t 49))⟩,⟨some 51,(some (47,true)),(.bin .gtr (.t 50) (.c (.int .i64 0)))⟩,⟨some 52,(some (44,false)),(.pick (.t 47) (.t 51) (.c (.bool false)))⟩,⟨some 53,none,.pick (.t 44) (.c (.bool true)) (.t 52)⟩,⟨some 36,none,.mov (.t 53)⟩]) (.cond (.t 36) (.seq (.reg [⟨some 4,none,.mov (.c (.int .i64 1))⟩]) .ret) (.seq (.reg [⟨some 55,none,.mov (.t 6)⟩,⟨some 56,none,.mov (.t 55)⟩,⟨some 57,(some (56,true)),(.fld (.t 3) 3)⟩,⟨some 58,(some (56,true)),(.load none (.t 57))⟩,⟨some 59,(some (56,true)),(.call f_tree_Named [(.t 58)])⟩,⟨some 60,(some (56,true)),(.not (.t 59))⟩,⟨some 61,none,.pick (.t 56) (.t 60) (.c (.bool false))⟩,⟨some 62,none,.mov (.t 61)⟩,⟨some 63,(some (62,false)),(.mov (.t 6))⟩,⟨some 64,(some (62,false)),(.not (.t 63))⟩,⟨some 65,(some (62,false)),(.mov (.t 64))⟩,⟨some 66,(some (65,true)),(.fld (.t 3) 3)⟩,⟨some 67,(some (65,true)),(.load none (.t 66))⟩,⟨some 68,(some (65,true)),(.bin .neq (.t 67) (.c (.str [])))⟩,⟨some 69,(some (62,false)),(.pick (.t 65) (.t 68) (.c (.bool false)))⟩,⟨some 70,none,.pick (.t 62) (.c (.bool true)) (.t 69)⟩,⟨some 54,none,.mov (.t 70)⟩]) (.cond (.t 54) (.seq (.reg [⟨some 4,none,.mov (.c (.int .i64 1))⟩]) .ret) (.seq (.reg [⟨some 72,none,.mov (.t 7)⟩,⟨some 73,none,.mov (.t 72)⟩,⟨some 74,(some (73,true)),(.fld (.t 3) 4)⟩,⟨some 75,(some (73,true)),(.load none (.t 74))⟩,⟨some 76,(some (73,true)),(.call f_tree_Plain [(.t 75)])⟩,⟨some 77,(some (73,true)),(.not (.t 76))⟩,⟨some 78,none,.pick (.t 73) (.t 77) (.c (.bool false))⟩,⟨some 79,none,.mov (.t 78)⟩,⟨some 80,(some (79,false)),(.mov (.t 7))⟩,⟨some 81,(some (79,false)),(.not (.t 80))⟩,⟨some 82,(some (79,false)),(.mov (.t 81))⟩,⟨some 83,(some (82,true)),(.fld (.t 3) 4)⟩,⟨some 84,(some (82,true)),(.load none (.t 83))⟩,⟨some 85,(some (82,true)),(.bin .neq (.t 84) (.c (.str [])))⟩,⟨some 86,(some (79,false)),(.pick (.t 82) (.t 85) (.c (.bool false)))⟩,⟨some 87,none,.pick (.t 79) (.c (.bool true)) (.t 86)⟩,⟨some 71,none,.mov (.t 87)⟩]) (.cond (.t 71) (.seq (.reg [⟨some 4,none,.mov (.c (.int .i64 1))⟩]) .ret) (.seq (.reg [⟨some 89,none,.mov (.t 8)⟩,⟨some 90,none,.mov (.t 89)⟩,⟨some 91,(some (90,true)),(.fld (.t 2) 3)⟩,⟨some 92,(some (90,true)),(.load none (.t 91))⟩,⟨some 93,(some (90,true)),(.bin .lss (.t 92) (.c (.int .i64 0)))⟩,⟨some 94,none,.pick (.t 90) (.t 93) (.c (.bool false))⟩,⟨some 88,none,.mov (.t 94)⟩]) (.cond (.t 88) (.seq (.reg [⟨some 4,none,.mov (.c (.int .i64 6))⟩]) .ret) (.seq (.reg [⟨some 96,none,.fld (.t 2) 0⟩,⟨some 97,none,.load none (.t 96)⟩,⟨some 98,none,.mov (.t 97)⟩,⟨some 99,(some (98,true)),(.mov (.t 8))⟩,⟨some 100,(some (98,true)),(.not (.t 99))⟩,⟨some 101,none,.pick (.t 98) (.t 100) (.c (.bool false))⟩,⟨some 102,none,.mov (.t 101)⟩,⟨some 103,(some (102,true)),(.fld (.t 3) 0)⟩,⟨some 104,(some (102,true)),(.load none (.t 103))⟩,⟨some 105,(some (102,true)),(.bin .neq (.t 104) (.c (.int .i64 7)))⟩,⟨some 106,none,.pick (.t 102) (.t 105) (.c (.bool false))⟩,⟨some 95,none,.mov (.t 106)⟩]) (.cond (.t 95) (.seq (.reg [⟨some 4,none,.mov (.c (.int .i64 4))⟩]) .ret) .skip))))))))))) (.seq (.reg [⟨some 4,none,.mov (.c (.int .i64 0))⟩]) .ret)))))))
set_option maxHeartbeats 1600000 in
theorem pWrong1 {P : Program} {G : Nat → Option (List IV)} {f_change_wrong f_tree_Content f_tree_Named f_tree_Plain : Nat} (hF : compF P G f_change_wrong = some (107,[(none,4)],(c_change_wrong f_tree_Content f_tree_Named f_tree_Plain).bare)) (x : Node) (ta : Int) (co : List Tree) (na st : Bs)
   (hC : PureC P G f_tree_Content [.list (ivT co)] (.bool (content co))) (hN : PureC P G f_tree_Named [.str na] (.bool (named na))) (hP : PureC P G f_tree_Plain [.str st] (.bool (plain st))) :
   PureC P G f_change_wrong [x.av,(⟨1,ta,co,na,st⟩ : Op).av] (.int .i64 (wrongF x ⟨1,ta,co,na,st⟩)) := by
 refine pure_of_go hF (by simp) (by simp [lbss,AV.lbs,Op.av,Node.av]) (by simp [AV.lbs]) ?_
 unfold c_change_wrong
 simp only [↓aX,mX,reduceCtorEq,Nat.reduceEqDiff,Nat.reduceLT,Nat.reduceLeDiff,Nat.reduceAdd,Nat.reduceMul,Int.reduceToNat,Int.reduceLE,Int.reduceLT,Op.av,Node.av,List.length_cons,List.length_nil,Int.reduceBEq,Int.reduceBNe,Int.reduceLE,Int.reduceLT,decide_true,decide_false,ge_iff_le,gt_iff_lt,Bool.not_true,Bool.not_false,ivT_len]
 clear hF
 refine callT_pure hC ?_
 simp only [↓aX,mX,reduceCtorEq,Nat.reduceEqDiff,Nat.reduceLT,Nat.reduceLeDiff,Nat.reduceAdd,Nat.reduceMul,Int.reduceToNat,Int.reduceLE,Int.reduceLT,tQ,Int.reduceBEq,Int.reduceBNe]
 cases h1 : content co
 case false =>
   try simp only [↓aX,mX,reduceCtorEq,Nat.reduceEqDiff,Nat.reduceLT,Nat.reduceLeDiff,Nat.reduceAdd,Nat.reduceMul,Int.reduceToNat,Int.reduceLE,Int.reduceLT,h1,tQ,Int.reduceBEq,Int.reduceBNe]
   simp_all [wrongF,kC,kN,kT,kB]
 case true =>
   try simp only [↓aX,mX,reduceCtorEq,Nat.reduceEqDiff,Nat.reduceLT,Nat.reduceLeDiff,Nat.reduceAdd,Nat.reduceMul,Int.reduceToNat,Int.reduceLE,Int.reduceLT,h1,tQ,Int.reduceBEq,Int.reduceBNe]
   cases h2 : (na == [])
   case false =>
     try simp only [↓aX,mX,reduceCtorEq,Nat.reduceEqDiff,Nat.reduceLT,Nat.reduceLeDiff,Nat.reduceAdd,Nat.reduceMul,Int.reduceToNat,Int.reduceLE,Int.reduceLT,h1,h2,tQ,Int.reduceBEq,Int.reduceBNe]
     simp_all [wrongF,kC,kN,kT,kB]
   case true =>
     try simp only [↓aX,mX,reduceCtorEq,Nat.reduceEqDiff,Nat.reduceLT,Nat.reduceLeDiff,Nat.reduceAdd,Nat.reduceMul,Int.reduceToNat,Int.reduceLE,Int.reduceLT,h1,h2,tQ,Int.reduceBEq,Int.reduceBNe]
     cases h3 : (st == [])
     case false =>
       try simp only [↓aX,mX,reduceCtorEq,Nat.reduceEqDiff,Nat.reduceLT,Nat.reduceLeDiff,Nat.reduceAdd,Nat.reduceMul,Int.reduceToNat,Int.reduceLE,Int.reduceLT,h1,h2,h3,tQ,Int.reduceBEq,Int.reduceBNe]
       simp_all [wrongF,kC,kN,kT,kB]
     case true =>
       try simp only [↓aX,mX,reduceCtorEq,Nat.reduceEqDiff,Nat.reduceLT,Nat.reduceLeDiff,Nat.reduceAdd,Nat.reduceMul,Int.reduceToNat,Int.reduceLE,Int.reduceLT,h1,h2,h3,tQ,Int.reduceBEq,Int.reduceBNe]
       cases h5 : x.text
       case false =>
         try simp only [↓aX,mX,reduceCtorEq,Nat.reduceEqDiff,Nat.reduceLT,Nat.reduceLeDiff,Nat.reduceAdd,Nat.reduceMul,Int.reduceToNat,Int.reduceLE,Int.reduceLT,h1,h2,h3,h5,tQ,Int.reduceBEq,Int.reduceBNe]
         simp_all [wrongF,kC,kN,kT,kB]
       case true =>
         try simp only [↓aX,mX,reduceCtorEq,Nat.reduceEqDiff,Nat.reduceLT,Nat.reduceLeDiff,Nat.reduceAdd,Nat.reduceMul,Int.reduceToNat,Int.reduceLE,Int.reduceLT,h1,h2,h3,h5,tQ,Int.reduceBEq,Int.reduceBNe]
         simp_all [wrongF,kC,kN,kT,kB]
set_option maxHeartbeats 1600000 in
theorem pWrong2 {P : Program} {G : Nat → Option (List IV)} {f_change_wrong f_tree_Content f_tree_Named f_tree_Plain : Nat} (hF : compF P G f_change_wrong = some (107,[(none,4)],(c_change_wrong f_tree_Content f_tree_Named f_tree_Plain).bare)) (x : Node) (ta : Int) (co : List Tree) (na st : Bs)
   (hC : PureC P G f_tree_Content [.list (ivT co)] (.bool (content co))) (hN : PureC P G f_tree_Named [.str na] (.bool (named na))) (hP : PureC P G f_tree_Plain [.str st] (.bool (plain st))) :
   PureC P G f_change_wrong [x.av,(⟨2,ta,co,na,st⟩ : Op).av] (.int .i64 (wrongF x ⟨2,ta,co,na,st⟩)) := by
 refine pure_of_go hF (by simp) (by simp [lbss,AV.lbs,Op.av,Node.av]) (by simp [AV.lbs]) ?_
 unfold c_change_wrong
 simp only [↓aX,mX,reduceCtorEq,Nat.reduceEqDiff,Nat.reduceLT,Nat.reduceLeDiff,Nat.reduceAdd,Nat.reduceMul,Int.reduceToNat,Int.reduceLE,Int.reduceLT,Op.av,Node.av,List.length_cons,List.length_nil,Int.reduceBEq,Int.reduceBNe,Int.reduceLE,Int.reduceLT,decide_true,decide_false,ge_iff_le,gt_iff_lt,Bool.not_true,Bool.not_false,ivT_len]
 clear hF
 refine callT_pure hC ?_
 simp only [↓aX,mX,reduceCtorEq,Nat.reduceEqDiff,Nat.reduceLT,Nat.reduceLeDiff,Nat.reduceAdd,Nat.reduceMul,Int.reduceToNat,Int.reduceLE,Int.reduceLT,tQ,Int.reduceBEq,Int.reduceBNe]
 cases h1 : content co
 case false =>
   try simp only [↓aX,mX,reduceCtorEq,Nat.reduceEqDiff,Nat.reduceLT,Nat.reduceLeDiff,Nat.reduceAdd,Nat.reduceMul,Int.reduceToNat,Int.reduceLE,Int.reduceLT,h1,tQ,Int.reduceBEq,Int.reduceBNe]
   simp_all [wrongF,kC,kN,kT,kB]
 case true =>
   try simp only [↓aX,mX,reduceCtorEq,Nat.reduceEqDiff,Nat.reduceLT,Nat.reduceLeDiff,Nat.reduceAdd,Nat.reduceMul,Int.reduceToNat,Int.reduceLE,Int.reduceLT,h1,tQ,Int.reduceBEq,Int.reduceBNe]
   cases h2 : (na == [])
   case false =>
     try simp only [↓aX,mX,reduceCtorEq,Nat.reduceEqDiff,Nat.reduceLT,Nat.reduceLeDiff,Nat.reduceAdd,Nat.reduceMul,Int.reduceToNat,Int.reduceLE,Int.reduceLT,h1,h2,tQ,Int.reduceBEq,Int.reduceBNe]
     simp_all [wrongF,kC,kN,kT,kB]
   case true =>
     try simp only [↓aX,mX,reduceCtorEq,Nat.reduceEqDiff,Nat.reduceLT,Nat.reduceLeDiff,Nat.reduceAdd,Nat.reduceMul,Int.reduceToNat,Int.reduceLE,Int.reduceLT,h1,h2,tQ,Int.reduceBEq,Int.reduceBNe]
     cases h3 : (st == [])
     case false =>
       try simp only [↓aX,mX,reduceCtorEq,Nat.reduceEqDiff,Nat.reduceLT,Nat.reduceLeDiff,Nat.reduceAdd,Nat.reduceMul,Int.reduceToNat,Int.reduceLE,Int.reduceLT,h1,h2,h3,tQ,Int.reduceBEq,Int.reduceBNe]
       simp_all [wrongF,kC,kN,kT,kB]
     case true =>
       try simp only [↓aX,mX,reduceCtorEq,Nat.reduceEqDiff,Nat.reduceLT,Nat.reduceLeDiff,Nat.reduceAdd,Nat.reduceMul,Int.reduceToNat,Int.reduceLE,Int.reduceLT,h1,h2,h3,tQ,Int.reduceBEq,Int.reduceBNe]
       cases h5 : x.text
       case false =>
         try simp only [↓aX,mX,reduceCtorEq,Nat.reduceEqDiff,Nat.reduceLT,Nat.reduceLeDiff,Nat.reduceAdd,Nat.reduceMul,Int.reduceToNat,Int.reduceLE,Int.reduceLT,h1,h2,h3,h5,tQ,Int.reduceBEq,Int.reduceBNe]
         simp_all [wrongF,kC,kN,kT,kB]
       case true =>
         try simp only [↓aX,mX,reduceCtorEq,Nat.reduceEqDiff,Nat.reduceLT,Nat.reduceLeDiff,Nat.reduceAdd,Nat.reduceMul,Int.reduceToNat,Int.reduceLE,Int.reduceLT,h1,h2,h3,h5,tQ,Int.reduceBEq,Int.reduceBNe]
         simp_all [wrongF,kC,kN,kT,kB]
set_option maxHeartbeats 1600000 in
theorem pWrong3 {P : Program} {G : Nat → Option (List IV)} {f_change_wrong f_tree_Content f_tree_Named f_tree_Plain : Nat} (hF : compF P G f_change_wrong = some (107,[(none,4)],(c_change_wrong f_tree_Content f_tree_Named f_tree_Plain).bare)) (x : Node) (ta : Int) (co : List Tree) (na st : Bs)
   (hC : PureC P G f_tree_Content [.list (ivT co)] (.bool (content co))) (hN : PureC P G f_tree_Named [.str na] (.bool (named na))) (hP : PureC P G f_tree_Plain [.str st] (.bool (plain st))) :
   PureC P G f_change_wrong [x.av,(⟨3,ta,co,na,st⟩ : Op).av] (.int .i64 (wrongF x ⟨3,ta,co,na,st⟩)) := by
 refine pure_of_go hF (by simp) (by simp [lbss,AV.lbs,Op.av,Node.av]) (by simp [AV.lbs]) ?_
 unfold c_change_wrong
 simp only [↓aX,mX,reduceCtorEq,Nat.reduceEqDiff,Nat.reduceLT,Nat.reduceLeDiff,Nat.reduceAdd,Nat.reduceMul,Int.reduceToNat,Int.reduceLE,Int.reduceLT,Op.av,Node.av,List.length_cons,List.length_nil,Int.reduceBEq,Int.reduceBNe,Int.reduceLE,Int.reduceLT,decide_true,decide_false,ge_iff_le,gt_iff_lt,Bool.not_true,Bool.not_false,ivT_len]
 clear hF
 refine callT_pure hC ?_
 simp only [↓aX,mX,reduceCtorEq,Nat.reduceEqDiff,Nat.reduceLT,Nat.reduceLeDiff,Nat.reduceAdd,Nat.reduceMul,Int.reduceToNat,Int.reduceLE,Int.reduceLT,tQ,Int.reduceBEq,Int.reduceBNe]
 cases h1 : content co
 case false =>
   try simp only [↓aX,mX,reduceCtorEq,Nat.reduceEqDiff,Nat.reduceLT,Nat.reduceLeDiff,Nat.reduceAdd,Nat.reduceMul,Int.reduceToNat,Int.reduceLE,Int.reduceLT,h1,tQ,Int.reduceBEq,Int.reduceBNe]
   simp_all [wrongF,kC,kN,kT,kB]
 case true =>
   try simp only [↓aX,mX,reduceCtorEq,Nat.reduceEqDiff,Nat.reduceLT,Nat.reduceLeDiff,Nat.reduceAdd,Nat.reduceMul,Int.reduceToNat,Int.reduceLE,Int.reduceLT,h1,tQ,Int.reduceBEq,Int.reduceBNe]
   cases h2 : (na == [])
   case false =>
     try simp only [↓aX,mX,reduceCtorEq,Nat.reduceEqDiff,Nat.reduceLT,Nat.reduceLeDiff,Nat.reduceAdd,Nat.reduceMul,Int.reduceToNat,Int.reduceLE,Int.reduceLT,h1,h2,tQ,Int.reduceBEq,Int.reduceBNe]
     simp_all [wrongF,kC,kN,kT,kB]
   case true =>
     try simp only [↓aX,mX,reduceCtorEq,Nat.reduceEqDiff,Nat.reduceLT,Nat.reduceLeDiff,Nat.reduceAdd,Nat.reduceMul,Int.reduceToNat,Int.reduceLE,Int.reduceLT,h1,h2,tQ,Int.reduceBEq,Int.reduceBNe]
     cases h3 : (st == [])
     case false =>
       try simp only [↓aX,mX,reduceCtorEq,Nat.reduceEqDiff,Nat.reduceLT,Nat.reduceLeDiff,Nat.reduceAdd,Nat.reduceMul,Int.reduceToNat,Int.reduceLE,Int.reduceLT,h1,h2,h3,tQ,Int.reduceBEq,Int.reduceBNe]
       simp_all [wrongF,kC,kN,kT,kB]
     case true =>
       try simp only [↓aX,mX,reduceCtorEq,Nat.reduceEqDiff,Nat.reduceLT,Nat.reduceLeDiff,Nat.reduceAdd,Nat.reduceMul,Int.reduceToNat,Int.reduceLE,Int.reduceLT,h1,h2,h3,tQ,Int.reduceBEq,Int.reduceBNe]
       cases h4 : decide (x.parent < 0)
       case false =>
         try simp only [↓aX,mX,reduceCtorEq,Nat.reduceEqDiff,Nat.reduceLT,Nat.reduceLeDiff,Nat.reduceAdd,Nat.reduceMul,Int.reduceToNat,Int.reduceLE,Int.reduceLT,h1,h2,h3,h4,tQ,Int.reduceBEq,Int.reduceBNe]
         cases h5 : x.text
         case false =>
           try simp only [↓aX,mX,reduceCtorEq,Nat.reduceEqDiff,Nat.reduceLT,Nat.reduceLeDiff,Nat.reduceAdd,Nat.reduceMul,Int.reduceToNat,Int.reduceLE,Int.reduceLT,h1,h2,h3,h4,h5,tQ,Int.reduceBEq,Int.reduceBNe]
           simp_all [wrongF,kC,kN,kT,kB]
         case true =>
           try simp only [↓aX,mX,reduceCtorEq,Nat.reduceEqDiff,Nat.reduceLT,Nat.reduceLeDiff,Nat.reduceAdd,Nat.reduceMul,Int.reduceToNat,Int.reduceLE,Int.reduceLT,h1,h2,h3,h4,h5,tQ,Int.reduceBEq,Int.reduceBNe]
           simp_all [wrongF,kC,kN,kT,kB]
       case true =>
         try simp only [↓aX,mX,reduceCtorEq,Nat.reduceEqDiff,Nat.reduceLT,Nat.reduceLeDiff,Nat.reduceAdd,Nat.reduceMul,Int.reduceToNat,Int.reduceLE,Int.reduceLT,h1,h2,h3,h4,tQ,Int.reduceBEq,Int.reduceBNe]
         simp_all [wrongF,kC,kN,kT,kB]
set_option maxHeartbeats 1600000 in
theorem pWrong4 {P : Program} {G : Nat → Option (List IV)} {f_change_wrong f_tree_Content f_tree_Named f_tree_Plain : Nat} (hF : compF P G f_change_wrong = some (107,[(none,4)],(c_change_wrong f_tree_Content f_tree_Named f_tree_Plain).bare)) (x : Node) (ta : Int) (co : List Tree) (na st : Bs)
   (hC : PureC P G f_tree_Content [.list (ivT co)] (.bool (content co))) (hN : PureC P G f_tree_Named [.str na] (.bool (named na))) (hP : PureC P G f_tree_Plain [.str st] (.bool (plain st))) :
   PureC P G f_change_wrong [x.av,(⟨4,ta,co,na,st⟩ : Op).av] (.int .i64 (wrongF x ⟨4,ta,co,na,st⟩)) := by
 refine pure_of_go hF (by simp) (by simp [lbss,AV.lbs,Op.av,Node.av]) (by simp [AV.lbs]) ?_
 unfold c_change_wrong
 simp only [↓aX,mX,reduceCtorEq,Nat.reduceEqDiff,Nat.reduceLT,Nat.reduceLeDiff,Nat.reduceAdd,Nat.reduceMul,Int.reduceToNat,Int.reduceLE,Int.reduceLT,Op.av,Node.av,List.length_cons,List.length_nil,Int.reduceBEq,Int.reduceBNe,Int.reduceLE,Int.reduceLT,decide_true,decide_false,ge_iff_le,gt_iff_lt,Bool.not_true,Bool.not_false,ivT_len]
 clear hF
 refine callT_pure hC ?_
 simp only [↓aX,mX,reduceCtorEq,Nat.reduceEqDiff,Nat.reduceLT,Nat.reduceLeDiff,Nat.reduceAdd,Nat.reduceMul,Int.reduceToNat,Int.reduceLE,Int.reduceLT,tQ,Int.reduceBEq,Int.reduceBNe]
 cases h1 : content co
 case false =>
   try simp only [↓aX,mX,reduceCtorEq,Nat.reduceEqDiff,Nat.reduceLT,Nat.reduceLeDiff,Nat.reduceAdd,Nat.reduceMul,Int.reduceToNat,Int.reduceLE,Int.reduceLT,h1,tQ,Int.reduceBEq,Int.reduceBNe]
   simp_all [wrongF,kC,kN,kT,kB]
 case true =>
   try simp only [↓aX,mX,reduceCtorEq,Nat.reduceEqDiff,Nat.reduceLT,Nat.reduceLeDiff,Nat.reduceAdd,Nat.reduceMul,Int.reduceToNat,Int.reduceLE,Int.reduceLT,h1,tQ,Int.reduceBEq,Int.reduceBNe]
   cases h2 : (na == [])
   case false =>
     try simp only [↓aX,mX,reduceCtorEq,Nat.reduceEqDiff,Nat.reduceLT,Nat.reduceLeDiff,Nat.reduceAdd,Nat.reduceMul,Int.reduceToNat,Int.reduceLE,Int.reduceLT,h1,h2,tQ,Int.reduceBEq,Int.reduceBNe]
     simp_all [wrongF,kC,kN,kT,kB]
   case true =>
     try simp only [↓aX,mX,reduceCtorEq,Nat.reduceEqDiff,Nat.reduceLT,Nat.reduceLeDiff,Nat.reduceAdd,Nat.reduceMul,Int.reduceToNat,Int.reduceLE,Int.reduceLT,h1,h2,tQ,Int.reduceBEq,Int.reduceBNe]
     cases h3 : (st == [])
     case false =>
       try simp only [↓aX,mX,reduceCtorEq,Nat.reduceEqDiff,Nat.reduceLT,Nat.reduceLeDiff,Nat.reduceAdd,Nat.reduceMul,Int.reduceToNat,Int.reduceLE,Int.reduceLT,h1,h2,h3,tQ,Int.reduceBEq,Int.reduceBNe]
       simp_all [wrongF,kC,kN,kT,kB]
     case true =>
       try simp only [↓aX,mX,reduceCtorEq,Nat.reduceEqDiff,Nat.reduceLT,Nat.reduceLeDiff,Nat.reduceAdd,Nat.reduceMul,Int.reduceToNat,Int.reduceLE,Int.reduceLT,h1,h2,h3,tQ,Int.reduceBEq,Int.reduceBNe]
       cases h4 : decide (x.parent < 0)
       case false =>
         try simp only [↓aX,mX,reduceCtorEq,Nat.reduceEqDiff,Nat.reduceLT,Nat.reduceLeDiff,Nat.reduceAdd,Nat.reduceMul,Int.reduceToNat,Int.reduceLE,Int.reduceLT,h1,h2,h3,h4,tQ,Int.reduceBEq,Int.reduceBNe]
         cases h5 : x.text
         case false =>
           try simp only [↓aX,mX,reduceCtorEq,Nat.reduceEqDiff,Nat.reduceLT,Nat.reduceLeDiff,Nat.reduceAdd,Nat.reduceMul,Int.reduceToNat,Int.reduceLE,Int.reduceLT,h1,h2,h3,h4,h5,tQ,Int.reduceBEq,Int.reduceBNe]
           simp_all [wrongF,kC,kN,kT,kB]
         case true =>
           try simp only [↓aX,mX,reduceCtorEq,Nat.reduceEqDiff,Nat.reduceLT,Nat.reduceLeDiff,Nat.reduceAdd,Nat.reduceMul,Int.reduceToNat,Int.reduceLE,Int.reduceLT,h1,h2,h3,h4,h5,tQ,Int.reduceBEq,Int.reduceBNe]
           simp_all [wrongF,kC,kN,kT,kB]
       case true =>
         try simp only [↓aX,mX,reduceCtorEq,Nat.reduceEqDiff,Nat.reduceLT,Nat.reduceLeDiff,Nat.reduceAdd,Nat.reduceMul,Int.reduceToNat,Int.reduceLE,Int.reduceLT,h1,h2,h3,h4,tQ,Int.reduceBEq,Int.reduceBNe]
         simp_all [wrongF,kC,kN,kT,kB]
set_option maxHeartbeats 1600000 in
theorem pWrong5 {P : Program} {G : Nat → Option (List IV)} {f_change_wrong f_tree_Content f_tree_Named f_tree_Plain : Nat} (hF : compF P G f_change_wrong = some (107,[(none,4)],(c_change_wrong f_tree_Content f_tree_Named f_tree_Plain).bare)) (x : Node) (ta : Int) (co : List Tree) (na st : Bs)
   (hC : PureC P G f_tree_Content [.list (ivT co)] (.bool (content co))) (hN : PureC P G f_tree_Named [.str na] (.bool (named na))) (hP : PureC P G f_tree_Plain [.str st] (.bool (plain st))) :
   PureC P G f_change_wrong [x.av,(⟨5,ta,co,na,st⟩ : Op).av] (.int .i64 (wrongF x ⟨5,ta,co,na,st⟩)) := by
 refine pure_of_go hF (by simp) (by simp [lbss,AV.lbs,Op.av,Node.av]) (by simp [AV.lbs]) ?_
 unfold c_change_wrong
 simp only [↓aX,mX,reduceCtorEq,Nat.reduceEqDiff,Nat.reduceLT,Nat.reduceLeDiff,Nat.reduceAdd,Nat.reduceMul,Int.reduceToNat,Int.reduceLE,Int.reduceLT,Op.av,Node.av,List.length_cons,List.length_nil,Int.reduceBEq,Int.reduceBNe,Int.reduceLE,Int.reduceLT,decide_true,decide_false,ge_iff_le,gt_iff_lt,Bool.not_true,Bool.not_false,ivT_len]
 clear hF
 cases h1 : decide ((0:Int) < (co.length : Int))
 case false =>
   try simp only [↓aX,mX,reduceCtorEq,Nat.reduceEqDiff,Nat.reduceLT,Nat.reduceLeDiff,Nat.reduceAdd,Nat.reduceMul,Int.reduceToNat,Int.reduceLE,Int.reduceLT,h1,tQ,Int.reduceBEq,Int.reduceBNe]
   cases h2 : (na == [])
   case false =>
     try simp only [↓aX,mX,reduceCtorEq,Nat.reduceEqDiff,Nat.reduceLT,Nat.reduceLeDiff,Nat.reduceAdd,Nat.reduceMul,Int.reduceToNat,Int.reduceLE,Int.reduceLT,h1,h2,tQ,Int.reduceBEq,Int.reduceBNe]
     simp_all [wrongF,kC,kN,kT,kB]
   case true =>
     try simp only [↓aX,mX,reduceCtorEq,Nat.reduceEqDiff,Nat.reduceLT,Nat.reduceLeDiff,Nat.reduceAdd,Nat.reduceMul,Int.reduceToNat,Int.reduceLE,Int.reduceLT,h1,h2,tQ,Int.reduceBEq,Int.reduceBNe]
     cases h3 : (st == [])
     case false =>
       try simp only [↓aX,mX,reduceCtorEq,Nat.reduceEqDiff,Nat.reduceLT,Nat.reduceLeDiff,Nat.reduceAdd,Nat.reduceMul,Int.reduceToNat,Int.reduceLE,Int.reduceLT,h1,h2,h3,tQ,Int.reduceBEq,Int.reduceBNe]
       simp_all [wrongF,kC,kN,kT,kB]
     case true =>
       try simp only [↓aX,mX,reduceCtorEq,Nat.reduceEqDiff,Nat.reduceLT,Nat.reduceLeDiff,Nat.reduceAdd,Nat.reduceMul,Int.reduceToNat,Int.reduceLE,Int.reduceLT,h1,h2,h3,tQ,Int.reduceBEq,Int.reduceBNe]
       cases h4 : decide (x.parent < 0)
       case false =>
         try simp only [↓aX,mX,reduceCtorEq,Nat.reduceEqDiff,Nat.reduceLT,Nat.reduceLeDiff,Nat.reduceAdd,Nat.reduceMul,Int.reduceToNat,Int.reduceLE,Int.reduceLT,h1,h2,h3,h4,tQ,Int.reduceBEq,Int.reduceBNe]
         cases h5 : x.text
         case false =>
           try simp only [↓aX,mX,reduceCtorEq,Nat.reduceEqDiff,Nat.reduceLT,Nat.reduceLeDiff,Nat.reduceAdd,Nat.reduceMul,Int.reduceToNat,Int.reduceLE,Int.reduceLT,h1,h2,h3,h4,h5,tQ,Int.reduceBEq,Int.reduceBNe]
           simp_all [wrongF,kC,kN,kT,kB]
         case true =>
           try simp only [↓aX,mX,reduceCtorEq,Nat.reduceEqDiff,Nat.reduceLT,Nat.reduceLeDiff,Nat.reduceAdd,Nat.reduceMul,Int.reduceToNat,Int.reduceLE,Int.reduceLT,h1,h2,h3,h4,h5,tQ,Int.reduceBEq,Int.reduceBNe]
           simp_all [wrongF,kC,kN,kT,kB]
       case true =>
         try simp only [↓aX,mX,reduceCtorEq,Nat.reduceEqDiff,Nat.reduceLT,Nat.reduceLeDiff,Nat.reduceAdd,Nat.reduceMul,Int.reduceToNat,Int.reduceLE,Int.reduceLT,h1,h2,h3,h4,tQ,Int.reduceBEq,Int.reduceBNe]
         simp_all [wrongF,kC,kN,kT,kB]
 case true =>
   try simp only [↓aX,mX,reduceCtorEq,Nat.reduceEqDiff,Nat.reduceLT,Nat.reduceLeDiff,Nat.reduceAdd,Nat.reduceMul,Int.reduceToNat,Int.reduceLE,Int.reduceLT,h1,tQ,Int.reduceBEq,Int.reduceBNe]
   simp_all [wrongF,kC,kN,kT,kB]
set_option maxHeartbeats 1600000 in
theorem pWrong6 {P : Program} {G : Nat → Option (List IV)} {f_change_wrong f_tree_Content f_tree_Named f_tree_Plain : Nat} (hF : compF P G f_change_wrong = some (107,[(none,4)],(c_change_wrong f_tree_Content f_tree_Named f_tree_Plain).bare)) (x : Node) (ta : Int) (co : List Tree) (na st : Bs)
   (hC : PureC P G f_tree_Content [.list (ivT co)] (.bool (content co))) (hN : PureC P G f_tree_Named [.str na] (.bool (named na))) (hP : PureC P G f_tree_Plain [.str st] (.bool (plain st))) :
   PureC P G f_change_wrong [x.av,(⟨6,ta,co,na,st⟩ : Op).av] (.int .i64 (wrongF x ⟨6,ta,co,na,st⟩)) := by
 refine pure_of_go hF (by simp) (by simp [lbss,AV.lbs,Op.av,Node.av]) (by simp [AV.lbs]) ?_
 unfold c_change_wrong
 simp only [↓aX,mX,reduceCtorEq,Nat.reduceEqDiff,Nat.reduceLT,Nat.reduceLeDiff,Nat.reduceAdd,Nat.reduceMul,Int.reduceToNat,Int.reduceLE,Int.reduceLT,Op.av,Node.av,List.length_cons,List.length_nil,Int.reduceBEq,Int.reduceBNe,Int.reduceLE,Int.reduceLT,decide_true,decide_false,ge_iff_le,gt_iff_lt,Bool.not_true,Bool.not_false,ivT_len]
 clear hF
 refine callT_pure hC ?_
 simp only [↓aX,mX,reduceCtorEq,Nat.reduceEqDiff,Nat.reduceLT,Nat.reduceLeDiff,Nat.reduceAdd,Nat.reduceMul,Int.reduceToNat,Int.reduceLE,Int.reduceLT,tQ,Int.reduceBEq,Int.reduceBNe]
 cases h1 : content co
 case false =>
   try simp only [↓aX,mX,reduceCtorEq,Nat.reduceEqDiff,Nat.reduceLT,Nat.reduceLeDiff,Nat.reduceAdd,Nat.reduceMul,Int.reduceToNat,Int.reduceLE,Int.reduceLT,h1,tQ,Int.reduceBEq,Int.reduceBNe]
   simp_all [wrongF,kC,kN,kT,kB]
 case true =>
   try simp only [↓aX,mX,reduceCtorEq,Nat.reduceEqDiff,Nat.reduceLT,Nat.reduceLeDiff,Nat.reduceAdd,Nat.reduceMul,Int.reduceToNat,Int.reduceLE,Int.reduceLT,h1,tQ,Int.reduceBEq,Int.reduceBNe]
   cases h2 : (na == [])
   case false =>
     try simp only [↓aX,mX,reduceCtorEq,Nat.reduceEqDiff,Nat.reduceLT,Nat.reduceLeDiff,Nat.reduceAdd,Nat.reduceMul,Int.reduceToNat,Int.reduceLE,Int.reduceLT,h1,h2,tQ,Int.reduceBEq,Int.reduceBNe]
     simp_all [wrongF,kC,kN,kT,kB]
   case true =>
     try simp only [↓aX,mX,reduceCtorEq,Nat.reduceEqDiff,Nat.reduceLT,Nat.reduceLeDiff,Nat.reduceAdd,Nat.reduceMul,Int.reduceToNat,Int.reduceLE,Int.reduceLT,h1,h2,tQ,Int.reduceBEq,Int.reduceBNe]
     cases h3 : (st == [])
     case false =>
       try simp only [↓aX,mX,reduceCtorEq,Nat.reduceEqDiff,Nat.reduceLT,Nat.reduceLeDiff,Nat.reduceAdd,Nat.reduceMul,Int.reduceToNat,Int.reduceLE,Int.reduceLT,h1,h2,h3,tQ,Int.reduceBEq,Int.reduceBNe]
       simp_all [wrongF,kC,kN,kT,kB]
     case true =>
       try simp only [↓aX,mX,reduceCtorEq,Nat.reduceEqDiff,Nat.reduceLT,Nat.reduceLeDiff,Nat.reduceAdd,Nat.reduceMul,Int.reduceToNat,Int.reduceLE,Int.reduceLT,h1,h2,h3,tQ,Int.reduceBEq,Int.reduceBNe]
       cases h4 : decide (x.parent < 0)
       case false =>
         try simp only [↓aX,mX,reduceCtorEq,Nat.reduceEqDiff,Nat.reduceLT,Nat.reduceLeDiff,Nat.reduceAdd,Nat.reduceMul,Int.reduceToNat,Int.reduceLE,Int.reduceLT,h1,h2,h3,h4,tQ,Int.reduceBEq,Int.reduceBNe]
         cases h5 : x.text
         case false =>
           try simp only [↓aX,mX,reduceCtorEq,Nat.reduceEqDiff,Nat.reduceLT,Nat.reduceLeDiff,Nat.reduceAdd,Nat.reduceMul,Int.reduceToNat,Int.reduceLE,Int.reduceLT,h1,h2,h3,h4,h5,tQ,Int.reduceBEq,Int.reduceBNe]
           simp_all [wrongF,kC,kN,kT,kB]
         case true =>
           try simp only [↓aX,mX,reduceCtorEq,Nat.reduceEqDiff,Nat.reduceLT,Nat.reduceLeDiff,Nat.reduceAdd,Nat.reduceMul,Int.reduceToNat,Int.reduceLE,Int.reduceLT,h1,h2,h3,h4,h5,tQ,Int.reduceBEq,Int.reduceBNe]
           simp_all [wrongF,kC,kN,kT,kB]
       case true =>
         try simp only [↓aX,mX,reduceCtorEq,Nat.reduceEqDiff,Nat.reduceLT,Nat.reduceLeDiff,Nat.reduceAdd,Nat.reduceMul,Int.reduceToNat,Int.reduceLE,Int.reduceLT,h1,h2,h3,h4,tQ,Int.reduceBEq,Int.reduceBNe]
         simp_all [wrongF,kC,kN,kT,kB]
set_option maxHeartbeats 1600000 in
theorem pWrong7 {P : Program} {G : Nat → Option (List IV)} {f_change_wrong f_tree_Content f_tree_Named f_tree_Plain : Nat} (hF : compF P G f_change_wrong = some (107,[(none,4)],(c_change_wrong f_tree_Content f_tree_Named f_tree_Plain).bare)) (x : Node) (ta : Int) (co : List Tree) (na st : Bs)
   (hC : PureC P G f_tree_Content [.list (ivT co)] (.bool (content co))) (hN : PureC P G f_tree_Named [.str na] (.bool (named na))) (hP : PureC P G f_tree_Plain [.str st] (.bool (plain st))) :
   PureC P G f_change_wrong [x.av,(⟨7,ta,co,na,st⟩ : Op).av] (.int .i64 (wrongF x ⟨7,ta,co,na,st⟩)) := by
 refine pure_of_go hF (by simp) (by simp [lbss,AV.lbs,Op.av,Node.av]) (by simp [AV.lbs]) ?_
 unfold c_change_wrong
 simp only [↓aX,mX,reduceCtorEq,Nat.reduceEqDiff,Nat.reduceLT,Nat.reduceLeDiff,Nat.reduceAdd,Nat.reduceMul,Int.reduceToNat,Int.reduceLE,Int.reduceLT,Op.av,Node.av,List.length_cons,List.length_nil,Int.reduceBEq,Int.reduceBNe,Int.reduceLE,Int.reduceLT,decide_true,decide_false,ge_iff_le,gt_iff_lt,Bool.not_true,Bool.not_false,ivT_len]
 clear hF
 cases h1 : decide ((0:Int) < (co.length : Int))
 case false =>
   try simp only [↓aX,mX,reduceCtorEq,Nat.reduceEqDiff,Nat.reduceLT,Nat.reduceLeDiff,Nat.reduceAdd,Nat.reduceMul,Int.reduceToNat,Int.reduceLE,Int.reduceLT,h1,tQ,Int.reduceBEq,Int.reduceBNe]
   cases h2 : (na == [])
   case false =>
     try simp only [↓aX,mX,reduceCtorEq,Nat.reduceEqDiff,Nat.reduceLT,Nat.reduceLeDiff,Nat.reduceAdd,Nat.reduceMul,Int.reduceToNat,Int.reduceLE,Int.reduceLT,h1,h2,tQ,Int.reduceBEq,Int.reduceBNe]
     simp_all [wrongF,kC,kN,kT,kB]
   case true =>
     try simp only [↓aX,mX,reduceCtorEq,Nat.reduceEqDiff,Nat.reduceLT,Nat.reduceLeDiff,Nat.reduceAdd,Nat.reduceMul,Int.reduceToNat,Int.reduceLE,Int.reduceLT,h1,h2,tQ,Int.reduceBEq,Int.reduceBNe]
     refine callT_pure hP ?_
     simp only [↓aX,mX,reduceCtorEq,Nat.reduceEqDiff,Nat.reduceLT,Nat.reduceLeDiff,Nat.reduceAdd,Nat.reduceMul,Int.reduceToNat,Int.reduceLE,Int.reduceLT,h1,h2,tQ,Int.reduceBEq,Int.reduceBNe]
     cases h3 : plain st
     case false =>
       try simp only [↓aX,mX,reduceCtorEq,Nat.reduceEqDiff,Nat.reduceLT,Nat.reduceLeDiff,Nat.reduceAdd,Nat.reduceMul,Int.reduceToNat,Int.reduceLE,Int.reduceLT,h1,h2,h3,tQ,Int.reduceBEq,Int.reduceBNe]
       simp_all [wrongF,kC,kN,kT,kB]
     case true =>
       try simp only [↓aX,mX,reduceCtorEq,Nat.reduceEqDiff,Nat.reduceLT,Nat.reduceLeDiff,Nat.reduceAdd,Nat.reduceMul,Int.reduceToNat,Int.reduceLE,Int.reduceLT,h1,h2,h3,tQ,Int.reduceBEq,Int.reduceBNe]
       cases h5 : x.text
       case false =>
         try simp only [↓aX,mX,reduceCtorEq,Nat.reduceEqDiff,Nat.reduceLT,Nat.reduceLeDiff,Nat.reduceAdd,Nat.reduceMul,Int.reduceToNat,Int.reduceLE,Int.reduceLT,h1,h2,h3,h5,tQ,Int.reduceBEq,Int.reduceBNe]
         simp_all [wrongF,kC,kN,kT,kB]
       case true =>
         try simp only [↓aX,mX,reduceCtorEq,Nat.reduceEqDiff,Nat.reduceLT,Nat.reduceLeDiff,Nat.reduceAdd,Nat.reduceMul,Int.reduceToNat,Int.reduceLE,Int.reduceLT,h1,h2,h3,h5,tQ,Int.reduceBEq,Int.reduceBNe]
         simp_all [wrongF,kC,kN,kT,kB]
 case true =>
   try simp only [↓aX,mX,reduceCtorEq,Nat.reduceEqDiff,Nat.reduceLT,Nat.reduceLeDiff,Nat.reduceAdd,Nat.reduceMul,Int.reduceToNat,Int.reduceLE,Int.reduceLT,h1,tQ,Int.reduceBEq,Int.reduceBNe]
   simp_all [wrongF,kC,kN,kT,kB]
set_option maxHeartbeats 1600000 in
theorem pWrong8 {P : Program} {G : Nat → Option (List IV)} {f_change_wrong f_tree_Content f_tree_Named f_tree_Plain : Nat} (hF : compF P G f_change_wrong = some (107,[(none,4)],(c_change_wrong f_tree_Content f_tree_Named f_tree_Plain).bare)) (x : Node) (ta : Int) (co : List Tree) (na st : Bs)
   (hC : PureC P G f_tree_Content [.list (ivT co)] (.bool (content co))) (hN : PureC P G f_tree_Named [.str na] (.bool (named na))) (hP : PureC P G f_tree_Plain [.str st] (.bool (plain st))) :
   PureC P G f_change_wrong [x.av,(⟨8,ta,co,na,st⟩ : Op).av] (.int .i64 (wrongF x ⟨8,ta,co,na,st⟩)) := by
 refine pure_of_go hF (by simp) (by simp [lbss,AV.lbs,Op.av,Node.av]) (by simp [AV.lbs]) ?_
 unfold c_change_wrong
 simp only [↓aX,mX,reduceCtorEq,Nat.reduceEqDiff,Nat.reduceLT,Nat.reduceLeDiff,Nat.reduceAdd,Nat.reduceMul,Int.reduceToNat,Int.reduceLE,Int.reduceLT,Op.av,Node.av,List.length_cons,List.length_nil,Int.reduceBEq,Int.reduceBNe,Int.reduceLE,Int.reduceLT,decide_true,decide_false,ge_iff_le,gt_iff_lt,Bool.not_true,Bool.not_false,ivT_len]
 clear hF
 cases h1 : decide ((0:Int) < (co.length : Int))
 case false =>
   try simp only [↓aX,mX,reduceCtorEq,Nat.reduceEqDiff,Nat.reduceLT,Nat.reduceLeDiff,Nat.reduceAdd,Nat.reduceMul,Int.reduceToNat,Int.reduceLE,Int.reduceLT,h1,tQ,Int.reduceBEq,Int.reduceBNe]
   refine callT_pure hN ?_
   simp only [↓aX,mX,reduceCtorEq,Nat.reduceEqDiff,Nat.reduceLT,Nat.reduceLeDiff,Nat.reduceAdd,Nat.reduceMul,Int.reduceToNat,Int.reduceLE,Int.reduceLT,h1,tQ,Int.reduceBEq,Int.reduceBNe]
   cases h2 : named na
   case false =>
     try simp only [↓aX,mX,reduceCtorEq,Nat.reduceEqDiff,Nat.reduceLT,Nat.reduceLeDiff,Nat.reduceAdd,Nat.reduceMul,Int.reduceToNat,Int.reduceLE,Int.reduceLT,h1,h2,tQ,Int.reduceBEq,Int.reduceBNe]
     simp_all [wrongF,kC,kN,kT,kB]
   case true =>
     try simp only [↓aX,mX,reduceCtorEq,Nat.reduceEqDiff,Nat.reduceLT,Nat.reduceLeDiff,Nat.reduceAdd,Nat.reduceMul,Int.reduceToNat,Int.reduceLE,Int.reduceLT,h1,h2,tQ,Int.reduceBEq,Int.reduceBNe]
     cases h3 : (st == [])
     case false =>
       try simp only [↓aX,mX,reduceCtorEq,Nat.reduceEqDiff,Nat.reduceLT,Nat.reduceLeDiff,Nat.reduceAdd,Nat.reduceMul,Int.reduceToNat,Int.reduceLE,Int.reduceLT,h1,h2,h3,tQ,Int.reduceBEq,Int.reduceBNe]
       simp_all [wrongF,kC,kN,kT,kB]
     case true =>
       try simp only [↓aX,mX,reduceCtorEq,Nat.reduceEqDiff,Nat.reduceLT,Nat.reduceLeDiff,Nat.reduceAdd,Nat.reduceMul,Int.reduceToNat,Int.reduceLE,Int.reduceLT,h1,h2,h3,tQ,Int.reduceBEq,Int.reduceBNe]
       cases h5 : x.text
       case false =>
         try simp only [↓aX,mX,reduceCtorEq,Nat.reduceEqDiff,Nat.reduceLT,Nat.reduceLeDiff,Nat.reduceAdd,Nat.reduceMul,Int.reduceToNat,Int.reduceLE,Int.reduceLT,h1,h2,h3,h5,tQ,Int.reduceBEq,Int.reduceBNe]
         simp_all [wrongF,kC,kN,kT,kB]
       case true =>
         try simp only [↓aX,mX,reduceCtorEq,Nat.reduceEqDiff,Nat.reduceLT,Nat.reduceLeDiff,Nat.reduceAdd,Nat.reduceMul,Int.reduceToNat,Int.reduceLE,Int.reduceLT,h1,h2,h3,h5,tQ,Int.reduceBEq,Int.reduceBNe]
         simp_all [wrongF,kC,kN,kT,kB]
 case true =>
   try simp only [↓aX,mX,reduceCtorEq,Nat.reduceEqDiff,Nat.reduceLT,Nat.reduceLeDiff,Nat.reduceAdd,Nat.reduceMul,Int.reduceToNat,Int.reduceLE,Int.reduceLT,h1,tQ,Int.reduceBEq,Int.reduceBNe]
   simp_all [wrongF,kC,kN,kT,kB]
set_option maxHeartbeats 1600000 in
theorem pWrong9 {P : Program} {G : Nat → Option (List IV)} {f_change_wrong f_tree_Content f_tree_Named f_tree_Plain : Nat} (hF : compF P G f_change_wrong = some (107,[(none,4)],(c_change_wrong f_tree_Content f_tree_Named f_tree_Plain).bare)) (x : Node) (ta : Int) (co : List Tree) (na st : Bs)
   (hC : PureC P G f_tree_Content [.list (ivT co)] (.bool (content co))) (hN : PureC P G f_tree_Named [.str na] (.bool (named na))) (hP : PureC P G f_tree_Plain [.str st] (.bool (plain st))) :
   PureC P G f_change_wrong [x.av,(⟨9,ta,co,na,st⟩ : Op).av] (.int .i64 (wrongF x ⟨9,ta,co,na,st⟩)) := by
 refine pure_of_go hF (by simp) (by simp [lbss,AV.lbs,Op.av,Node.av]) (by simp [AV.lbs]) ?_
 unfold c_change_wrong
 simp only [↓aX,mX,reduceCtorEq,Nat.reduceEqDiff,Nat.reduceLT,Nat.reduceLeDiff,Nat.reduceAdd,Nat.reduceMul,Int.reduceToNat,Int.reduceLE,Int.reduceLT,Op.av,Node.av,List.length_cons,List.length_nil,Int.reduceBEq,Int.reduceBNe,Int.reduceLE,Int.reduceLT,decide_true,decide_false,ge_iff_le,gt_iff_lt,Bool.not_true,Bool.not_false,ivT_len]
 clear hF
 cases h1 : decide ((0:Int) < (co.length : Int))
 case false =>
   try simp only [↓aX,mX,reduceCtorEq,Nat.reduceEqDiff,Nat.reduceLT,Nat.reduceLeDiff,Nat.reduceAdd,Nat.reduceMul,Int.reduceToNat,Int.reduceLE,Int.reduceLT,h1,tQ,Int.reduceBEq,Int.reduceBNe]
   refine callT_pure hN ?_
   simp only [↓aX,mX,reduceCtorEq,Nat.reduceEqDiff,Nat.reduceLT,Nat.reduceLeDiff,Nat.reduceAdd,Nat.reduceMul,Int.reduceToNat,Int.reduceLE,Int.reduceLT,h1,tQ,Int.reduceBEq,Int.reduceBNe]
   cases h2 : named na
   case false =>
     try simp only [↓aX,mX,reduceCtorEq,Nat.reduceEqDiff,Nat.reduceLT,Nat.reduceLeDiff,Nat.reduceAdd,Nat.reduceMul,Int.reduceToNat,Int.reduceLE,Int.reduceLT,h1,h2,tQ,Int.reduceBEq,Int.reduceBNe]
     simp_all [wrongF,kC,kN,kT,kB]
   case true =>
     try simp only [↓aX,mX,reduceCtorEq,Nat.reduceEqDiff,Nat.reduceLT,Nat.reduceLeDiff,Nat.reduceAdd,Nat.reduceMul,Int.reduceToNat,Int.reduceLE,Int.reduceLT,h1,h2,tQ,Int.reduceBEq,Int.reduceBNe]
     refine callT_pure hP ?_
     simp only [↓aX,mX,reduceCtorEq,Nat.reduceEqDiff,Nat.reduceLT,Nat.reduceLeDiff,Nat.reduceAdd,Nat.reduceMul,Int.reduceToNat,Int.reduceLE,Int.reduceLT,h1,h2,tQ,Int.reduceBEq,Int.reduceBNe]
     cases h3 : plain st
     case false =>
       try simp only [↓aX,mX,reduceCtorEq,Nat.reduceEqDiff,Nat.reduceLT,Nat.reduceLeDiff,Nat.reduceAdd,Nat.reduceMul,Int.reduceToNat,Int.reduceLE,Int.reduceLT,h1,h2,h3,tQ,Int.reduceBEq,Int.reduceBNe]
       simp_all [wrongF,kC,kN,kT,kB]
     case true =>
       try simp only [↓aX,mX,reduceCtorEq,Nat.reduceEqDiff,Nat.reduceLT,Nat.reduceLeDiff,Nat.reduceAdd,Nat.reduceMul,Int.reduceToNat,Int.reduceLE,Int.reduceLT,h1,h2,h3,tQ,Int.reduceBEq,Int.reduceBNe]
       cases h5 : x.text
       case false =>
         try simp only [↓aX,mX,reduceCtorEq,Nat.reduceEqDiff,Nat.reduceLT,Nat.reduceLeDiff,Nat.reduceAdd,Nat.reduceMul,Int.reduceToNat,Int.reduceLE,Int.reduceLT,h1,h2,h3,h5,tQ,Int.reduceBEq,Int.reduceBNe]
         simp_all [wrongF,kC,kN,kT,kB]
       case true =>
         try simp only [↓aX,mX,reduceCtorEq,Nat.reduceEqDiff,Nat.reduceLT,Nat.reduceLeDiff,Nat.reduceAdd,Nat.reduceMul,Int.reduceToNat,Int.reduceLE,Int.reduceLT,h1,h2,h3,h5,tQ,Int.reduceBEq,Int.reduceBNe]
         simp_all [wrongF,kC,kN,kT,kB]
 case true =>
   try simp only [↓aX,mX,reduceCtorEq,Nat.reduceEqDiff,Nat.reduceLT,Nat.reduceLeDiff,Nat.reduceAdd,Nat.reduceMul,Int.reduceToNat,Int.reduceLE,Int.reduceLT,h1,tQ,Int.reduceBEq,Int.reduceBNe]
   simp_all [wrongF,kC,kN,kT,kB]
set_option maxHeartbeats 1600000 in
theorem pWrong10 {P : Program} {G : Nat → Option (List IV)} {f_change_wrong f_tree_Content f_tree_Named f_tree_Plain : Nat} (hF : compF P G f_change_wrong = some (107,[(none,4)],(c_change_wrong f_tree_Content f_tree_Named f_tree_Plain).bare)) (x : Node) (ta : Int) (co : List Tree) (na st : Bs)
   (hC : PureC P G f_tree_Content [.list (ivT co)] (.bool (content co))) (hN : PureC P G f_tree_Named [.str na] (.bool (named na))) (hP : PureC P G f_tree_Plain [.str st] (.bool (plain st))) :
   PureC P G f_change_wrong [x.av,(⟨10,ta,co,na,st⟩ : Op).av] (.int .i64 (wrongF x ⟨10,ta,co,na,st⟩)) := by
 refine pure_of_go hF (by simp) (by simp [lbss,AV.lbs,Op.av,Node.av]) (by simp [AV.lbs]) ?_
 unfold c_change_wrong
 simp only [↓aX,mX,reduceCtorEq,Nat.reduceEqDiff,Nat.reduceLT,Nat.reduceLeDiff,Nat.reduceAdd,Nat.reduceMul,Int.reduceToNat,Int.reduceLE,Int.reduceLT,Op.av,Node.av,List.length_cons,List.length_nil,Int.reduceBEq,Int.reduceBNe,Int.reduceLE,Int.reduceLT,decide_true,decide_false,ge_iff_le,gt_iff_lt,Bool.not_true,Bool.not_false,ivT_len]
 clear hF
 cases h1 : decide ((0:Int) < (co.length : Int))
 case false =>
   try simp only [↓aX,mX,reduceCtorEq,Nat.reduceEqDiff,Nat.reduceLT,Nat.reduceLeDiff,Nat.reduceAdd,Nat.reduceMul,Int.reduceToNat,Int.reduceLE,Int.reduceLT,h1,tQ,Int.reduceBEq,Int.reduceBNe]
   refine callT_pure hN ?_
   simp only [↓aX,mX,reduceCtorEq,Nat.reduceEqDiff,Nat.reduceLT,Nat.reduceLeDiff,Nat.reduceAdd,Nat.reduceMul,Int.reduceToNat,Int.reduceLE,Int.reduceLT,h1,tQ,Int.reduceBEq,Int.reduceBNe]
   cases h2 : named na
   case false =>
     try simp only [↓aX,mX,reduceCtorEq,Nat.reduceEqDiff,Nat.reduceLT,Nat.reduceLeDiff,Nat.reduceAdd,Nat.reduceMul,Int.reduceToNat,Int.reduceLE,Int.reduceLT,h1,h2,tQ,Int.reduceBEq,Int.reduceBNe]
     simp_all [wrongF,kC,kN,kT,kB]
   case true =>
     try simp only [↓aX,mX,reduceCtorEq,Nat.reduceEqDiff,Nat.reduceLT,Nat.reduceLeDiff,Nat.reduceAdd,Nat.reduceMul,Int.reduceToNat,Int.reduceLE,Int.reduceLT,h1,h2,tQ,Int.reduceBEq,Int.reduceBNe]
     cases h3 : (st == [])
     case false =>
       try simp only [↓aX,mX,reduceCtorEq,Nat.reduceEqDiff,Nat.reduceLT,Nat.reduceLeDiff,Nat.reduceAdd,Nat.reduceMul,Int.reduceToNat,Int.reduceLE,Int.reduceLT,h1,h2,h3,tQ,Int.reduceBEq,Int.reduceBNe]
       simp_all [wrongF,kC,kN,kT,kB]
     case true =>
       try simp only [↓aX,mX,reduceCtorEq,Nat.reduceEqDiff,Nat.reduceLT,Nat.reduceLeDiff,Nat.reduceAdd,Nat.reduceMul,Int.reduceToNat,Int.reduceLE,Int.reduceLT,h1,h2,h3,tQ,Int.reduceBEq,Int.reduceBNe]
       cases h5 : x.text
       case false =>
         try simp only [↓aX,mX,reduceCtorEq,Nat.reduceEqDiff,Nat.reduceLT,Nat.reduceLeDiff,Nat.reduceAdd,Nat.reduceMul,Int.reduceToNat,Int.reduceLE,Int.reduceLT,h1,h2,h3,h5,tQ,Int.reduceBEq,Int.reduceBNe]
         simp_all [wrongF,kC,kN,kT,kB]
       case true =>
         try simp only [↓aX,mX,reduceCtorEq,Nat.reduceEqDiff,Nat.reduceLT,Nat.reduceLeDiff,Nat.reduceAdd,Nat.reduceMul,Int.reduceToNat,Int.reduceLE,Int.reduceLT,h1,h2,h3,h5,tQ,Int.reduceBEq,Int.reduceBNe]
         simp_all [wrongF,kC,kN,kT,kB]
 case true =>
   try simp only [↓aX,mX,reduceCtorEq,Nat.reduceEqDiff,Nat.reduceLT,Nat.reduceLeDiff,Nat.reduceAdd,Nat.reduceMul,Int.reduceToNat,Int.reduceLE,Int.reduceLT,h1,tQ,Int.reduceBEq,Int.reduceBNe]
   simp_all [wrongF,kC,kN,kT,kB]
theorem pWrong {P : Program} {G : Nat → Option (List IV)} {f_change_wrong f_tree_Content f_tree_Named f_tree_Plain : Nat} (hF : compF P G f_change_wrong = some (107,[(none,4)],(c_change_wrong f_tree_Content f_tree_Named f_tree_Plain).bare)) (x : Node) (o : Op) (h1 : 1 ≤ o.kind) (h2 : o.kind ≤ 10)
   (hC : PureC P G f_tree_Content [.list (ivT o.content)] (.bool (content o.content))) (hN : PureC P G f_tree_Named [.str o.name] (.bool (named o.name))) (hP : PureC P G f_tree_Plain [.str o.s] (.bool (plain o.s))) :
   PureC P G f_change_wrong [x.av,o.av] (.int .i64 (wrongF x o)) := by
 obtain ⟨k,ta,co,na,st⟩ := o
 simp only at h1 h2 hC hN hP
 have h : k = 1 ∨ k = 2 ∨ k = 3 ∨ k = 4 ∨ k = 5 ∨ k = 6 ∨ k = 7 ∨ k = 8 ∨ k = 9 ∨ k = 10 := by omega
 rcases h with rfl | rfl | rfl | rfl | rfl | rfl | rfl | rfl | rfl | rfl
 · exact pWrong1 hF x ta co na st hC hN hP
 · exact pWrong2 hF x ta co na st hC hN hP
 · exact pWrong3 hF x ta co na st hC hN hP
 · exact pWrong4 hF x ta co na st hC hN hP
 · exact pWrong5 hF x ta co na st hC hN hP
 · exact pWrong6 hF x ta co na st hC hN hP
 · exact pWrong7 hF x ta co na st hC hN hP
 · exact pWrong8 hF x ta co na st hC hN hP
 · exact pWrong9 hF x ta co na st hC hN hP
 · exact pWrong10 hF x ta co na st hC hN hP
end Go.Am

/- THE ABSTRACT MACHINE, part 51: a struct behind a pointer becomes data. -/
namespace Go.Am
open Go Go.RowKit
section
variable {K : Kx} {β : Lb → Option Nat} {env : Env} {H : Hp} {a : Act} {w : World}
theorem frzp_rv (hr : RelB K β env H a w) {l : Lb} {sz : Nat} {y : IV} {v : Value} (hl : H l = .live ⟨sz,immE [y]⟩) (hf : l.fresh = true) (hfl : Flat [y])
   (hv : RV w β H (Im K β H) (.ptr l sz 0 0) v) : RV w β (upd H l .dead) (Im K β (upd H l .dead)) (.lptr y.cells) v := by
 have hlive : ∀ q,live (upd H l .dead) q → live H q ∧ q ≠ l := by
   rintro q ⟨r,h⟩
   by_cases e : q = l
   · subst e; simp at h
   · rw [upd_ne _ _ e] at h; exact ⟨⟨r,h⟩,e⟩
 have hk : Keeps w w (Im K β H) (Im K β (upd H l .dead)) := ⟨fun k hk hs => ⟨⟨hk.1,fun q hq => hk.2 q (hlive q hq).1⟩,hs,rfl⟩⟩
 simp only [RV] at hv
 obtain ⟨ad,rfl,h5⟩ := hv
 obtain ⟨g,e1,e2⟩ := h5 ⟨_,hl⟩
 simp only [Nat.zero_mul,Nat.add_zero] at e2
 obtain ⟨cur,e0,cap,k1,k2,k3,k4,k5⟩ := (hr.rows l _ hl).block e1
 have him : Im K β (upd H l .dead) g := ⟨.inr (hr.fr l g ⟨_,hl⟩ hf e1),fun q hq hb => (hlive q hq).2 (hr.inj q l g (hlive q hq).1 ⟨_,hl⟩ hb e1)⟩
 simp only [RV]
 refine ⟨g,0,by rw [e2],him,(Array.getElem?_eq_some_iff.1 k1).1,CellsR_of _ _ _ (fun j z hz => ?_)⟩
 obtain ⟨u,q1,q2⟩ := k5 0 j (y.cells.map IV.av1) z.av1 (by simp [immE]) (by simp [hz])
 refine ⟨u,?_,RV_av1 hk (hfl y (by simp) z (List.mem_of_getElem? hz)) q2⟩
 rw [cell_of_row w g _ cur e0 (0,0) k1,← q1]
 congr 1
 omega
end
theorem weaker_frzp {S : St} {env : Env} {H : Hp} {l : Lb} {sz d : Nat} {y : IV} (hd : env d = .ptr l sz 0 0) (hl : H l = .live ⟨sz,immE [y]⟩) (hf : l.fresh = true) (hfl : Flat [y]) :
   Weaker S env H (put env d (.lptr y.cells)) (upd H l .dead) := by
 intro K β a w _ _ hr
 have hv := hr.regs d
 rw [hd] at hv
 exact ⟨β,setSlot (hr.kill l (by rw [hl]; simp)) d (frzp_rv hr hl hf hfl hv) (by simp [AV.lbs])⟩
end Go.Am
