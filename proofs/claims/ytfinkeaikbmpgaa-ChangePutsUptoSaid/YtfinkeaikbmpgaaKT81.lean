import Derived.Test.YtfinkeaikbmpgaaKT80
import Derived.Test.YtfinkeaikbmpgaaKT92
set_option linter.unusedSimpArgs false
set_option linter.unusedVariables false
set_option linter.unnecessarySimpa false
set_option linter.defProp false
/- Changes: what is wrong with one, as to its node. -/
namespace Go.Am
open Go Go.RowKit
def kC (k:Int):Bool:=decide (k≤4)||k==6
def kN (k:Int):Bool:=decide (8≤k)
def kT (k:Int):Bool:=k==7||k==9
def kB (k:Int):Bool:=decide (3≤k)&&decide (k≤6)
def bx (x:Node) (o:Op):Int:=
 if(if kC o.kind then !content o.content else decide ((o.content.length:Int)>0)) then 1
 else if(if kN o.kind then !named o.name else o.name !=[]) then 1
 else if(if kT o.kind then !plain o.s else o.s !=[]) then 1
 else if kB o.kind&&decide (x.parent<0) then 6
 else if x.text&&(!kB o.kind&&o.kind !=7) then 4 else 0
def tQ:=And.intro @ge_iff_le.{0} (And.intro @gt_iff_lt.{0} (And.intro decide_true (And.intro decide_false bb)))
def bA (aB aV aW:Nat):AC:=
(.seq (.aM [⟨some 2,none,.box (.t 0)⟩,⟨some 3,none,.box (.t 1)⟩,⟨some 4,none,.ak (.c (.int .i64 0))⟩]) (.seq (.aM [⟨some 9,none,.bV (.t 3) 0⟩,⟨some 10,none,.load none (.t 9)⟩,⟨some 11,none,.bin .leq (.t 10) (.c (.int .i64 4))⟩,⟨some 12,none,.ak (.t 11)⟩,⟨some 13,(some (12,false)),(.bV (.t 3) 0)⟩,⟨some 14,(some (12,false)),(.load none (.t 13))⟩,⟨some 15,(some (12,false)),(.bin .eql (.t 14) (.c (.int .i64 6)))⟩,⟨some 16,none,.pick (.t 12) (.c (.bool true)) (.t 15)⟩,⟨some 5,none,.ak (.t 16)⟩]) (.seq (.aM [⟨some 17,none,.bV (.t 3) 0⟩,⟨some 18,none,.load none (.t 17)⟩,⟨some 19,none,.bin .geq (.t 18) (.c (.int .i64 8))⟩,⟨some 6,none,.ak (.t 19)⟩]) (.seq (.aM [⟨some 20,none,.bV (.t 3) 0⟩,⟨some 21,none,.load none (.t 20)⟩,⟨some 22,none,.bin .eql (.t 21) (.c (.int .i64 7))⟩,⟨some 23,none,.ak (.t 22)⟩,⟨some 24,(some (23,false)),(.bV (.t 3) 0)⟩,⟨some 25,(some (23,false)),(.load none (.t 24))⟩,⟨some 26,(some (23,false)),(.bin .eql (.t 25) (.c (.int .i64 9)))⟩,⟨some 27,none,.pick (.t 23) (.c (.bool true)) (.t 26)⟩,⟨some 7,none,.ak (.t 27)⟩]) (.seq (.aM [⟨some 28,none,.bV (.t 3) 0⟩,⟨some 29,none,.load none (.t 28)⟩,⟨some 30,none,.bin .geq (.t 29) (.c (.int .i64 3))⟩,⟨some 31,none,.ak (.t 30)⟩,⟨some 32,(some (31,true)),(.bV (.t 3) 0)⟩,⟨some 33,(some (31,true)),(.load none (.t 32))⟩,⟨some 34,(some (31,true)),(.bin .leq (.t 33) (.c (.int .i64 6)))⟩,⟨some 35,none,.pick (.t 31) (.t 34) (.c (.bool false))⟩,⟨some 8,none,.ak (.t 35)⟩]) (.seq (.block 0 (.seq (.aM [⟨some 37,none,.ak (.t 5)⟩,⟨some 38,none,.ak (.t 37)⟩,⟨some 39,(some (38,true)),(.bV (.t 3) 2)⟩,⟨some 40,(some (38,true)),(.load none (.t 39))⟩,⟨some 41,(some (38,true)),(.call aB [(.t 40)])⟩,⟨some 42,(some (38,true)),(.not (.t 41))⟩,⟨some 43,none,.pick (.t 38) (.t 42) (.c (.bool false))⟩,⟨some 44,none,.ak (.t 43)⟩,⟨some 45,(some (44,false)),(.ak (.t 5))⟩,⟨some 46,(some (44,false)),(.not (.t 45))⟩,⟨some 47,(some (44,false)),(.ak (.t 46))⟩,⟨some 48,(some (47,true)),(.bV (.t 3) 2)⟩,⟨some 49,(some (47,true)),(.load none (.t 48))⟩,⟨some 50,(some (47,true)),(.len (.t 49))⟩,⟨some 51,(some (47,true)),(.bin .gtr (.t 50) (.c (.int .i64 0)))⟩,⟨some 52,(some (44,false)),(.pick (.t 47) (.t 51) (.c (.bool false)))⟩,⟨some 53,none,.pick (.t 44) (.c (.bool true)) (.t 52)⟩,⟨some 36,none,.ak (.t 53)⟩]) (.cond (.t 36) (.seq (.aM [⟨some 4,none,.ak (.c (.int .i64 1))⟩]) .ret) (.seq (.aM [⟨some 55,none,.ak (.t 6)⟩,⟨some 56,none,.ak (.t 55)⟩,⟨some 57,(some (56,true)),(.bV (.t 3) 3)⟩,⟨some 58,(some (56,true)),(.load none (.t 57))⟩,⟨some 59,(some (56,true)),(.call aV [(.t 58)])⟩,⟨some 60,(some (56,true)),(.not (.t 59))⟩,⟨some 61,none,.pick (.t 56) (.t 60) (.c (.bool false))⟩,⟨some 62,none,.ak (.t 61)⟩,⟨some 63,(some (62,false)),(.ak (.t 6))⟩,⟨some 64,(some (62,false)),(.not (.t 63))⟩,⟨some 65,(some (62,false)),(.ak (.t 64))⟩,⟨some 66,(some (65,true)),(.bV (.t 3) 3)⟩,⟨some 67,(some (65,true)),(.load none (.t 66))⟩,⟨some 68,(some (65,true)),(.bin .neq (.t 67) (.c (.str [])))⟩,⟨some 69,(some (62,false)),(.pick (.t 65) (.t 68) (.c (.bool false)))⟩,⟨some 70,none,.pick (.t 62) (.c (.bool true)) (.t 69)⟩,⟨some 54,none,.ak (.t 70)⟩]) (.cond (.t 54) (.seq (.aM [⟨some 4,none,.ak (.c (.int .i64 1))⟩]) .ret) (.seq (.aM [⟨some 72,none,.ak (.t 7)⟩,⟨some 73,none,.ak (.t 72)⟩,⟨some 74,(some (73,true)),(.bV (.t 3) 4)⟩,⟨some 75,(some (73,true)),(.load none (.t 74))⟩,⟨some 76,(some (73,true)),(.call aW [(.t 75)])⟩,⟨some 77,(some (73,true)),(.not (.t 76))⟩,⟨some 78,none,.pick (.t 73) (.t 77) (.c (.bool false))⟩,⟨some 79,none,.ak (.t 78)⟩,⟨some 80,(some (79,false)),(.ak (.t 7))⟩,⟨some 81,(some (79,false)),(.not (.t 80))⟩,⟨some 82,(some (79,false)),(.ak (.t 81))⟩,⟨some 83,(some (82,true)),(.bV (.t 3) 4)⟩,⟨some 84,(some (82,true)),(.load none (.t 83))⟩,⟨some 85,(some (82,true)),(.bin .neq (.t 84) (.c (.str [])))⟩,⟨some 86,(some (79,false)),(.pick (.t 82) (.t 85) (.c (.bool false)))⟩,⟨some 87,none,.pick (.t 79) (.c (.bool true)) (.t 86)⟩,⟨some 71,none,.ak (.t 87)⟩]) (.cond (.t 71) (.seq (.aM [⟨some 4,none,.ak (.c (.int .i64 1))⟩]) .ret) (.seq (.aM [⟨some 89,none,.ak (.t 8)⟩,⟨some 90,none,.ak (.t 89)⟩,⟨some 91,(some (90,true)),(.bV (.t 2) 3)⟩,⟨some 92,(some (90,true)),(.load none (.t 91))⟩,⟨some 93,(some (90,true)),(.bin .lss (.t 92) (.c (.int .i64 0)))⟩,⟨some 94,none,.pick (.t 90) (.t 93) (.c (.bool false))⟩,⟨some 88,none,.ak (.t 94)⟩]) (.cond (.t 88) (.seq (.aM [⟨some 4,none,.ak (.c (.int .i64 6))⟩]) .ret) (.seq (.aM [⟨some 96,none,.bV (.t 2) 0⟩,⟨some 97,none,.load none (.t 96)⟩,⟨some 98,none,.ak (.t 97)⟩,⟨some 99,(some (98,true)),(.ak (.t 8))⟩,⟨some 100,(some (98,true)),(.not (.t 99))⟩,⟨some 101,none,.pick (.t 98) (.t 100) (.c (.bool false))⟩,⟨some 102,none,.ak (.t 101)⟩,⟨some 103,(some (102,true)),(.bV (.t 3) 0)⟩,⟨some 104,(some (102,true)),(.load none (.t 103))⟩,⟨some 105,(some (102,true)),(.bin .neq (.t 104) (.c (.int .i64 7)))⟩,⟨some 106,none,.pick (.t 102) (.t 105) (.c (.bool false))⟩,⟨some 95,none,.ak (.t 106)⟩]) (.cond (.t 95) (.seq (.aM [⟨some 4,none,.ak (.c (.int .i64 4))⟩]) .ret) .skip))))))))))) (.seq (.aM [⟨some 4,none,.ak (.c (.int .i64 0))⟩]) .ret)))))))
set_option maxHeartbeats 1600000 in
theorem F1 {P:Program} {G:Nat→Option (List IV)} {aC aB aV aW:Nat} (hF:aA P G aC=some (107,[(none,4)],(bA aB aV aW).bare)) (x:Node) (ta:Int) (co:List Tree) (na st:Bs)
  (hC:az P G aB [.list (dc co)] (.bool (content co))) (hN:az P G aV [.str na] (.bool (named na))) (hP:az P G aW [.str st] (.bool (plain st))) :
  az P G aC [x.av,(⟨1,ta,co,na,st⟩:Op).av] (.int .i64 (bx x ⟨1,ta,co,na,st⟩)):=by
 refine bm hF (by simp) (by simp[ax,AV.aI,Op.av,Node.av]) (by simp[AV.aI]) ?_;unfold bA
 simp only[↓aX,mX,reduceCtorEq,Nat.reduceEqDiff,Nat.reduceLT,Nat.reduceLeDiff,Nat.reduceAdd,Nat.reduceMul,Int.reduceToNat,Int.reduceLE,Int.reduceLT,Op.av,Node.av,List.length_cons,List.length_nil,Int.reduceBEq,Int.reduceBNe,Int.reduceLE,Int.reduceLT,decide_true,decide_false,ge_iff_le,gt_iff_lt,Bool.not_true,Bool.not_false,bb];clear hF;refine aO hC ?_
 simp only[↓aX,mX,reduceCtorEq,Nat.reduceEqDiff,Nat.reduceLT,Nat.reduceLeDiff,Nat.reduceAdd,Nat.reduceMul,Int.reduceToNat,Int.reduceLE,Int.reduceLT,tQ,Int.reduceBEq,Int.reduceBNe];cases h1:content co
 case false=>
  try simp only[↓aX,mX,reduceCtorEq,Nat.reduceEqDiff,Nat.reduceLT,Nat.reduceLeDiff,Nat.reduceAdd,Nat.reduceMul,Int.reduceToNat,Int.reduceLE,Int.reduceLT,h1,tQ,Int.reduceBEq,Int.reduceBNe]
  simp_all[bx,kC,kN,kT,kB]
 case true=>
  try simp only[↓aX,mX,reduceCtorEq,Nat.reduceEqDiff,Nat.reduceLT,Nat.reduceLeDiff,Nat.reduceAdd,Nat.reduceMul,Int.reduceToNat,Int.reduceLE,Int.reduceLT,h1,tQ,Int.reduceBEq,Int.reduceBNe]
  cases h2:(na==[])
  case false=>
   try simp only[↓aX,mX,reduceCtorEq,Nat.reduceEqDiff,Nat.reduceLT,Nat.reduceLeDiff,Nat.reduceAdd,Nat.reduceMul,Int.reduceToNat,Int.reduceLE,Int.reduceLT,h1,h2,tQ,Int.reduceBEq,Int.reduceBNe]
   simp_all[bx,kC,kN,kT,kB]
  case true=>
   try simp only[↓aX,mX,reduceCtorEq,Nat.reduceEqDiff,Nat.reduceLT,Nat.reduceLeDiff,Nat.reduceAdd,Nat.reduceMul,Int.reduceToNat,Int.reduceLE,Int.reduceLT,h1,h2,tQ,Int.reduceBEq,Int.reduceBNe]
   cases h3:(st==[])
   case false=>
    try simp only[↓aX,mX,reduceCtorEq,Nat.reduceEqDiff,Nat.reduceLT,Nat.reduceLeDiff,Nat.reduceAdd,Nat.reduceMul,Int.reduceToNat,Int.reduceLE,Int.reduceLT,h1,h2,h3,tQ,Int.reduceBEq,Int.reduceBNe]
    simp_all[bx,kC,kN,kT,kB]
   case true=>
    try simp only[↓aX,mX,reduceCtorEq,Nat.reduceEqDiff,Nat.reduceLT,Nat.reduceLeDiff,Nat.reduceAdd,Nat.reduceMul,Int.reduceToNat,Int.reduceLE,Int.reduceLT,h1,h2,h3,tQ,Int.reduceBEq,Int.reduceBNe]
    cases h5:x.text
    case false=>
     try simp only[↓aX,mX,reduceCtorEq,Nat.reduceEqDiff,Nat.reduceLT,Nat.reduceLeDiff,Nat.reduceAdd,Nat.reduceMul,Int.reduceToNat,Int.reduceLE,Int.reduceLT,h1,h2,h3,h5,tQ,Int.reduceBEq,Int.reduceBNe]
     simp_all[bx,kC,kN,kT,kB]
    case true=>
     try simp only[↓aX,mX,reduceCtorEq,Nat.reduceEqDiff,Nat.reduceLT,Nat.reduceLeDiff,Nat.reduceAdd,Nat.reduceMul,Int.reduceToNat,Int.reduceLE,Int.reduceLT,h1,h2,h3,h5,tQ,Int.reduceBEq,Int.reduceBNe]
     simp_all[bx,kC,kN,kT,kB]
set_option maxHeartbeats 1600000 in
theorem F2 {P:Program} {G:Nat→Option (List IV)} {aC aB aV aW:Nat} (hF:aA P G aC=some (107,[(none,4)],(bA aB aV aW).bare)) (x:Node) (ta:Int) (co:List Tree) (na st:Bs)
  (hC:az P G aB [.list (dc co)] (.bool (content co))) (hN:az P G aV [.str na] (.bool (named na))) (hP:az P G aW [.str st] (.bool (plain st))) :
  az P G aC [x.av,(⟨2,ta,co,na,st⟩:Op).av] (.int .i64 (bx x ⟨2,ta,co,na,st⟩)):=by
 refine bm hF (by simp) (by simp[ax,AV.aI,Op.av,Node.av]) (by simp[AV.aI]) ?_;unfold bA
 simp only[↓aX,mX,reduceCtorEq,Nat.reduceEqDiff,Nat.reduceLT,Nat.reduceLeDiff,Nat.reduceAdd,Nat.reduceMul,Int.reduceToNat,Int.reduceLE,Int.reduceLT,Op.av,Node.av,List.length_cons,List.length_nil,Int.reduceBEq,Int.reduceBNe,Int.reduceLE,Int.reduceLT,decide_true,decide_false,ge_iff_le,gt_iff_lt,Bool.not_true,Bool.not_false,bb];clear hF;refine aO hC ?_
 simp only[↓aX,mX,reduceCtorEq,Nat.reduceEqDiff,Nat.reduceLT,Nat.reduceLeDiff,Nat.reduceAdd,Nat.reduceMul,Int.reduceToNat,Int.reduceLE,Int.reduceLT,tQ,Int.reduceBEq,Int.reduceBNe];cases h1:content co
 case false=>
  try simp only[↓aX,mX,reduceCtorEq,Nat.reduceEqDiff,Nat.reduceLT,Nat.reduceLeDiff,Nat.reduceAdd,Nat.reduceMul,Int.reduceToNat,Int.reduceLE,Int.reduceLT,h1,tQ,Int.reduceBEq,Int.reduceBNe]
  simp_all[bx,kC,kN,kT,kB]
 case true=>
  try simp only[↓aX,mX,reduceCtorEq,Nat.reduceEqDiff,Nat.reduceLT,Nat.reduceLeDiff,Nat.reduceAdd,Nat.reduceMul,Int.reduceToNat,Int.reduceLE,Int.reduceLT,h1,tQ,Int.reduceBEq,Int.reduceBNe]
  cases h2:(na==[])
  case false=>
   try simp only[↓aX,mX,reduceCtorEq,Nat.reduceEqDiff,Nat.reduceLT,Nat.reduceLeDiff,Nat.reduceAdd,Nat.reduceMul,Int.reduceToNat,Int.reduceLE,Int.reduceLT,h1,h2,tQ,Int.reduceBEq,Int.reduceBNe]
   simp_all[bx,kC,kN,kT,kB]
  case true=>
   try simp only[↓aX,mX,reduceCtorEq,Nat.reduceEqDiff,Nat.reduceLT,Nat.reduceLeDiff,Nat.reduceAdd,Nat.reduceMul,Int.reduceToNat,Int.reduceLE,Int.reduceLT,h1,h2,tQ,Int.reduceBEq,Int.reduceBNe]
   cases h3:(st==[])
   case false=>
    try simp only[↓aX,mX,reduceCtorEq,Nat.reduceEqDiff,Nat.reduceLT,Nat.reduceLeDiff,Nat.reduceAdd,Nat.reduceMul,Int.reduceToNat,Int.reduceLE,Int.reduceLT,h1,h2,h3,tQ,Int.reduceBEq,Int.reduceBNe]
    simp_all[bx,kC,kN,kT,kB]
   case true=>
    try simp only[↓aX,mX,reduceCtorEq,Nat.reduceEqDiff,Nat.reduceLT,Nat.reduceLeDiff,Nat.reduceAdd,Nat.reduceMul,Int.reduceToNat,Int.reduceLE,Int.reduceLT,h1,h2,h3,tQ,Int.reduceBEq,Int.reduceBNe]
    cases h5:x.text
    case false=>
     try simp only[↓aX,mX,reduceCtorEq,Nat.reduceEqDiff,Nat.reduceLT,Nat.reduceLeDiff,Nat.reduceAdd,Nat.reduceMul,Int.reduceToNat,Int.reduceLE,Int.reduceLT,h1,h2,h3,h5,tQ,Int.reduceBEq,Int.reduceBNe]
     simp_all[bx,kC,kN,kT,kB]
    case true=>
     try simp only[↓aX,mX,reduceCtorEq,Nat.reduceEqDiff,Nat.reduceLT,Nat.reduceLeDiff,Nat.reduceAdd,Nat.reduceMul,Int.reduceToNat,Int.reduceLE,Int.reduceLT,h1,h2,h3,h5,tQ,Int.reduceBEq,Int.reduceBNe]
     simp_all[bx,kC,kN,kT,kB]
set_option maxHeartbeats 1600000 in
theorem F3 {P:Program} {G:Nat→Option (List IV)} {aC aB aV aW:Nat} (hF:aA P G aC=some (107,[(none,4)],(bA aB aV aW).bare)) (x:Node) (ta:Int) (co:List Tree) (na st:Bs)
  (hC:az P G aB [.list (dc co)] (.bool (content co))) (hN:az P G aV [.str na] (.bool (named na))) (hP:az P G aW [.str st] (.bool (plain st))) :
  az P G aC [x.av,(⟨3,ta,co,na,st⟩:Op).av] (.int .i64 (bx x ⟨3,ta,co,na,st⟩)):=by
 refine bm hF (by simp) (by simp[ax,AV.aI,Op.av,Node.av]) (by simp[AV.aI]) ?_;unfold bA
 simp only[↓aX,mX,reduceCtorEq,Nat.reduceEqDiff,Nat.reduceLT,Nat.reduceLeDiff,Nat.reduceAdd,Nat.reduceMul,Int.reduceToNat,Int.reduceLE,Int.reduceLT,Op.av,Node.av,List.length_cons,List.length_nil,Int.reduceBEq,Int.reduceBNe,Int.reduceLE,Int.reduceLT,decide_true,decide_false,ge_iff_le,gt_iff_lt,Bool.not_true,Bool.not_false,bb];clear hF;refine aO hC ?_
 simp only[↓aX,mX,reduceCtorEq,Nat.reduceEqDiff,Nat.reduceLT,Nat.reduceLeDiff,Nat.reduceAdd,Nat.reduceMul,Int.reduceToNat,Int.reduceLE,Int.reduceLT,tQ,Int.reduceBEq,Int.reduceBNe];cases h1:content co
 case false=>
  try simp only[↓aX,mX,reduceCtorEq,Nat.reduceEqDiff,Nat.reduceLT,Nat.reduceLeDiff,Nat.reduceAdd,Nat.reduceMul,Int.reduceToNat,Int.reduceLE,Int.reduceLT,h1,tQ,Int.reduceBEq,Int.reduceBNe]
  simp_all[bx,kC,kN,kT,kB]
 case true=>
  try simp only[↓aX,mX,reduceCtorEq,Nat.reduceEqDiff,Nat.reduceLT,Nat.reduceLeDiff,Nat.reduceAdd,Nat.reduceMul,Int.reduceToNat,Int.reduceLE,Int.reduceLT,h1,tQ,Int.reduceBEq,Int.reduceBNe]
  cases h2:(na==[])
  case false=>
   try simp only[↓aX,mX,reduceCtorEq,Nat.reduceEqDiff,Nat.reduceLT,Nat.reduceLeDiff,Nat.reduceAdd,Nat.reduceMul,Int.reduceToNat,Int.reduceLE,Int.reduceLT,h1,h2,tQ,Int.reduceBEq,Int.reduceBNe]
   simp_all[bx,kC,kN,kT,kB]
  case true=>
   try simp only[↓aX,mX,reduceCtorEq,Nat.reduceEqDiff,Nat.reduceLT,Nat.reduceLeDiff,Nat.reduceAdd,Nat.reduceMul,Int.reduceToNat,Int.reduceLE,Int.reduceLT,h1,h2,tQ,Int.reduceBEq,Int.reduceBNe]
   cases h3:(st==[])
   case false=>
    try simp only[↓aX,mX,reduceCtorEq,Nat.reduceEqDiff,Nat.reduceLT,Nat.reduceLeDiff,Nat.reduceAdd,Nat.reduceMul,Int.reduceToNat,Int.reduceLE,Int.reduceLT,h1,h2,h3,tQ,Int.reduceBEq,Int.reduceBNe]
    simp_all[bx,kC,kN,kT,kB]
   case true=>
    try simp only[↓aX,mX,reduceCtorEq,Nat.reduceEqDiff,Nat.reduceLT,Nat.reduceLeDiff,Nat.reduceAdd,Nat.reduceMul,Int.reduceToNat,Int.reduceLE,Int.reduceLT,h1,h2,h3,tQ,Int.reduceBEq,Int.reduceBNe]
    cases h4:decide (x.parent<0)
    case false=>
     try simp only[↓aX,mX,reduceCtorEq,Nat.reduceEqDiff,Nat.reduceLT,Nat.reduceLeDiff,Nat.reduceAdd,Nat.reduceMul,Int.reduceToNat,Int.reduceLE,Int.reduceLT,h1,h2,h3,h4,tQ,Int.reduceBEq,Int.reduceBNe]
     cases h5:x.text
     case false=>
      try simp only[↓aX,mX,reduceCtorEq,Nat.reduceEqDiff,Nat.reduceLT,Nat.reduceLeDiff,Nat.reduceAdd,Nat.reduceMul,Int.reduceToNat,Int.reduceLE,Int.reduceLT,h1,h2,h3,h4,h5,tQ,Int.reduceBEq,Int.reduceBNe]
      simp_all[bx,kC,kN,kT,kB]
     case true=>
      try simp only[↓aX,mX,reduceCtorEq,Nat.reduceEqDiff,Nat.reduceLT,Nat.reduceLeDiff,Nat.reduceAdd,Nat.reduceMul,Int.reduceToNat,Int.reduceLE,Int.reduceLT,h1,h2,h3,h4,h5,tQ,Int.reduceBEq,Int.reduceBNe]
      simp_all[bx,kC,kN,kT,kB]
    case true=>
     try simp only[↓aX,mX,reduceCtorEq,Nat.reduceEqDiff,Nat.reduceLT,Nat.reduceLeDiff,Nat.reduceAdd,Nat.reduceMul,Int.reduceToNat,Int.reduceLE,Int.reduceLT,h1,h2,h3,h4,tQ,Int.reduceBEq,Int.reduceBNe]
     simp_all[bx,kC,kN,kT,kB]
set_option maxHeartbeats 1600000 in
theorem F4 {P:Program} {G:Nat→Option (List IV)} {aC aB aV aW:Nat} (hF:aA P G aC=some (107,[(none,4)],(bA aB aV aW).bare)) (x:Node) (ta:Int) (co:List Tree) (na st:Bs)
  (hC:az P G aB [.list (dc co)] (.bool (content co))) (hN:az P G aV [.str na] (.bool (named na))) (hP:az P G aW [.str st] (.bool (plain st))) :
  az P G aC [x.av,(⟨4,ta,co,na,st⟩:Op).av] (.int .i64 (bx x ⟨4,ta,co,na,st⟩)):=by
 refine bm hF (by simp) (by simp[ax,AV.aI,Op.av,Node.av]) (by simp[AV.aI]) ?_;unfold bA
 simp only[↓aX,mX,reduceCtorEq,Nat.reduceEqDiff,Nat.reduceLT,Nat.reduceLeDiff,Nat.reduceAdd,Nat.reduceMul,Int.reduceToNat,Int.reduceLE,Int.reduceLT,Op.av,Node.av,List.length_cons,List.length_nil,Int.reduceBEq,Int.reduceBNe,Int.reduceLE,Int.reduceLT,decide_true,decide_false,ge_iff_le,gt_iff_lt,Bool.not_true,Bool.not_false,bb];clear hF;refine aO hC ?_
 simp only[↓aX,mX,reduceCtorEq,Nat.reduceEqDiff,Nat.reduceLT,Nat.reduceLeDiff,Nat.reduceAdd,Nat.reduceMul,Int.reduceToNat,Int.reduceLE,Int.reduceLT,tQ,Int.reduceBEq,Int.reduceBNe];cases h1:content co
 case false=>
  try simp only[↓aX,mX,reduceCtorEq,Nat.reduceEqDiff,Nat.reduceLT,Nat.reduceLeDiff,Nat.reduceAdd,Nat.reduceMul,Int.reduceToNat,Int.reduceLE,Int.reduceLT,h1,tQ,Int.reduceBEq,Int.reduceBNe]
  simp_all[bx,kC,kN,kT,kB]
 case true=>
  try simp only[↓aX,mX,reduceCtorEq,Nat.reduceEqDiff,Nat.reduceLT,Nat.reduceLeDiff,Nat.reduceAdd,Nat.reduceMul,Int.reduceToNat,Int.reduceLE,Int.reduceLT,h1,tQ,Int.reduceBEq,Int.reduceBNe]
  cases h2:(na==[])
  case false=>
   try simp only[↓aX,mX,reduceCtorEq,Nat.reduceEqDiff,Nat.reduceLT,Nat.reduceLeDiff,Nat.reduceAdd,Nat.reduceMul,Int.reduceToNat,Int.reduceLE,Int.reduceLT,h1,h2,tQ,Int.reduceBEq,Int.reduceBNe]
   simp_all[bx,kC,kN,kT,kB]
  case true=>
   try simp only[↓aX,mX,reduceCtorEq,Nat.reduceEqDiff,Nat.reduceLT,Nat.reduceLeDiff,Nat.reduceAdd,Nat.reduceMul,Int.reduceToNat,Int.reduceLE,Int.reduceLT,h1,h2,tQ,Int.reduceBEq,Int.reduceBNe]
   cases h3:(st==[])
   case false=>
    try simp only[↓aX,mX,reduceCtorEq,Nat.reduceEqDiff,Nat.reduceLT,Nat.reduceLeDiff,Nat.reduceAdd,Nat.reduceMul,Int.reduceToNat,Int.reduceLE,Int.reduceLT,h1,h2,h3,tQ,Int.reduceBEq,Int.reduceBNe]
    simp_all[bx,kC,kN,kT,kB]
   case true=>
    try simp only[↓aX,mX,reduceCtorEq,Nat.reduceEqDiff,Nat.reduceLT,Nat.reduceLeDiff,Nat.reduceAdd,Nat.reduceMul,Int.reduceToNat,Int.reduceLE,Int.reduceLT,h1,h2,h3,tQ,Int.reduceBEq,Int.reduceBNe]
    cases h4:decide (x.parent<0)
    case false=>
     try simp only[↓aX,mX,reduceCtorEq,Nat.reduceEqDiff,Nat.reduceLT,Nat.reduceLeDiff,Nat.reduceAdd,Nat.reduceMul,Int.reduceToNat,Int.reduceLE,Int.reduceLT,h1,h2,h3,h4,tQ,Int.reduceBEq,Int.reduceBNe]
     cases h5:x.text
     case false=>
      try simp only[↓aX,mX,reduceCtorEq,Nat.reduceEqDiff,Nat.reduceLT,Nat.reduceLeDiff,Nat.reduceAdd,Nat.reduceMul,Int.reduceToNat,Int.reduceLE,Int.reduceLT,h1,h2,h3,h4,h5,tQ,Int.reduceBEq,Int.reduceBNe]
      simp_all[bx,kC,kN,kT,kB]
     case true=>
      try simp only[↓aX,mX,reduceCtorEq,Nat.reduceEqDiff,Nat.reduceLT,Nat.reduceLeDiff,Nat.reduceAdd,Nat.reduceMul,Int.reduceToNat,Int.reduceLE,Int.reduceLT,h1,h2,h3,h4,h5,tQ,Int.reduceBEq,Int.reduceBNe]
      simp_all[bx,kC,kN,kT,kB]
    case true=>
     try simp only[↓aX,mX,reduceCtorEq,Nat.reduceEqDiff,Nat.reduceLT,Nat.reduceLeDiff,Nat.reduceAdd,Nat.reduceMul,Int.reduceToNat,Int.reduceLE,Int.reduceLT,h1,h2,h3,h4,tQ,Int.reduceBEq,Int.reduceBNe]
     simp_all[bx,kC,kN,kT,kB]
set_option maxHeartbeats 1600000 in
theorem F5 {P:Program} {G:Nat→Option (List IV)} {aC aB aV aW:Nat} (hF:aA P G aC=some (107,[(none,4)],(bA aB aV aW).bare)) (x:Node) (ta:Int) (co:List Tree) (na st:Bs)
  (hC:az P G aB [.list (dc co)] (.bool (content co))) (hN:az P G aV [.str na] (.bool (named na))) (hP:az P G aW [.str st] (.bool (plain st))) :
  az P G aC [x.av,(⟨5,ta,co,na,st⟩:Op).av] (.int .i64 (bx x ⟨5,ta,co,na,st⟩)):=by
 refine bm hF (by simp) (by simp[ax,AV.aI,Op.av,Node.av]) (by simp[AV.aI]) ?_;unfold bA
 simp only[↓aX,mX,reduceCtorEq,Nat.reduceEqDiff,Nat.reduceLT,Nat.reduceLeDiff,Nat.reduceAdd,Nat.reduceMul,Int.reduceToNat,Int.reduceLE,Int.reduceLT,Op.av,Node.av,List.length_cons,List.length_nil,Int.reduceBEq,Int.reduceBNe,Int.reduceLE,Int.reduceLT,decide_true,decide_false,ge_iff_le,gt_iff_lt,Bool.not_true,Bool.not_false,bb];clear hF;cases h1:decide ((0:Int)<(co.length:Int))
 case false=>
  try simp only[↓aX,mX,reduceCtorEq,Nat.reduceEqDiff,Nat.reduceLT,Nat.reduceLeDiff,Nat.reduceAdd,Nat.reduceMul,Int.reduceToNat,Int.reduceLE,Int.reduceLT,h1,tQ,Int.reduceBEq,Int.reduceBNe]
  cases h2:(na==[])
  case false=>
   try simp only[↓aX,mX,reduceCtorEq,Nat.reduceEqDiff,Nat.reduceLT,Nat.reduceLeDiff,Nat.reduceAdd,Nat.reduceMul,Int.reduceToNat,Int.reduceLE,Int.reduceLT,h1,h2,tQ,Int.reduceBEq,Int.reduceBNe]
   simp_all[bx,kC,kN,kT,kB]
  case true=>
   try simp only[↓aX,mX,reduceCtorEq,Nat.reduceEqDiff,Nat.reduceLT,Nat.reduceLeDiff,Nat.reduceAdd,Nat.reduceMul,Int.reduceToNat,Int.reduceLE,Int.reduceLT,h1,h2,tQ,Int.reduceBEq,Int.reduceBNe]
   cases h3:(st==[])
   case false=>
    try simp only[↓aX,mX,reduceCtorEq,Nat.reduceEqDiff,Nat.reduceLT,Nat.reduceLeDiff,Nat.reduceAdd,Nat.reduceMul,Int.reduceToNat,Int.reduceLE,Int.reduceLT,h1,h2,h3,tQ,Int.reduceBEq,Int.reduceBNe]
    simp_all[bx,kC,kN,kT,kB]
   case true=>
    try simp only[↓aX,mX,reduceCtorEq,Nat.reduceEqDiff,Nat.reduceLT,Nat.reduceLeDiff,Nat.reduceAdd,Nat.reduceMul,Int.reduceToNat,Int.reduceLE,Int.reduceLT,h1,h2,h3,tQ,Int.reduceBEq,Int.reduceBNe]
    cases h4:decide (x.parent<0)
    case false=>
     try simp only[↓aX,mX,reduceCtorEq,Nat.reduceEqDiff,Nat.reduceLT,Nat.reduceLeDiff,Nat.reduceAdd,Nat.reduceMul,Int.reduceToNat,Int.reduceLE,Int.reduceLT,h1,h2,h3,h4,tQ,Int.reduceBEq,Int.reduceBNe]
     cases h5:x.text
     case false=>
      try simp only[↓aX,mX,reduceCtorEq,Nat.reduceEqDiff,Nat.reduceLT,Nat.reduceLeDiff,Nat.reduceAdd,Nat.reduceMul,Int.reduceToNat,Int.reduceLE,Int.reduceLT,h1,h2,h3,h4,h5,tQ,Int.reduceBEq,Int.reduceBNe]
      simp_all[bx,kC,kN,kT,kB]
     case true=>
      try simp only[↓aX,mX,reduceCtorEq,Nat.reduceEqDiff,Nat.reduceLT,Nat.reduceLeDiff,Nat.reduceAdd,Nat.reduceMul,Int.reduceToNat,Int.reduceLE,Int.reduceLT,h1,h2,h3,h4,h5,tQ,Int.reduceBEq,Int.reduceBNe]
      simp_all[bx,kC,kN,kT,kB]
    case true=>
     try simp only[↓aX,mX,reduceCtorEq,Nat.reduceEqDiff,Nat.reduceLT,Nat.reduceLeDiff,Nat.reduceAdd,Nat.reduceMul,Int.reduceToNat,Int.reduceLE,Int.reduceLT,h1,h2,h3,h4,tQ,Int.reduceBEq,Int.reduceBNe]
     simp_all[bx,kC,kN,kT,kB]
 case true=>
  try simp only[↓aX,mX,reduceCtorEq,Nat.reduceEqDiff,Nat.reduceLT,Nat.reduceLeDiff,Nat.reduceAdd,Nat.reduceMul,Int.reduceToNat,Int.reduceLE,Int.reduceLT,h1,tQ,Int.reduceBEq,Int.reduceBNe]
  simp_all[bx,kC,kN,kT,kB]
set_option maxHeartbeats 1600000 in
theorem F6 {P:Program} {G:Nat→Option (List IV)} {aC aB aV aW:Nat} (hF:aA P G aC=some (107,[(none,4)],(bA aB aV aW).bare)) (x:Node) (ta:Int) (co:List Tree) (na st:Bs)
  (hC:az P G aB [.list (dc co)] (.bool (content co))) (hN:az P G aV [.str na] (.bool (named na))) (hP:az P G aW [.str st] (.bool (plain st))) :
  az P G aC [x.av,(⟨6,ta,co,na,st⟩:Op).av] (.int .i64 (bx x ⟨6,ta,co,na,st⟩)):=by
 refine bm hF (by simp) (by simp[ax,AV.aI,Op.av,Node.av]) (by simp[AV.aI]) ?_;unfold bA
 simp only[↓aX,mX,reduceCtorEq,Nat.reduceEqDiff,Nat.reduceLT,Nat.reduceLeDiff,Nat.reduceAdd,Nat.reduceMul,Int.reduceToNat,Int.reduceLE,Int.reduceLT,Op.av,Node.av,List.length_cons,List.length_nil,Int.reduceBEq,Int.reduceBNe,Int.reduceLE,Int.reduceLT,decide_true,decide_false,ge_iff_le,gt_iff_lt,Bool.not_true,Bool.not_false,bb];clear hF;refine aO hC ?_
 simp only[↓aX,mX,reduceCtorEq,Nat.reduceEqDiff,Nat.reduceLT,Nat.reduceLeDiff,Nat.reduceAdd,Nat.reduceMul,Int.reduceToNat,Int.reduceLE,Int.reduceLT,tQ,Int.reduceBEq,Int.reduceBNe];cases h1:content co
 case false=>
  try simp only[↓aX,mX,reduceCtorEq,Nat.reduceEqDiff,Nat.reduceLT,Nat.reduceLeDiff,Nat.reduceAdd,Nat.reduceMul,Int.reduceToNat,Int.reduceLE,Int.reduceLT,h1,tQ,Int.reduceBEq,Int.reduceBNe]
  simp_all[bx,kC,kN,kT,kB]
 case true=>
  try simp only[↓aX,mX,reduceCtorEq,Nat.reduceEqDiff,Nat.reduceLT,Nat.reduceLeDiff,Nat.reduceAdd,Nat.reduceMul,Int.reduceToNat,Int.reduceLE,Int.reduceLT,h1,tQ,Int.reduceBEq,Int.reduceBNe]
  cases h2:(na==[])
  case false=>
   try simp only[↓aX,mX,reduceCtorEq,Nat.reduceEqDiff,Nat.reduceLT,Nat.reduceLeDiff,Nat.reduceAdd,Nat.reduceMul,Int.reduceToNat,Int.reduceLE,Int.reduceLT,h1,h2,tQ,Int.reduceBEq,Int.reduceBNe]
   simp_all[bx,kC,kN,kT,kB]
  case true=>
   try simp only[↓aX,mX,reduceCtorEq,Nat.reduceEqDiff,Nat.reduceLT,Nat.reduceLeDiff,Nat.reduceAdd,Nat.reduceMul,Int.reduceToNat,Int.reduceLE,Int.reduceLT,h1,h2,tQ,Int.reduceBEq,Int.reduceBNe]
   cases h3:(st==[])
   case false=>
    try simp only[↓aX,mX,reduceCtorEq,Nat.reduceEqDiff,Nat.reduceLT,Nat.reduceLeDiff,Nat.reduceAdd,Nat.reduceMul,Int.reduceToNat,Int.reduceLE,Int.reduceLT,h1,h2,h3,tQ,Int.reduceBEq,Int.reduceBNe]
    simp_all[bx,kC,kN,kT,kB]
   case true=>
    try simp only[↓aX,mX,reduceCtorEq,Nat.reduceEqDiff,Nat.reduceLT,Nat.reduceLeDiff,Nat.reduceAdd,Nat.reduceMul,Int.reduceToNat,Int.reduceLE,Int.reduceLT,h1,h2,h3,tQ,Int.reduceBEq,Int.reduceBNe]
    cases h4:decide (x.parent<0)
    case false=>
     try simp only[↓aX,mX,reduceCtorEq,Nat.reduceEqDiff,Nat.reduceLT,Nat.reduceLeDiff,Nat.reduceAdd,Nat.reduceMul,Int.reduceToNat,Int.reduceLE,Int.reduceLT,h1,h2,h3,h4,tQ,Int.reduceBEq,Int.reduceBNe]
     cases h5:x.text
     case false=>
      try simp only[↓aX,mX,reduceCtorEq,Nat.reduceEqDiff,Nat.reduceLT,Nat.reduceLeDiff,Nat.reduceAdd,Nat.reduceMul,Int.reduceToNat,Int.reduceLE,Int.reduceLT,h1,h2,h3,h4,h5,tQ,Int.reduceBEq,Int.reduceBNe]
      simp_all[bx,kC,kN,kT,kB]
     case true=>
      try simp only[↓aX,mX,reduceCtorEq,Nat.reduceEqDiff,Nat.reduceLT,Nat.reduceLeDiff,Nat.reduceAdd,Nat.reduceMul,Int.reduceToNat,Int.reduceLE,Int.reduceLT,h1,h2,h3,h4,h5,tQ,Int.reduceBEq,Int.reduceBNe]
      simp_all[bx,kC,kN,kT,kB]
    case true=>
     try simp only[↓aX,mX,reduceCtorEq,Nat.reduceEqDiff,Nat.reduceLT,Nat.reduceLeDiff,Nat.reduceAdd,Nat.reduceMul,Int.reduceToNat,Int.reduceLE,Int.reduceLT,h1,h2,h3,h4,tQ,Int.reduceBEq,Int.reduceBNe]
     simp_all[bx,kC,kN,kT,kB]
set_option maxHeartbeats 1600000 in
theorem F7 {P:Program} {G:Nat→Option (List IV)} {aC aB aV aW:Nat} (hF:aA P G aC=some (107,[(none,4)],(bA aB aV aW).bare)) (x:Node) (ta:Int) (co:List Tree) (na st:Bs)
  (hC:az P G aB [.list (dc co)] (.bool (content co))) (hN:az P G aV [.str na] (.bool (named na))) (hP:az P G aW [.str st] (.bool (plain st))) :
  az P G aC [x.av,(⟨7,ta,co,na,st⟩:Op).av] (.int .i64 (bx x ⟨7,ta,co,na,st⟩)):=by
 refine bm hF (by simp) (by simp[ax,AV.aI,Op.av,Node.av]) (by simp[AV.aI]) ?_;unfold bA
 simp only[↓aX,mX,reduceCtorEq,Nat.reduceEqDiff,Nat.reduceLT,Nat.reduceLeDiff,Nat.reduceAdd,Nat.reduceMul,Int.reduceToNat,Int.reduceLE,Int.reduceLT,Op.av,Node.av,List.length_cons,List.length_nil,Int.reduceBEq,Int.reduceBNe,Int.reduceLE,Int.reduceLT,decide_true,decide_false,ge_iff_le,gt_iff_lt,Bool.not_true,Bool.not_false,bb];clear hF;cases h1:decide ((0:Int)<(co.length:Int))
 case false=>
  try simp only[↓aX,mX,reduceCtorEq,Nat.reduceEqDiff,Nat.reduceLT,Nat.reduceLeDiff,Nat.reduceAdd,Nat.reduceMul,Int.reduceToNat,Int.reduceLE,Int.reduceLT,h1,tQ,Int.reduceBEq,Int.reduceBNe]
  cases h2:(na==[])
  case false=>
   try simp only[↓aX,mX,reduceCtorEq,Nat.reduceEqDiff,Nat.reduceLT,Nat.reduceLeDiff,Nat.reduceAdd,Nat.reduceMul,Int.reduceToNat,Int.reduceLE,Int.reduceLT,h1,h2,tQ,Int.reduceBEq,Int.reduceBNe]
   simp_all[bx,kC,kN,kT,kB]
  case true=>
   try simp only[↓aX,mX,reduceCtorEq,Nat.reduceEqDiff,Nat.reduceLT,Nat.reduceLeDiff,Nat.reduceAdd,Nat.reduceMul,Int.reduceToNat,Int.reduceLE,Int.reduceLT,h1,h2,tQ,Int.reduceBEq,Int.reduceBNe]
   refine aO hP ?_;simp only[↓aX,mX,reduceCtorEq,Nat.reduceEqDiff,Nat.reduceLT,Nat.reduceLeDiff,Nat.reduceAdd,Nat.reduceMul,Int.reduceToNat,Int.reduceLE,Int.reduceLT,h1,h2,tQ,Int.reduceBEq,Int.reduceBNe];cases h3:plain st
   case false=>
    try simp only[↓aX,mX,reduceCtorEq,Nat.reduceEqDiff,Nat.reduceLT,Nat.reduceLeDiff,Nat.reduceAdd,Nat.reduceMul,Int.reduceToNat,Int.reduceLE,Int.reduceLT,h1,h2,h3,tQ,Int.reduceBEq,Int.reduceBNe]
    simp_all[bx,kC,kN,kT,kB]
   case true=>
    try simp only[↓aX,mX,reduceCtorEq,Nat.reduceEqDiff,Nat.reduceLT,Nat.reduceLeDiff,Nat.reduceAdd,Nat.reduceMul,Int.reduceToNat,Int.reduceLE,Int.reduceLT,h1,h2,h3,tQ,Int.reduceBEq,Int.reduceBNe]
    cases h5:x.text
    case false=>
     try simp only[↓aX,mX,reduceCtorEq,Nat.reduceEqDiff,Nat.reduceLT,Nat.reduceLeDiff,Nat.reduceAdd,Nat.reduceMul,Int.reduceToNat,Int.reduceLE,Int.reduceLT,h1,h2,h3,h5,tQ,Int.reduceBEq,Int.reduceBNe]
     simp_all[bx,kC,kN,kT,kB]
    case true=>
     try simp only[↓aX,mX,reduceCtorEq,Nat.reduceEqDiff,Nat.reduceLT,Nat.reduceLeDiff,Nat.reduceAdd,Nat.reduceMul,Int.reduceToNat,Int.reduceLE,Int.reduceLT,h1,h2,h3,h5,tQ,Int.reduceBEq,Int.reduceBNe]
     simp_all[bx,kC,kN,kT,kB]
 case true=>
  try simp only[↓aX,mX,reduceCtorEq,Nat.reduceEqDiff,Nat.reduceLT,Nat.reduceLeDiff,Nat.reduceAdd,Nat.reduceMul,Int.reduceToNat,Int.reduceLE,Int.reduceLT,h1,tQ,Int.reduceBEq,Int.reduceBNe]
  simp_all[bx,kC,kN,kT,kB]
set_option maxHeartbeats 1600000 in
theorem F8 {P:Program} {G:Nat→Option (List IV)} {aC aB aV aW:Nat} (hF:aA P G aC=some (107,[(none,4)],(bA aB aV aW).bare)) (x:Node) (ta:Int) (co:List Tree) (na st:Bs)
  (hC:az P G aB [.list (dc co)] (.bool (content co))) (hN:az P G aV [.str na] (.bool (named na))) (hP:az P G aW [.str st] (.bool (plain st))) :
  az P G aC [x.av,(⟨8,ta,co,na,st⟩:Op).av] (.int .i64 (bx x ⟨8,ta,co,na,st⟩)):=by
 refine bm hF (by simp) (by simp[ax,AV.aI,Op.av,Node.av]) (by simp[AV.aI]) ?_;unfold bA
 simp only[↓aX,mX,reduceCtorEq,Nat.reduceEqDiff,Nat.reduceLT,Nat.reduceLeDiff,Nat.reduceAdd,Nat.reduceMul,Int.reduceToNat,Int.reduceLE,Int.reduceLT,Op.av,Node.av,List.length_cons,List.length_nil,Int.reduceBEq,Int.reduceBNe,Int.reduceLE,Int.reduceLT,decide_true,decide_false,ge_iff_le,gt_iff_lt,Bool.not_true,Bool.not_false,bb];clear hF;cases h1:decide ((0:Int)<(co.length:Int))
 case false=>
  try simp only[↓aX,mX,reduceCtorEq,Nat.reduceEqDiff,Nat.reduceLT,Nat.reduceLeDiff,Nat.reduceAdd,Nat.reduceMul,Int.reduceToNat,Int.reduceLE,Int.reduceLT,h1,tQ,Int.reduceBEq,Int.reduceBNe]
  refine aO hN ?_;simp only[↓aX,mX,reduceCtorEq,Nat.reduceEqDiff,Nat.reduceLT,Nat.reduceLeDiff,Nat.reduceAdd,Nat.reduceMul,Int.reduceToNat,Int.reduceLE,Int.reduceLT,h1,tQ,Int.reduceBEq,Int.reduceBNe];cases h2:named na
  case false=>
   try simp only[↓aX,mX,reduceCtorEq,Nat.reduceEqDiff,Nat.reduceLT,Nat.reduceLeDiff,Nat.reduceAdd,Nat.reduceMul,Int.reduceToNat,Int.reduceLE,Int.reduceLT,h1,h2,tQ,Int.reduceBEq,Int.reduceBNe]
   simp_all[bx,kC,kN,kT,kB]
  case true=>
   try simp only[↓aX,mX,reduceCtorEq,Nat.reduceEqDiff,Nat.reduceLT,Nat.reduceLeDiff,Nat.reduceAdd,Nat.reduceMul,Int.reduceToNat,Int.reduceLE,Int.reduceLT,h1,h2,tQ,Int.reduceBEq,Int.reduceBNe]
   cases h3:(st==[])
   case false=>
    try simp only[↓aX,mX,reduceCtorEq,Nat.reduceEqDiff,Nat.reduceLT,Nat.reduceLeDiff,Nat.reduceAdd,Nat.reduceMul,Int.reduceToNat,Int.reduceLE,Int.reduceLT,h1,h2,h3,tQ,Int.reduceBEq,Int.reduceBNe]
    simp_all[bx,kC,kN,kT,kB]
   case true=>
    try simp only[↓aX,mX,reduceCtorEq,Nat.reduceEqDiff,Nat.reduceLT,Nat.reduceLeDiff,Nat.reduceAdd,Nat.reduceMul,Int.reduceToNat,Int.reduceLE,Int.reduceLT,h1,h2,h3,tQ,Int.reduceBEq,Int.reduceBNe]
    cases h5:x.text
    case false=>
     try simp only[↓aX,mX,reduceCtorEq,Nat.reduceEqDiff,Nat.reduceLT,Nat.reduceLeDiff,Nat.reduceAdd,Nat.reduceMul,Int.reduceToNat,Int.reduceLE,Int.reduceLT,h1,h2,h3,h5,tQ,Int.reduceBEq,Int.reduceBNe]
     simp_all[bx,kC,kN,kT,kB]
    case true=>
     try simp only[↓aX,mX,reduceCtorEq,Nat.reduceEqDiff,Nat.reduceLT,Nat.reduceLeDiff,Nat.reduceAdd,Nat.reduceMul,Int.reduceToNat,Int.reduceLE,Int.reduceLT,h1,h2,h3,h5,tQ,Int.reduceBEq,Int.reduceBNe]
     simp_all[bx,kC,kN,kT,kB]
 case true=>
  try simp only[↓aX,mX,reduceCtorEq,Nat.reduceEqDiff,Nat.reduceLT,Nat.reduceLeDiff,Nat.reduceAdd,Nat.reduceMul,Int.reduceToNat,Int.reduceLE,Int.reduceLT,h1,tQ,Int.reduceBEq,Int.reduceBNe]
  simp_all[bx,kC,kN,kT,kB]
set_option maxHeartbeats 1600000 in
theorem F9 {P:Program} {G:Nat→Option (List IV)} {aC aB aV aW:Nat} (hF:aA P G aC=some (107,[(none,4)],(bA aB aV aW).bare)) (x:Node) (ta:Int) (co:List Tree) (na st:Bs)
  (hC:az P G aB [.list (dc co)] (.bool (content co))) (hN:az P G aV [.str na] (.bool (named na))) (hP:az P G aW [.str st] (.bool (plain st))) :
  az P G aC [x.av,(⟨9,ta,co,na,st⟩:Op).av] (.int .i64 (bx x ⟨9,ta,co,na,st⟩)):=by
 refine bm hF (by simp) (by simp[ax,AV.aI,Op.av,Node.av]) (by simp[AV.aI]) ?_;unfold bA
 simp only[↓aX,mX,reduceCtorEq,Nat.reduceEqDiff,Nat.reduceLT,Nat.reduceLeDiff,Nat.reduceAdd,Nat.reduceMul,Int.reduceToNat,Int.reduceLE,Int.reduceLT,Op.av,Node.av,List.length_cons,List.length_nil,Int.reduceBEq,Int.reduceBNe,Int.reduceLE,Int.reduceLT,decide_true,decide_false,ge_iff_le,gt_iff_lt,Bool.not_true,Bool.not_false,bb];clear hF;cases h1:decide ((0:Int)<(co.length:Int))
 case false=>
  try simp only[↓aX,mX,reduceCtorEq,Nat.reduceEqDiff,Nat.reduceLT,Nat.reduceLeDiff,Nat.reduceAdd,Nat.reduceMul,Int.reduceToNat,Int.reduceLE,Int.reduceLT,h1,tQ,Int.reduceBEq,Int.reduceBNe]
  refine aO hN ?_;simp only[↓aX,mX,reduceCtorEq,Nat.reduceEqDiff,Nat.reduceLT,Nat.reduceLeDiff,Nat.reduceAdd,Nat.reduceMul,Int.reduceToNat,Int.reduceLE,Int.reduceLT,h1,tQ,Int.reduceBEq,Int.reduceBNe];cases h2:named na
  case false=>
   try simp only[↓aX,mX,reduceCtorEq,Nat.reduceEqDiff,Nat.reduceLT,Nat.reduceLeDiff,Nat.reduceAdd,Nat.reduceMul,Int.reduceToNat,Int.reduceLE,Int.reduceLT,h1,h2,tQ,Int.reduceBEq,Int.reduceBNe]
   simp_all[bx,kC,kN,kT,kB]
  case true=>
   try simp only[↓aX,mX,reduceCtorEq,Nat.reduceEqDiff,Nat.reduceLT,Nat.reduceLeDiff,Nat.reduceAdd,Nat.reduceMul,Int.reduceToNat,Int.reduceLE,Int.reduceLT,h1,h2,tQ,Int.reduceBEq,Int.reduceBNe]
   refine aO hP ?_;simp only[↓aX,mX,reduceCtorEq,Nat.reduceEqDiff,Nat.reduceLT,Nat.reduceLeDiff,Nat.reduceAdd,Nat.reduceMul,Int.reduceToNat,Int.reduceLE,Int.reduceLT,h1,h2,tQ,Int.reduceBEq,Int.reduceBNe];cases h3:plain st
   case false=>
    try simp only[↓aX,mX,reduceCtorEq,Nat.reduceEqDiff,Nat.reduceLT,Nat.reduceLeDiff,Nat.reduceAdd,Nat.reduceMul,Int.reduceToNat,Int.reduceLE,Int.reduceLT,h1,h2,h3,tQ,Int.reduceBEq,Int.reduceBNe]
    simp_all[bx,kC,kN,kT,kB]
   case true=>
    try simp only[↓aX,mX,reduceCtorEq,Nat.reduceEqDiff,Nat.reduceLT,Nat.reduceLeDiff,Nat.reduceAdd,Nat.reduceMul,Int.reduceToNat,Int.reduceLE,Int.reduceLT,h1,h2,h3,tQ,Int.reduceBEq,Int.reduceBNe]
    cases h5:x.text
    case false=>
     try simp only[↓aX,mX,reduceCtorEq,Nat.reduceEqDiff,Nat.reduceLT,Nat.reduceLeDiff,Nat.reduceAdd,Nat.reduceMul,Int.reduceToNat,Int.reduceLE,Int.reduceLT,h1,h2,h3,h5,tQ,Int.reduceBEq,Int.reduceBNe]
     simp_all[bx,kC,kN,kT,kB]
    case true=>
     try simp only[↓aX,mX,reduceCtorEq,Nat.reduceEqDiff,Nat.reduceLT,Nat.reduceLeDiff,Nat.reduceAdd,Nat.reduceMul,Int.reduceToNat,Int.reduceLE,Int.reduceLT,h1,h2,h3,h5,tQ,Int.reduceBEq,Int.reduceBNe]
     simp_all[bx,kC,kN,kT,kB]
 case true=>
  try simp only[↓aX,mX,reduceCtorEq,Nat.reduceEqDiff,Nat.reduceLT,Nat.reduceLeDiff,Nat.reduceAdd,Nat.reduceMul,Int.reduceToNat,Int.reduceLE,Int.reduceLT,h1,tQ,Int.reduceBEq,Int.reduceBNe]
  simp_all[bx,kC,kN,kT,kB]
set_option maxHeartbeats 1600000 in
theorem De {P:Program} {G:Nat→Option (List IV)} {aC aB aV aW:Nat} (hF:aA P G aC=some (107,[(none,4)],(bA aB aV aW).bare)) (x:Node) (ta:Int) (co:List Tree) (na st:Bs)
  (hC:az P G aB [.list (dc co)] (.bool (content co))) (hN:az P G aV [.str na] (.bool (named na))) (hP:az P G aW [.str st] (.bool (plain st))) :
  az P G aC [x.av,(⟨10,ta,co,na,st⟩:Op).av] (.int .i64 (bx x ⟨10,ta,co,na,st⟩)):=by
 refine bm hF (by simp) (by simp[ax,AV.aI,Op.av,Node.av]) (by simp[AV.aI]) ?_;unfold bA
 simp only[↓aX,mX,reduceCtorEq,Nat.reduceEqDiff,Nat.reduceLT,Nat.reduceLeDiff,Nat.reduceAdd,Nat.reduceMul,Int.reduceToNat,Int.reduceLE,Int.reduceLT,Op.av,Node.av,List.length_cons,List.length_nil,Int.reduceBEq,Int.reduceBNe,Int.reduceLE,Int.reduceLT,decide_true,decide_false,ge_iff_le,gt_iff_lt,Bool.not_true,Bool.not_false,bb];clear hF;cases h1:decide ((0:Int)<(co.length:Int))
 case false=>
  try simp only[↓aX,mX,reduceCtorEq,Nat.reduceEqDiff,Nat.reduceLT,Nat.reduceLeDiff,Nat.reduceAdd,Nat.reduceMul,Int.reduceToNat,Int.reduceLE,Int.reduceLT,h1,tQ,Int.reduceBEq,Int.reduceBNe]
  refine aO hN ?_;simp only[↓aX,mX,reduceCtorEq,Nat.reduceEqDiff,Nat.reduceLT,Nat.reduceLeDiff,Nat.reduceAdd,Nat.reduceMul,Int.reduceToNat,Int.reduceLE,Int.reduceLT,h1,tQ,Int.reduceBEq,Int.reduceBNe];cases h2:named na
  case false=>
   try simp only[↓aX,mX,reduceCtorEq,Nat.reduceEqDiff,Nat.reduceLT,Nat.reduceLeDiff,Nat.reduceAdd,Nat.reduceMul,Int.reduceToNat,Int.reduceLE,Int.reduceLT,h1,h2,tQ,Int.reduceBEq,Int.reduceBNe]
   simp_all[bx,kC,kN,kT,kB]
  case true=>
   try simp only[↓aX,mX,reduceCtorEq,Nat.reduceEqDiff,Nat.reduceLT,Nat.reduceLeDiff,Nat.reduceAdd,Nat.reduceMul,Int.reduceToNat,Int.reduceLE,Int.reduceLT,h1,h2,tQ,Int.reduceBEq,Int.reduceBNe]
   cases h3:(st==[])
   case false=>
    try simp only[↓aX,mX,reduceCtorEq,Nat.reduceEqDiff,Nat.reduceLT,Nat.reduceLeDiff,Nat.reduceAdd,Nat.reduceMul,Int.reduceToNat,Int.reduceLE,Int.reduceLT,h1,h2,h3,tQ,Int.reduceBEq,Int.reduceBNe]
    simp_all[bx,kC,kN,kT,kB]
   case true=>
    try simp only[↓aX,mX,reduceCtorEq,Nat.reduceEqDiff,Nat.reduceLT,Nat.reduceLeDiff,Nat.reduceAdd,Nat.reduceMul,Int.reduceToNat,Int.reduceLE,Int.reduceLT,h1,h2,h3,tQ,Int.reduceBEq,Int.reduceBNe]
    cases h5:x.text
    case false=>
     try simp only[↓aX,mX,reduceCtorEq,Nat.reduceEqDiff,Nat.reduceLT,Nat.reduceLeDiff,Nat.reduceAdd,Nat.reduceMul,Int.reduceToNat,Int.reduceLE,Int.reduceLT,h1,h2,h3,h5,tQ,Int.reduceBEq,Int.reduceBNe]
     simp_all[bx,kC,kN,kT,kB]
    case true=>
     try simp only[↓aX,mX,reduceCtorEq,Nat.reduceEqDiff,Nat.reduceLT,Nat.reduceLeDiff,Nat.reduceAdd,Nat.reduceMul,Int.reduceToNat,Int.reduceLE,Int.reduceLT,h1,h2,h3,h5,tQ,Int.reduceBEq,Int.reduceBNe]
     simp_all[bx,kC,kN,kT,kB]
 case true=>
  try simp only[↓aX,mX,reduceCtorEq,Nat.reduceEqDiff,Nat.reduceLT,Nat.reduceLeDiff,Nat.reduceAdd,Nat.reduceMul,Int.reduceToNat,Int.reduceLE,Int.reduceLT,h1,tQ,Int.reduceBEq,Int.reduceBNe]
  simp_all[bx,kC,kN,kT,kB]
theorem J2 {P:Program} {G:Nat→Option (List IV)} {aC aB aV aW:Nat} (hF:aA P G aC=some (107,[(none,4)],(bA aB aV aW).bare)) (x:Node) (o:Op) (h1:1≤o.kind) (h2:o.kind≤10)
  (hC:az P G aB [.list (dc o.content)] (.bool (content o.content))) (hN:az P G aV [.str o.name] (.bool (named o.name))) (hP:az P G aW [.str o.s] (.bool (plain o.s))) :
  az P G aC [x.av,o.av] (.int .i64 (bx x o)):=by
 obtain⟨k,ta,co,na,st⟩:=o;simp only at h1 h2 hC hN hP;have h:k=1∨k=2∨k=3∨k=4∨k=5∨k=6∨k=7∨k=8∨k=9∨k=10:=by omega
 rcases h with rfl|rfl|rfl|rfl|rfl|rfl|rfl|rfl|rfl|rfl
 ·exact F1 hF x ta co na st hC hN hP
 ·exact F2 hF x ta co na st hC hN hP
 ·exact F3 hF x ta co na st hC hN hP
 ·exact F4 hF x ta co na st hC hN hP
 ·exact F5 hF x ta co na st hC hN hP
 ·exact F6 hF x ta co na st hC hN hP
 ·exact F7 hF x ta co na st hC hN hP
 ·exact F8 hF x ta co na st hC hN hP
 ·exact F9 hF x ta co na st hC hN hP
 ·exact De hF x ta co na st hC hN hP
end Go.Am

/- THE ABSTRACT MACHINE, part 51: a struct behind a pointer becomes data. -/
namespace Go.Am
open Go Go.RowKit
section
variable {K:Kx} {β:Lb→Option Nat} {env:Env} {H:Hp} {a:Act} {w:World}
theorem F_ (hr:bj K β env H a w) {l:Lb} {sz:Nat} {y:IV} {v:Value} (hl:H l= .live ⟨sz,ay [y]⟩) (hf:l.fresh=true) (vD:Flat [y])
  (hv:RV w β H (Im K β H) (.ptr l sz 0 0) v):RV w β (bG H l .dead) (Im K β (bG H l .dead)) (.lptr y.cells) v:=by
 have bz:∀q,live (bG H l .dead) q→live H q∧q≠l:=by
  rintro q ⟨r,h⟩;by_cases e:q=l
  ·subst e;simp at h
  ·rw[aq _ _ e] at h;exact⟨⟨r,h⟩,e⟩
 have hk:jH w w (Im K β H) (Im K β (bG H l .dead)):=⟨fun k hk hs=>⟨⟨hk.1,fun q hq=>hk.2 q (bz q hq).1⟩,hs,rfl⟩⟩;simp only[RV] at hv;obtain⟨ad,rfl,h5⟩:=hv;obtain⟨g,e1,e2⟩:=h5 ⟨_,hl⟩;simp only[Nat.zero_mul,Nat.add_zero] at e2;obtain⟨cur,e0,cap,k1,k2,k3,k4,k5⟩:=(hr.rows l _ hl).block e1
 have GI:Im K β (bG H l .dead) g:=⟨.inr (hr.fr l g ⟨_,hl⟩ hf e1),fun q hq hb=>(bz q hq).2 (hr.inj q l g (bz q hq).1 ⟨_,hl⟩ hb e1)⟩;simp only[RV];refine⟨g,0,by rw[e2],GI,(Array.getElem?_eq_some_iff.1 k1).1,jU _ _ _ (fun j z hz=> ?_)⟩;obtain⟨u,q1,q2⟩:=k5 0 j (y.cells.map IV.cW) z.cW (by simp[ay]) (by simp[hz]);refine⟨u,?_,uv hk (vD y (by simp) z (List.mem_of_getElem? hz)) q2⟩
 rw[cell_of_row w g _ cur e0 (0,0) k1,←q1]
 congr 1
 omega
end
theorem qg {S:St} {env:Env} {H:Hp} {l:Lb} {sz d:Nat} {y:IV} (hd:env d= .ptr l sz 0 0) (hl:H l= .live ⟨sz,ay [y]⟩) (hf:l.fresh=true) (vD:Flat [y]) :
  iz S env H (put env d (.lptr y.cells)) (bG H l .dead):=by
 intro K β a w _ _ hr;have hv:=hr.jj d;rw[hd] at hv;exact⟨β,qy (hr.kill l (by rw[hl];simp)) d (F_ hr hl hf vD hv) (by simp[AV.aI])⟩
end Go.Am
