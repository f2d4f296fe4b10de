import Derived.Test.YtfinkeaikbmpgaaKT15
import Derived.Test.YtfinkeaikbmpgaaKT8
import Derived.Test.YtfinkeaikbmpgaaKAm45
import Derived.Test.YtfinkeaikbmpgaaKT84
import Derived.Test.YtfinkeaikbmpgaaKAm33
set_option linter.unusedSimpArgs false
set_option linter.unusedVariables false
set_option linter.unnecessarySimpa false
set_option linter.defProp false
/- Changes: what is wrong with one. -/
namespace Go.Am
open Go Go.RowKit
structure Op where
 kind:Int
 target:Int
 content:List Tree
 name:Bs
 s:Bs
def Op.cs (x:Op):List IV:=[.int .i64 x.kind,.int .i64 x.target,.list (dc x.content),.str x.name,.str x.s]
def Op.iv (x:Op):IV:= .agg x.cs
def Op.av (x:Op):AV:= .agg [.int .i64 x.kind,.int .i64 x.target,.list (dc x.content),.str x.name,.str x.s]
theorem Op.bL (x:Op):x.iv.cells=x.cs:=rfl
theorem wD (xs:List Op):iw 5 (xs.map Op.iv):=rG Op.iv 5 (fun _=>rfl) xs
theorem zC (l:List Op) (i:Nat):(l.map Op.iv)[i]?=(l[i]?).map Op.iv:=List.getElem?_map ..
theorem Op.ow (x:Op):∀z∈x.cs,∀cs,z≠ .agg cs:=by
 intro z hz cs;simp only[Op.cs,List.mem_cons,List.not_mem_nil,or_false] at hz;rcases hz with rfl|rfl|rfl|rfl|rfl<;>simp
theorem Mx (xs:List Op):Flat (xs.map Op.iv):=rH _ (fun x=>x.ow) _
def gM (k:Int) (t:Bool):Int:=if k=3 then 2 else if k=4 then 2 else if k=6 then 3 else if k=7 then(if t then 1 else 4) else if k=5 then 5 else 1
def iF:AC:=
(.seq (.aM [⟨some 4,none,.ak (.c (.int .i64 0))⟩]) (.seq (.seq (.aM [⟨some 5,none,.ak (.t 0)⟩]) (.block 0 (.seq (.seq (.aM [⟨some 7,none,.bin .eql (.t 5) (.c (.int .i64 3))⟩,⟨some 6,none,.ak (.t 7)⟩]) (.cond (.t 6) .skip (.aM [⟨some 8,none,.bin .eql (.t 5) (.c (.int .i64 4))⟩,⟨some 6,none,.ak (.t 8)⟩]))) (.cond (.t 6) (.seq (.aM [⟨some 4,none,.ak (.c (.int .i64 2))⟩]) .ret) (.seq (.aM [⟨some 10,none,.bin .eql (.t 5) (.c (.int .i64 6))⟩,⟨some 9,none,.ak (.t 10)⟩]) (.cond (.t 9) (.seq (.aM [⟨some 4,none,.ak (.c (.int .i64 3))⟩]) .ret) (.seq (.aM [⟨some 12,none,.bin .eql (.t 5) (.c (.int .i64 7))⟩,⟨some 11,none,.ak (.t 12)⟩]) (.cond (.t 11) (.seq (.aM [⟨some 13,none,.ak (.t 1)⟩,⟨some 14,none,.not (.t 13)⟩]) (.cond (.t 14) (.seq (.aM [⟨some 4,none,.ak (.c (.int .i64 4))⟩]) .ret) .skip)) (.seq (.aM [⟨some 16,none,.bin .eql (.t 5) (.c (.int .i64 5))⟩,⟨some 15,none,.ak (.t 16)⟩]) (.cond (.t 15) (.seq (.aM [⟨some 4,none,.ak (.c (.int .i64 5))⟩]) .ret) .skip)))))))))) (.seq (.aM [⟨some 4,none,.ak (.c (.int .i64 1))⟩]) .ret)))
theorem JS {P:Program} {G:Nat→Option (List IV)} {b6:Nat} (hF:aA P G b6=some (17,[(none,4)],iF.bare)) (k:Int) (t:Bool):az P G b6 [.int .i64 k,.bool t] (.int .i64 (gM k t)):=by
 refine bm hF (by simp) (by simp[ax,AV.aI]) (by simp[AV.aI]) ?_;unfold iF;by_cases h3:k=3
 ·subst h3;simp only[↓aX,mX,reduceCtorEq,Nat.reduceEqDiff,Nat.reduceLT,Nat.reduceLeDiff,Nat.reduceAdd,Nat.reduceMul,Int.reduceToNat,Int.reduceLE,Int.reduceLT,Int.reduceBEq];rfl
 by_cases h4:k=4
 ·subst h4;simp only[↓aX,mX,reduceCtorEq,Nat.reduceEqDiff,Nat.reduceLT,Nat.reduceLeDiff,Nat.reduceAdd,Nat.reduceMul,Int.reduceToNat,Int.reduceLE,Int.reduceLT,Int.reduceBEq];rfl
 by_cases h6:k=6
 ·subst h6;simp only[↓aX,mX,reduceCtorEq,Nat.reduceEqDiff,Nat.reduceLT,Nat.reduceLeDiff,Nat.reduceAdd,Nat.reduceMul,Int.reduceToNat,Int.reduceLE,Int.reduceLT,Int.reduceBEq];rfl
 by_cases h7:k=7
 ·subst h7;cases t
  ·simp only[↓aX,mX,reduceCtorEq,Nat.reduceEqDiff,Nat.reduceLT,Nat.reduceLeDiff,Nat.reduceAdd,Nat.reduceMul,Int.reduceToNat,Int.reduceLE,Int.reduceLT,Int.reduceBEq,Bool.not_false];rfl
  ·simp only[↓aX,mX,reduceCtorEq,Nat.reduceEqDiff,Nat.reduceLT,Nat.reduceLeDiff,Nat.reduceAdd,Nat.reduceMul,Int.reduceToNat,Int.reduceLE,Int.reduceLT,Int.reduceBEq,Bool.not_true];rfl
 by_cases h5:k=5
 ·subst h5;simp only[↓aX,mX,reduceCtorEq,Nat.reduceEqDiff,Nat.reduceLT,Nat.reduceLeDiff,Nat.reduceAdd,Nat.reduceMul,Int.reduceToNat,Int.reduceLE,Int.reduceLT,Int.reduceBEq];rfl
 simp only[↓aX,mX,reduceCtorEq,Nat.reduceEqDiff,Nat.reduceLT,Nat.reduceLeDiff,Nat.reduceAdd,Nat.reduceMul,Int.reduceToNat,Int.reduceLE,Int.reduceLT,beq_eq_false_iff_ne.2 h3,beq_eq_false_iff_ne.2 h4,beq_eq_false_iff_ne.2 h6,beq_eq_false_iff_ne.2 h7,beq_eq_false_iff_ne.2 h5];simp only[gM,h3,h4,h5,h6,h7,if_false]
def cI (k:Int):Bool:=k==9||k==10
def aK (a b:Op):Bool:=a.target==b.target&&((cI a.kind&&cI b.kind&&a.name==b.name)||(a.kind==b.kind&&decide (6≤a.kind)&&decide (a.kind≤8)))
def gE:AC:=
(.seq (.aM [⟨some 2,none,.box (.t 0)⟩,⟨some 3,none,.box (.t 1)⟩,⟨some 4,none,.ak (.c (.bool false))⟩]) (.seq (.seq (.aM [⟨some 6,none,.bV (.t 2) 1⟩,⟨some 7,none,.load none (.t 6)⟩,⟨some 8,none,.bV (.t 3) 1⟩,⟨some 9,none,.load none (.t 8)⟩,⟨some 10,none,.bin .neq (.t 7) (.t 9)⟩]) (.cond (.t 10) (.seq (.aM [⟨some 4,none,.ak (.c (.bool false))⟩]) .ret) .skip)) (.seq (.aM [⟨some 11,none,.bV (.t 2) 0⟩,⟨some 12,none,.load none (.t 11)⟩,⟨some 13,none,.bin .eql (.t 12) (.c (.int .i64 9))⟩,⟨some 14,none,.ak (.t 13)⟩,⟨some 15,(some (14,false)),(.bV (.t 2) 0)⟩,⟨some 16,(some (14,false)),(.load none (.t 15))⟩,⟨some 17,(some (14,false)),(.bin .eql (.t 16) (.c (.int .i64 10)))⟩,⟨some 18,none,.pick (.t 14) (.c (.bool true)) (.t 17)⟩,⟨some 19,none,.ak (.t 18)⟩,⟨some 20,(some (19,true)),(.bV (.t 3) 0)⟩,⟨some 21,(some (19,true)),(.load none (.t 20))⟩,⟨some 22,(some (19,true)),(.bin .eql (.t 21) (.c (.int .i64 9)))⟩,⟨some 23,(some (19,true)),(.ak (.t 22))⟩,⟨some 24,(some (23,false)),(.bV (.t 3) 0)⟩,⟨some 25,(some (23,false)),(.load none (.t 24))⟩,⟨some 26,(some (23,false)),(.bin .eql (.t 25) (.c (.int .i64 10)))⟩,⟨some 27,(some (19,true)),(.pick (.t 23) (.c (.bool true)) (.t 26))⟩,⟨some 28,none,.pick (.t 19) (.t 27) (.c (.bool false))⟩,⟨some 5,none,.ak (.t 28)⟩]) (.seq (.aM [⟨some 29,none,.ak (.t 5)⟩,⟨some 30,none,.ak (.t 29)⟩,⟨some 31,(some (30,true)),(.bV (.t 2) 3)⟩,⟨some 32,(some (30,true)),(.load none (.t 31))⟩,⟨some 33,(some (30,true)),(.bV (.t 3) 3)⟩,⟨some 34,(some (30,true)),(.load none (.t 33))⟩,⟨some 35,(some (30,true)),(.bin .eql (.t 32) (.t 34))⟩,⟨some 36,none,.pick (.t 30) (.t 35) (.c (.bool false))⟩,⟨some 37,none,.ak (.t 36)⟩,⟨some 38,(some (37,false)),(.bV (.t 2) 0)⟩,⟨some 39,(some (37,false)),(.load none (.t 38))⟩,⟨some 40,(some (37,false)),(.bV (.t 3) 0)⟩,⟨some 41,(some (37,false)),(.load none (.t 40))⟩,⟨some 42,(some (37,false)),(.bin .eql (.t 39) (.t 41))⟩,⟨some 43,(some (37,false)),(.ak (.t 42))⟩,⟨some 44,(some (43,true)),(.bV (.t 2) 0)⟩,⟨some 45,(some (43,true)),(.load none (.t 44))⟩,⟨some 46,(some (43,true)),(.bin .geq (.t 45) (.c (.int .i64 6)))⟩,⟨some 47,(some (37,false)),(.pick (.t 43) (.t 46) (.c (.bool false)))⟩,⟨some 48,(some (37,false)),(.ak (.t 47))⟩,⟨some 49,(some (48,true)),(.bV (.t 2) 0)⟩,⟨some 50,(some (48,true)),(.load none (.t 49))⟩,⟨some 51,(some (48,true)),(.bin .leq (.t 50) (.c (.int .i64 8)))⟩,⟨some 52,(some (37,false)),(.pick (.t 48) (.t 51) (.c (.bool false)))⟩,⟨some 53,none,.pick (.t 37) (.c (.bool true)) (.t 52)⟩,⟨some 4,none,.ak (.t 53)⟩]) .ret))))
set_option maxHeartbeats 1600000 in
theorem C0 {P : Program} {G : Nat → Option (List IV)} {cJ : Nat} (hF : aA P G cJ = some (54,[(none,4)],gE.bare)) (a b : Op) : az P G cJ [a.av,b.av] (.bool (aK a b)) := by
 refine bm hF (by simp) (by simp[ax,AV.aI,Op.av]) (by simp[AV.aI]) ?_
 unfold gE
 simp only[↓aX,mX,reduceCtorEq,Nat.reduceEqDiff,Nat.reduceLT,Nat.reduceLeDiff,Nat.reduceAdd,Nat.reduceMul,Int.reduceToNat,Int.reduceLE,Int.reduceLT,Op.av,List.length_cons,List.length_nil]
 clear hF
 cases h0:(a.target !=b.target)
 case false=>
   simp only[↓aX,mX,reduceCtorEq,Nat.reduceEqDiff,Nat.reduceLT,Nat.reduceLeDiff,Nat.reduceAdd,Nat.reduceMul,Int.reduceToNat,Int.reduceLE,Int.reduceLT,h0,ge_iff_le,Bool.not_true,Bool.not_false,List.length_cons,List.length_nil]
   cases h1:(a.kind==9)
   case false=>
     simp only[↓aX,mX,reduceCtorEq,Nat.reduceEqDiff,Nat.reduceLT,Nat.reduceLeDiff,Nat.reduceAdd,Nat.reduceMul,Int.reduceToNat,Int.reduceLE,Int.reduceLT,h0,h1,ge_iff_le,Bool.not_true,Bool.not_false,List.length_cons,List.length_nil]
     cases h2:(a.kind==10)
     case false=>
       simp only[↓aX,mX,reduceCtorEq,Nat.reduceEqDiff,Nat.reduceLT,Nat.reduceLeDiff,Nat.reduceAdd,Nat.reduceMul,Int.reduceToNat,Int.reduceLE,Int.reduceLT,h0,h1,h2,ge_iff_le,Bool.not_true,Bool.not_false,List.length_cons,List.length_nil]
       cases h6:(a.kind==b.kind)
       case false=>
         simp only[↓aX,mX,reduceCtorEq,Nat.reduceEqDiff,Nat.reduceLT,Nat.reduceLeDiff,Nat.reduceAdd,Nat.reduceMul,Int.reduceToNat,Int.reduceLE,Int.reduceLT,h0,h1,h2,h6,ge_iff_le,Bool.not_true,Bool.not_false,List.length_cons,List.length_nil]
         first|(simp_all[aK,cI];done)|(simp_all[aK,cI];omega)
       case true=>
         simp only[↓aX,mX,reduceCtorEq,Nat.reduceEqDiff,Nat.reduceLT,Nat.reduceLeDiff,Nat.reduceAdd,Nat.reduceMul,Int.reduceToNat,Int.reduceLE,Int.reduceLT,h0,h1,h2,h6,ge_iff_le,Bool.not_true,Bool.not_false,List.length_cons,List.length_nil]
         cases h7:decide (6≤a.kind)
         case false=>
           simp only[↓aX,mX,reduceCtorEq,Nat.reduceEqDiff,Nat.reduceLT,Nat.reduceLeDiff,Nat.reduceAdd,Nat.reduceMul,Int.reduceToNat,Int.reduceLE,Int.reduceLT,h0,h1,h2,h6,h7,ge_iff_le,Bool.not_true,Bool.not_false,List.length_cons,List.length_nil]
           first|(simp_all[aK,cI];done)|(simp_all[aK,cI];omega)
         case true=>
           simp only[↓aX,mX,reduceCtorEq,Nat.reduceEqDiff,Nat.reduceLT,Nat.reduceLeDiff,Nat.reduceAdd,Nat.reduceMul,Int.reduceToNat,Int.reduceLE,Int.reduceLT,h0,h1,h2,h6,h7,ge_iff_le,Bool.not_true,Bool.not_false,List.length_cons,List.length_nil]
           first|(simp_all[aK,cI];done)|(simp_all[aK,cI];omega)
     case true=>
       simp only[↓aX,mX,reduceCtorEq,Nat.reduceEqDiff,Nat.reduceLT,Nat.reduceLeDiff,Nat.reduceAdd,Nat.reduceMul,Int.reduceToNat,Int.reduceLE,Int.reduceLT,h0,h1,h2,ge_iff_le,Bool.not_true,Bool.not_false,List.length_cons,List.length_nil]
       cases h3:(b.kind==9)
       case false=>
         simp only[↓aX,mX,reduceCtorEq,Nat.reduceEqDiff,Nat.reduceLT,Nat.reduceLeDiff,Nat.reduceAdd,Nat.reduceMul,Int.reduceToNat,Int.reduceLE,Int.reduceLT,h0,h1,h2,h3,ge_iff_le,Bool.not_true,Bool.not_false,List.length_cons,List.length_nil]
         cases h4:(b.kind==10)
         case false=>
           simp only[↓aX,mX,reduceCtorEq,Nat.reduceEqDiff,Nat.reduceLT,Nat.reduceLeDiff,Nat.reduceAdd,Nat.reduceMul,Int.reduceToNat,Int.reduceLE,Int.reduceLT,h0,h1,h2,h3,h4,ge_iff_le,Bool.not_true,Bool.not_false,List.length_cons,List.length_nil]
           cases h6:(a.kind==b.kind)
           case false=>
             simp only[↓aX,mX,reduceCtorEq,Nat.reduceEqDiff,Nat.reduceLT,Nat.reduceLeDiff,Nat.reduceAdd,Nat.reduceMul,Int.reduceToNat,Int.reduceLE,Int.reduceLT,h0,h1,h2,h3,h4,h6,ge_iff_le,Bool.not_true,Bool.not_false,List.length_cons,List.length_nil]
             first|(simp_all[aK,cI];done)|(simp_all[aK,cI];omega)
           case true=>
             simp only[↓aX,mX,reduceCtorEq,Nat.reduceEqDiff,Nat.reduceLT,Nat.reduceLeDiff,Nat.reduceAdd,Nat.reduceMul,Int.reduceToNat,Int.reduceLE,Int.reduceLT,h0,h1,h2,h3,h4,h6,ge_iff_le,Bool.not_true,Bool.not_false,List.length_cons,List.length_nil]
             cases h7:decide (6≤a.kind)
             case false=>
               simp only[↓aX,mX,reduceCtorEq,Nat.reduceEqDiff,Nat.reduceLT,Nat.reduceLeDiff,Nat.reduceAdd,Nat.reduceMul,Int.reduceToNat,Int.reduceLE,Int.reduceLT,h0,h1,h2,h3,h4,h6,h7,ge_iff_le,Bool.not_true,Bool.not_false,List.length_cons,List.length_nil]
               first|(simp_all[aK,cI];done)|(simp_all[aK,cI];omega)
             case true=>
               simp only[↓aX,mX,reduceCtorEq,Nat.reduceEqDiff,Nat.reduceLT,Nat.reduceLeDiff,Nat.reduceAdd,Nat.reduceMul,Int.reduceToNat,Int.reduceLE,Int.reduceLT,h0,h1,h2,h3,h4,h6,h7,ge_iff_le,Bool.not_true,Bool.not_false,List.length_cons,List.length_nil]
               first|(simp_all[aK,cI];done)|(simp_all[aK,cI];omega)
         case true=>
           simp only[↓aX,mX,reduceCtorEq,Nat.reduceEqDiff,Nat.reduceLT,Nat.reduceLeDiff,Nat.reduceAdd,Nat.reduceMul,Int.reduceToNat,Int.reduceLE,Int.reduceLT,h0,h1,h2,h3,h4,ge_iff_le,Bool.not_true,Bool.not_false,List.length_cons,List.length_nil]
           cases h5:(a.name==b.name)
           case false=>
             simp only[↓aX,mX,reduceCtorEq,Nat.reduceEqDiff,Nat.reduceLT,Nat.reduceLeDiff,Nat.reduceAdd,Nat.reduceMul,Int.reduceToNat,Int.reduceLE,Int.reduceLT,h0,h1,h2,h3,h4,h5,ge_iff_le,Bool.not_true,Bool.not_false,List.length_cons,List.length_nil]
             cases h6:(a.kind==b.kind)
             case false=>
               simp only[↓aX,mX,reduceCtorEq,Nat.reduceEqDiff,Nat.reduceLT,Nat.reduceLeDiff,Nat.reduceAdd,Nat.reduceMul,Int.reduceToNat,Int.reduceLE,Int.reduceLT,h0,h1,h2,h3,h4,h5,h6,ge_iff_le,Bool.not_true,Bool.not_false,List.length_cons,List.length_nil]
               first|(simp_all[aK,cI];done)|(simp_all[aK,cI];omega)
             case true=>
               simp only[↓aX,mX,reduceCtorEq,Nat.reduceEqDiff,Nat.reduceLT,Nat.reduceLeDiff,Nat.reduceAdd,Nat.reduceMul,Int.reduceToNat,Int.reduceLE,Int.reduceLT,h0,h1,h2,h3,h4,h5,h6,ge_iff_le,Bool.not_true,Bool.not_false,List.length_cons,List.length_nil]
               cases h7:decide (6≤a.kind)
               case false=>
                 simp only[↓aX,mX,reduceCtorEq,Nat.reduceEqDiff,Nat.reduceLT,Nat.reduceLeDiff,Nat.reduceAdd,Nat.reduceMul,Int.reduceToNat,Int.reduceLE,Int.reduceLT,h0,h1,h2,h3,h4,h5,h6,h7,ge_iff_le,Bool.not_true,Bool.not_false,List.length_cons,List.length_nil]
                 first|(simp_all[aK,cI];done)|(simp_all[aK,cI];omega)
               case true=>
                 simp only[↓aX,mX,reduceCtorEq,Nat.reduceEqDiff,Nat.reduceLT,Nat.reduceLeDiff,Nat.reduceAdd,Nat.reduceMul,Int.reduceToNat,Int.reduceLE,Int.reduceLT,h0,h1,h2,h3,h4,h5,h6,h7,ge_iff_le,Bool.not_true,Bool.not_false,List.length_cons,List.length_nil]
                 first|(simp_all[aK,cI];done)|(simp_all[aK,cI];omega)
           case true=>
             simp only[↓aX,mX,reduceCtorEq,Nat.reduceEqDiff,Nat.reduceLT,Nat.reduceLeDiff,Nat.reduceAdd,Nat.reduceMul,Int.reduceToNat,Int.reduceLE,Int.reduceLT,h0,h1,h2,h3,h4,h5,ge_iff_le,Bool.not_true,Bool.not_false,List.length_cons,List.length_nil]
             first|(simp_all[aK,cI];done)|(simp_all[aK,cI];omega)
       case true=>
         simp only[↓aX,mX,reduceCtorEq,Nat.reduceEqDiff,Nat.reduceLT,Nat.reduceLeDiff,Nat.reduceAdd,Nat.reduceMul,Int.reduceToNat,Int.reduceLE,Int.reduceLT,h0,h1,h2,h3,ge_iff_le,Bool.not_true,Bool.not_false,List.length_cons,List.length_nil]
         cases h5:(a.name==b.name)
         case false=>
           simp only[↓aX,mX,reduceCtorEq,Nat.reduceEqDiff,Nat.reduceLT,Nat.reduceLeDiff,Nat.reduceAdd,Nat.reduceMul,Int.reduceToNat,Int.reduceLE,Int.reduceLT,h0,h1,h2,h3,h5,ge_iff_le,Bool.not_true,Bool.not_false,List.length_cons,List.length_nil]
           cases h6:(a.kind==b.kind)
           case false=>
             simp only[↓aX,mX,reduceCtorEq,Nat.reduceEqDiff,Nat.reduceLT,Nat.reduceLeDiff,Nat.reduceAdd,Nat.reduceMul,Int.reduceToNat,Int.reduceLE,Int.reduceLT,h0,h1,h2,h3,h5,h6,ge_iff_le,Bool.not_true,Bool.not_false,List.length_cons,List.length_nil]
             first|(simp_all[aK,cI];done)|(simp_all[aK,cI];omega)
           case true=>
             simp only[↓aX,mX,reduceCtorEq,Nat.reduceEqDiff,Nat.reduceLT,Nat.reduceLeDiff,Nat.reduceAdd,Nat.reduceMul,Int.reduceToNat,Int.reduceLE,Int.reduceLT,h0,h1,h2,h3,h5,h6,ge_iff_le,Bool.not_true,Bool.not_false,List.length_cons,List.length_nil]
             cases h7:decide (6≤a.kind)
             case false=>
               simp only[↓aX,mX,reduceCtorEq,Nat.reduceEqDiff,Nat.reduceLT,Nat.reduceLeDiff,Nat.reduceAdd,Nat.reduceMul,Int.reduceToNat,Int.reduceLE,Int.reduceLT,h0,h1,h2,h3,h5,h6,h7,ge_iff_le,Bool.not_true,Bool.not_false,List.length_cons,List.length_nil]
               first|(simp_all[aK,cI];done)|(simp_all[aK,cI];omega)
             case true=>
               simp only[↓aX,mX,reduceCtorEq,Nat.reduceEqDiff,Nat.reduceLT,Nat.reduceLeDiff,Nat.reduceAdd,Nat.reduceMul,Int.reduceToNat,Int.reduceLE,Int.reduceLT,h0,h1,h2,h3,h5,h6,h7,ge_iff_le,Bool.not_true,Bool.not_false,List.length_cons,List.length_nil]
               first|(simp_all[aK,cI];done)|(simp_all[aK,cI];omega)
         case true=>
           simp only[↓aX,mX,reduceCtorEq,Nat.reduceEqDiff,Nat.reduceLT,Nat.reduceLeDiff,Nat.reduceAdd,Nat.reduceMul,Int.reduceToNat,Int.reduceLE,Int.reduceLT,h0,h1,h2,h3,h5,ge_iff_le,Bool.not_true,Bool.not_false,List.length_cons,List.length_nil]
           first|(simp_all[aK,cI];done)|(simp_all[aK,cI];omega)
   case true=>
     simp only[↓aX,mX,reduceCtorEq,Nat.reduceEqDiff,Nat.reduceLT,Nat.reduceLeDiff,Nat.reduceAdd,Nat.reduceMul,Int.reduceToNat,Int.reduceLE,Int.reduceLT,h0,h1,ge_iff_le,Bool.not_true,Bool.not_false,List.length_cons,List.length_nil]
     cases h3:(b.kind==9)
     case false=>
       simp only[↓aX,mX,reduceCtorEq,Nat.reduceEqDiff,Nat.reduceLT,Nat.reduceLeDiff,Nat.reduceAdd,Nat.reduceMul,Int.reduceToNat,Int.reduceLE,Int.reduceLT,h0,h1,h3,ge_iff_le,Bool.not_true,Bool.not_false,List.length_cons,List.length_nil]
       cases h4:(b.kind==10)
       case false=>
         simp only[↓aX,mX,reduceCtorEq,Nat.reduceEqDiff,Nat.reduceLT,Nat.reduceLeDiff,Nat.reduceAdd,Nat.reduceMul,Int.reduceToNat,Int.reduceLE,Int.reduceLT,h0,h1,h3,h4,ge_iff_le,Bool.not_true,Bool.not_false,List.length_cons,List.length_nil]
         cases h6:(a.kind==b.kind)
         case false=>
           simp only[↓aX,mX,reduceCtorEq,Nat.reduceEqDiff,Nat.reduceLT,Nat.reduceLeDiff,Nat.reduceAdd,Nat.reduceMul,Int.reduceToNat,Int.reduceLE,Int.reduceLT,h0,h1,h3,h4,h6,ge_iff_le,Bool.not_true,Bool.not_false,List.length_cons,List.length_nil]
           first|(simp_all[aK,cI];done)|(simp_all[aK,cI];omega)
         case true=>
           simp only[↓aX,mX,reduceCtorEq,Nat.reduceEqDiff,Nat.reduceLT,Nat.reduceLeDiff,Nat.reduceAdd,Nat.reduceMul,Int.reduceToNat,Int.reduceLE,Int.reduceLT,h0,h1,h3,h4,h6,ge_iff_le,Bool.not_true,Bool.not_false,List.length_cons,List.length_nil]
           cases h7:decide (6≤a.kind)
           case false=>
             simp only[↓aX,mX,reduceCtorEq,Nat.reduceEqDiff,Nat.reduceLT,Nat.reduceLeDiff,Nat.reduceAdd,Nat.reduceMul,Int.reduceToNat,Int.reduceLE,Int.reduceLT,h0,h1,h3,h4,h6,h7,ge_iff_le,Bool.not_true,Bool.not_false,List.length_cons,List.length_nil]
             first|(simp_all[aK,cI];done)|(simp_all[aK,cI];omega)
           case true=>
             simp only[↓aX,mX,reduceCtorEq,Nat.reduceEqDiff,Nat.reduceLT,Nat.reduceLeDiff,Nat.reduceAdd,Nat.reduceMul,Int.reduceToNat,Int.reduceLE,Int.reduceLT,h0,h1,h3,h4,h6,h7,ge_iff_le,Bool.not_true,Bool.not_false,List.length_cons,List.length_nil]
             first|(simp_all[aK,cI];done)|(simp_all[aK,cI];omega)
       case true=>
         simp only[↓aX,mX,reduceCtorEq,Nat.reduceEqDiff,Nat.reduceLT,Nat.reduceLeDiff,Nat.reduceAdd,Nat.reduceMul,Int.reduceToNat,Int.reduceLE,Int.reduceLT,h0,h1,h3,h4,ge_iff_le,Bool.not_true,Bool.not_false,List.length_cons,List.length_nil]
         cases h5:(a.name==b.name)
         case false=>
           simp only[↓aX,mX,reduceCtorEq,Nat.reduceEqDiff,Nat.reduceLT,Nat.reduceLeDiff,Nat.reduceAdd,Nat.reduceMul,Int.reduceToNat,Int.reduceLE,Int.reduceLT,h0,h1,h3,h4,h5,ge_iff_le,Bool.not_true,Bool.not_false,List.length_cons,List.length_nil]
           cases h6:(a.kind==b.kind)
           case false=>
             simp only[↓aX,mX,reduceCtorEq,Nat.reduceEqDiff,Nat.reduceLT,Nat.reduceLeDiff,Nat.reduceAdd,Nat.reduceMul,Int.reduceToNat,Int.reduceLE,Int.reduceLT,h0,h1,h3,h4,h5,h6,ge_iff_le,Bool.not_true,Bool.not_false,List.length_cons,List.length_nil]
             first|(simp_all[aK,cI];done)|(simp_all[aK,cI];omega)
           case true=>
             simp only[↓aX,mX,reduceCtorEq,Nat.reduceEqDiff,Nat.reduceLT,Nat.reduceLeDiff,Nat.reduceAdd,Nat.reduceMul,Int.reduceToNat,Int.reduceLE,Int.reduceLT,h0,h1,h3,h4,h5,h6,ge_iff_le,Bool.not_true,Bool.not_false,List.length_cons,List.length_nil]
             cases h7:decide (6≤a.kind)
             case false=>
               simp only[↓aX,mX,reduceCtorEq,Nat.reduceEqDiff,Nat.reduceLT,Nat.reduceLeDiff,Nat.reduceAdd,Nat.reduceMul,Int.reduceToNat,Int.reduceLE,Int.reduceLT,h0,h1,h3,h4,h5,h6,h7,ge_iff_le,Bool.not_true,Bool.not_false,List.length_cons,List.length_nil]
               first|(simp_all[aK,cI];done)|(simp_all[aK,cI];omega)
             case true=>
               simp only[↓aX,mX,reduceCtorEq,Nat.reduceEqDiff,Nat.reduceLT,Nat.reduceLeDiff,Nat.reduceAdd,Nat.reduceMul,Int.reduceToNat,Int.reduceLE,Int.reduceLT,h0,h1,h3,h4,h5,h6,h7,ge_iff_le,Bool.not_true,Bool.not_false,List.length_cons,List.length_nil]
               first|(simp_all[aK,cI];done)|(simp_all[aK,cI];omega)
         case true=>
           simp only[↓aX,mX,reduceCtorEq,Nat.reduceEqDiff,Nat.reduceLT,Nat.reduceLeDiff,Nat.reduceAdd,Nat.reduceMul,Int.reduceToNat,Int.reduceLE,Int.reduceLT,h0,h1,h3,h4,h5,ge_iff_le,Bool.not_true,Bool.not_false,List.length_cons,List.length_nil]
           first|(simp_all[aK,cI];done)|(simp_all[aK,cI];omega)
     case true=>
       simp only[↓aX,mX,reduceCtorEq,Nat.reduceEqDiff,Nat.reduceLT,Nat.reduceLeDiff,Nat.reduceAdd,Nat.reduceMul,Int.reduceToNat,Int.reduceLE,Int.reduceLT,h0,h1,h3,ge_iff_le,Bool.not_true,Bool.not_false,List.length_cons,List.length_nil]
       cases h5:(a.name==b.name)
       case false=>
         simp only[↓aX,mX,reduceCtorEq,Nat.reduceEqDiff,Nat.reduceLT,Nat.reduceLeDiff,Nat.reduceAdd,Nat.reduceMul,Int.reduceToNat,Int.reduceLE,Int.reduceLT,h0,h1,h3,h5,ge_iff_le,Bool.not_true,Bool.not_false,List.length_cons,List.length_nil]
         cases h6:(a.kind==b.kind)
         case false=>
           simp only[↓aX,mX,reduceCtorEq,Nat.reduceEqDiff,Nat.reduceLT,Nat.reduceLeDiff,Nat.reduceAdd,Nat.reduceMul,Int.reduceToNat,Int.reduceLE,Int.reduceLT,h0,h1,h3,h5,h6,ge_iff_le,Bool.not_true,Bool.not_false,List.length_cons,List.length_nil]
           first|(simp_all[aK,cI];done)|(simp_all[aK,cI];omega)
         case true=>
           simp only[↓aX,mX,reduceCtorEq,Nat.reduceEqDiff,Nat.reduceLT,Nat.reduceLeDiff,Nat.reduceAdd,Nat.reduceMul,Int.reduceToNat,Int.reduceLE,Int.reduceLT,h0,h1,h3,h5,h6,ge_iff_le,Bool.not_true,Bool.not_false,List.length_cons,List.length_nil]
           cases h7:decide (6≤a.kind)
           case false=>
             simp only[↓aX,mX,reduceCtorEq,Nat.reduceEqDiff,Nat.reduceLT,Nat.reduceLeDiff,Nat.reduceAdd,Nat.reduceMul,Int.reduceToNat,Int.reduceLE,Int.reduceLT,h0,h1,h3,h5,h6,h7,ge_iff_le,Bool.not_true,Bool.not_false,List.length_cons,List.length_nil]
             first|(simp_all[aK,cI];done)|(simp_all[aK,cI];omega)
           case true=>
             simp only[↓aX,mX,reduceCtorEq,Nat.reduceEqDiff,Nat.reduceLT,Nat.reduceLeDiff,Nat.reduceAdd,Nat.reduceMul,Int.reduceToNat,Int.reduceLE,Int.reduceLT,h0,h1,h3,h5,h6,h7,ge_iff_le,Bool.not_true,Bool.not_false,List.length_cons,List.length_nil]
             first|(simp_all[aK,cI];done)|(simp_all[aK,cI];omega)
       case true=>
         simp only[↓aX,mX,reduceCtorEq,Nat.reduceEqDiff,Nat.reduceLT,Nat.reduceLeDiff,Nat.reduceAdd,Nat.reduceMul,Int.reduceToNat,Int.reduceLE,Int.reduceLT,h0,h1,h3,h5,ge_iff_le,Bool.not_true,Bool.not_false,List.length_cons,List.length_nil]
         first|(simp_all[aK,cI];done)|(simp_all[aK,cI];omega)
 case true=>
   simp only[↓aX,mX,reduceCtorEq,Nat.reduceEqDiff,Nat.reduceLT,Nat.reduceLeDiff,Nat.reduceAdd,Nat.reduceMul,Int.reduceToNat,Int.reduceLE,Int.reduceLT,h0,ge_iff_le,Bool.not_true,Bool.not_false,List.length_cons,List.length_nil]
   first|(simp_all[aK,cI];done)|(simp_all[aK,cI];omega)
end Go.Am

/- The bench: attributes set and dropped. -/
set_option pp.deepTerms false
set_option pp.deepTerms.threshold 5
namespace Go.Am
open Go Go.RowKit
def iM (as:List Attr) (o:Op):List Attr:=
 if o.kind=10 then(if mJ as o.name then as.take (er as o.name)++as.drop (er as o.name+1) else as)
 else if mJ as o.name then as.set (er as o.name) ⟨o.name,o.s⟩ else as.take (er as o.name)++[⟨o.name,o.s⟩]++as.drop (er as o.name)
def Bn.attr (b:Bn) (n:Nat) (o:Op):Bn:=match b.nodes[n]? with
 |some x=>b.set n {x with attrs:=iM x.attrs o}
 |none=>b
theorem zD (as:List Attr) (key:Bs):er as key≤as.length:=by unfold er;exact(List.takeWhile_sublist _).length_le
theorem sb {as:List Attr} {key:Bs} (h:mJ as key=true):∃a,as[er as key]?=some a∧a.name=key:=by
 unfold mJ at h;split at h
 ·rename_i a ha;exact⟨a,ha,by simpa using h⟩
 ·cases h
theorem wE {α:Type} {l:List α} {n:Nat} {v:α} (h:l[n]?=some v):l.set n v=l:=by
 obtain⟨h1,rfl⟩:=List.getElem?_eq_some_iff.1 h;exact List.set_getElem_self h1
theorem C1 {as:List Attr} {i:Nat} {a:Attr} (h:as[i]?=some a):(ay (dY as))[i]?=some [.str a.name,.str a.val]:=by
 simp[ay,dY,h,Attr.iv,Attr.cs,IV.cells,IV.cW]
theorem C2 (as:List Attr) (i:Nat) (a:Attr):(ay (dY as)).set i [.str a.name,.str a.val]=ay (dY (as.set i a)):=by
 simp[ay,dY,List.map_set,Attr.iv,Attr.cs,IV.cells,IV.cW]
def My (P:Program) (G:Nat→Option (List IV)) (f:Nat):Prop:=∀(xs vs:List Attr) (i:Nat),i≤xs.length→xs.length+vs.length≤B →
 rV P G 2 f [.sl (.par 0) 2 0 xs.length,.int .i64 i,.list (dY vs)] (dY xs) (dY (xs.take i++vs++xs.drop i))
def Mz (P:Program) (G:Nat→Option (List IV)) (f:Nat):Prop:=∀(xs:List Attr) (i:Nat),i<xs.length→xs.length≤B →
 rV P G 2 f [.sl (.par 0) 2 0 xs.length,.int .i64 i,.int .i64 ((i+1:Nat):Int)] (dY xs) (dY (xs.take i++xs.drop (i+1)))
section
variable {P:Program} {G:Nat→Option (List IV)}
def fa (aH bM bc bd:Nat):AC:=
(.seq (.aM [⟨some 3,none,.box (.t 1)⟩]) (.seq (.eY [⟨some 7,none,.ak (.t 0)⟩,⟨some 8,none,.ef (.t 7)⟩,⟨some 9,none,.bV (.t 8) 0⟩,⟨some 10,none,.load none (.t 9)⟩,⟨some 11,none,.bV (.t 3) 1⟩,⟨some 12,none,.load none (.t 11)⟩,⟨some 13,none,.fJ (.t 10) (.t 12) 5⟩,⟨some 4,none,.ak (.t 13)⟩] [[],[0],[1],[2],[],[4],[3,5],[6,0,1,2,3,4,5,6]] [.no,.no,.no,(.rw [(.par 0)] []),.no,.rw [.loc 3] [],.no,.no]) (.seq (.eY [⟨some 15,none,.ak (.t 4)⟩,⟨some 16,none,.ef (.t 15)⟩,⟨some 17,none,.bV (.t 16) 2⟩,⟨some 18,none,.load none (.t 17)⟩,⟨some 19,none,.bV (.t 3) 3⟩,⟨some 20,none,.load none (.t 19)⟩,⟨some 21,none,.call aH [(.t 18),(.t 20),(.c (.fn bM [] []))]⟩,⟨some 14,none,.ak (.t 21)⟩,⟨some 22,none,.ext (.t 14) 0⟩,⟨some 23,none,.ext (.t 14) 1⟩,⟨some 5,none,.ak (.t 22)⟩,⟨some 6,none,.ak (.t 23)⟩] [[],[0],[1],[2],[],[4],[3,5],[6],[7],[7],[8,6,0,1,2,3,4,5,6,7,8],[9,10,0,1,2,3,4,5,6,7,8,9,10]] [.no,.no,.no,(.rw [(.par 1)] []),.no,.rw [.loc 3] [],(.qx []),.no,.no,.no,.no,.no]) (.block 0 (.seq (.aM [⟨some 25,none,.bV (.t 3) 0⟩,⟨some 26,none,.load none (.t 25)⟩,⟨some 27,none,.bin .eql (.t 26) (.c (.int .i64 10))⟩,⟨some 28,none,.ak (.t 27)⟩,⟨some 29,(some (28,true)),(.ak (.t 6))⟩,⟨some 30,none,.pick (.t 28) (.t 29) (.c (.bool false))⟩,⟨some 24,none,.ak (.t 30)⟩]) (.cond (.t 24) (.aM [⟨some 31,none,.ak (.t 4)⟩,⟨some 32,none,.ak (.t 4)⟩,⟨some 33,none,.ef (.t 32)⟩,⟨some 34,none,.bV (.t 33) 2⟩,⟨some 35,none,.load none (.t 34)⟩,⟨some 36,none,.ak (.t 5)⟩,⟨some 37,none,.ak (.t 5)⟩,⟨some 38,none,.bin .add (.t 37) (.c (.int .i64 1))⟩,⟨some 39,none,.call bc [(.t 35),(.t 36),(.t 38)]⟩,⟨some 40,none,.ef (.t 31)⟩,⟨some 41,none,.bV (.t 40) 2⟩,⟨none,none,.store 1 (.t 41) (.t 39)⟩]) (.seq (.aM [⟨some 43,none,.bV (.t 3) 0⟩,⟨some 44,none,.load none (.t 43)⟩,⟨some 45,none,.bin .eql (.t 44) (.c (.int .i64 9))⟩,⟨some 46,none,.ak (.t 45)⟩,⟨some 47,(some (46,true)),(.ak (.t 6))⟩,⟨some 48,none,.pick (.t 46) (.t 47) (.c (.bool false))⟩,⟨some 42,none,.ak (.t 48)⟩]) (.cond (.t 42) (.eY [⟨some 49,none,.ak (.t 4)⟩,⟨some 50,none,.ef (.t 49)⟩,⟨some 51,none,.bV (.t 50) 2⟩,⟨some 52,none,.load none (.t 51)⟩,⟨some 53,none,.ak (.t 5)⟩,⟨some 54,none,.bV (.t 3) 4⟩,⟨some 55,none,.load none (.t 54)⟩,⟨some 56,none,.fJ (.t 52) (.t 53) 2⟩,⟨some 57,none,.bV (.t 56) 1⟩,⟨none,none,.store 1 (.t 57) (.t 55)⟩] [[],[0],[1],[2],[],[],[5],[3,4,0,1,2,3,4,5,6],[7,0,1,2,3,4,5,6],[8,6,0,1,2,3,4,5,6]] [.no,.no,.no,(.rw [(.par 1)] []),.no,.no,.rw [.loc 3] [],.no,.no,.all]) (.seq (.aM [⟨some 59,none,.bV (.t 3) 0⟩,⟨some 60,none,.load none (.t 59)⟩,⟨some 61,none,.bin .eql (.t 60) (.c (.int .i64 9))⟩,⟨some 58,none,.ak (.t 61)⟩]) (.cond (.t 58) (.eY [⟨some 62,none,.ak (.t 4)⟩,⟨some 63,none,.ak (.t 4)⟩,⟨some 64,none,.ef (.t 63)⟩,⟨some 65,none,.bV (.t 64) 2⟩,⟨some 66,none,.load none (.t 65)⟩,⟨some 67,none,.ak (.t 5)⟩,⟨some 68,none,.bV (.t 3) 3⟩,⟨some 69,none,.load none (.t 68)⟩,⟨some 70,none,.bV (.t 3) 4⟩,⟨some 71,none,.load none (.t 70)⟩,⟨some 72,none,.o7 [(.str []),(.str [])] [(0,(1,(.t 69))),(1,(1,(.t 71)))]⟩,⟨some 73,none,.lits 1 2 [(.str []),(.str [])] [(0,(.t 72))]⟩,⟨some 74,none,.call bd [(.t 66),(.t 67),(.t 73)]⟩,⟨some 75,none,.ef (.t 62)⟩,⟨some 76,none,.bV (.t 75) 2⟩,⟨none,none,.store 1 (.t 76) (.t 74)⟩] [[],[],[1],[2],[3],[],[],[6],[],[8],[7,9],[10],[4,5,11],[0,0,1,2,3,4,5,6,7,8,9,10,11,12],[13,0,1,2,3,4,5,6,7,8,9,10,11,12],[14,12,12,0,1,2,3,4,5,6,7,8,9,10,11,12]] [.no,.no,.no,.no,(.rw [(.par 1)] []),.no,.no,.rw [.loc 3] [],.no,.rw [.loc 3] [],.no,.no,(.qx []),.no,.no,(.rw [] [(.par 1)])]) .skip))))))))))
set_option maxRecDepth 20000 in
theorem MA {aw aH bM bc bd:Nat} (hF:aA P G aw=some (77,[],(fa aH bM bc bd).bare)) (b:Bn) (n:Nat) (hp:n<b.n0) (x:Node) (hx:b.nodes[n]?=some x)
  (o:Op) (ht:o.target=n) (hk:o.kind=9∨o.kind=10) (hb:x.attrs.length+1≤B) (hS:az P G aH [.list (dY x.attrs),.str o.name,.fn bM [] []] (.dU [.int .i64 (er x.attrs o.name),.bool (mJ x.attrs o.name)]))
  (hI:My P G bd) (hD:Mz P G bc) :
  n5 P G aw [.ptr (.par 0) 3 0 0,o.av] (cz b) (b.Bt (4+2*n)) fun X R2=>X=(fun _=> .dU [])∧R2=cz (b.attr n o):=by
 refine dZ hF (by simp) (by simp[ax,AV.aI,a9,Op.av];omega) ?_;have dE:bW Lb.par b (eC (cz b)):=eF _;have hU:∀q:Lb,(∀p,p<4+2*b.n0→q≠ .par p)→eC (cz b) q= .unused:=fun q hq=>dD _ fun p hp e=>hq p (a9.1 hp) e.symm
 have h3:eC (cz b) (.loc 3)= .unused:=hU _ (by simp);have RD:eC (cz b) (.gen 39)= .unused:=hU _ (by simp);have RE:eC (cz b) (.gen 74)= .unused:=hU _ (by simp);have hlen:n<b.nodes.length:=(List.getElem?_eq_some_iff.1 hx).1;have pw:B=1073741824:=rfl;have nI:=cU (n0:=b.n0) (lab:=Lb.par) (x:=x) hp;have cM:=dE.get hx;rw[nI] at cM;have kP:=dE.at' hp hx;unfold fa
 simp only[↓aX,mX,reduceCtorEq,Nat.reduceEqDiff,Nat.reduceLT,Nat.reduceLeDiff,Nat.reduceAdd,Nat.reduceMul,Int.reduceToNat,Int.reduceLE,Int.reduceLT,Op.av,ht,h3,dE.s,dE.n,hlen,List.length_mapIdx,Int.natCast_nonneg,Int.toNat_natCast,and_self,true_and,Nat.zero_add,cM];refine⟨rfl,rfl,?_⟩
 refine Cs hS (.cons (wA (by rw[aq _ _ (by simp)];exact kP) (pU _) (by simp[cX])) (.cons (.same _) (.cons (.same _) .nil))) rfl ?_;have BD:=zD x.attrs o.name;have hw:IntKind.i64.wrap ((er x.attrs o.name:Int)+1)=((er x.attrs o.name+1:Nat):Int):=wrap64 (by omega) (by omega);have DZ:IntKind.i64.wrap ((er x.attrs o.name:Int)+1)=((er x.attrs o.name+1:Nat):Int):=hw
 simp only[↓aX,mX,reduceCtorEq,Nat.reduceEqDiff,Nat.reduceLT,Nat.reduceLeDiff,Nat.reduceAdd,Nat.reduceMul,Int.reduceToNat,Int.reduceLE,Int.reduceLT,Op.av,ht,h3,dE.s,dE.n,hlen,List.length_mapIdx,Int.natCast_nonneg,Int.toNat_natCast,and_self,true_and,Nat.zero_add,cM];have JI:b.attr n o=b.set n {x with attrs:=iM x.attrs o}:=by unfold Bn.attr;rw[hx]
 have SD:bW Lb.par b (bG (eC (cz b)) (.loc 3) (.live ⟨5,[[.int .i64 o.kind,.int .i64 n,.list (dc o.content),.str o.name,.str o.s]]⟩)):=dE.iW (by simp)
 have key:∀(N:Lb) (ys:List Attr),iM x.attrs o=ys→(N= .par (4+2*n)∨N= .gen 39∨N= .gen 74)→∀H2:Hp,H2 (.par 1)= .live ⟨5,(b.nodes.mapIdx (cx b.n0 Lb.par)).set n [.bool x.text,.str x.s,.sl N 2 0 ys.length,.int .i64 x.parent,.sl (.par (5+2*n)) 1 0 x.kids.length]⟩ →
   H2 N= .live ⟨2,ay (dY ys)⟩→(∀q,q≠ .par 1→q≠N→q≠ .par (4+2*n)→q≠ .loc 3→H2 q=eC (cz b) q) →
   ∃t:((Nat→Lb)→AV)×kS×(Nat→Lb),(t.1=(fun _=> .dU [])∧t.2.1=cz (b.attr n o))∧(∀ρ,cG ρ (t.1 t.2.2)=t.1 fun i=>ρ (t.2.2 i))∧(∀l∈(AV.dU []).aI,∃p,t.2.1.ok p∧l=t.2.2 p)∧AV.dU []=t.1 t.2.2∧jx t.2.2 t.2.1 H2∧∀p'∈b.Bt (4+2*n),t.2.2 p'= .par p':=by
  intro N ys n8 hN H2 e1 e2 e3;refine⟨⟨fun _=> .dU [],cz (b.attr n o),fun p'=>if p'=4+2*n then N else .par p'⟩,⟨rfl,rfl⟩,fun ρ=>by simp[cG,cn],by simp[AV.aI,ax],rfl,?_,?_⟩
  ·rw[JI,n8]
   have RF:∀p',(if p'=4+2*n then N else Lb.par p')≠ .loc 3:=by
    intro p';split
    ·rcases hN with rfl|rfl|rfl<;>simp
    ·simp
   have:=bW.Mp (H2:=fun q=>if q= .loc 3 then eC (cz b) q else H2 q) dE (N:=N) (ys:=ys) hp hx (by
    rcases hN with rfl|rfl|rfl
    ·exact .inl rfl
    ·exact .inr (by simp)
    ·exact .inr (by simp)) (by simp[e1]) (by rw[if_neg (by rcases hN with rfl|rfl|rfl<;>simp)];exact e2) (by
    intro q g1 g2 g3;by_cases g4:q= .loc 3
    ·simp[g4]
    ·simp only[g4,if_false];exact e3 q g1 g2 g3 g4)
   refine⟨fun q r hr=> ?_,this.inj⟩;have h1:=this.row q r hr;exact(if_neg (RF q)).symm.trans h1
  ·intro p' ed;exact if_neg (fZ.1 ed).2
 have KA:¬(1:Nat)=4+2*n:=by omega
 have OZ:∀P Q:List Attr,(if(9:Int)=10 then P else Q)=Q:=fun _ _=>if_neg (by decide)
 rcases hk with hk|hk
 ·simp only[↓aX,mX,reduceCtorEq,Nat.reduceEqDiff,Nat.reduceLT,Nat.reduceLeDiff,Nat.reduceAdd,Nat.reduceMul,Int.reduceToNat,Int.reduceLE,Int.reduceLT,hk,Int.reduceBEq,ht,h3,dE.s,dE.n,hlen,List.length_mapIdx,Int.natCast_nonneg,Int.toNat_natCast,and_self,true_and,Nat.zero_add,cM];refine nu (fun h=> ?_) (fun h=> ?_)
  ·obtain⟨a,ha,hn⟩:=sb h;have Hn:er x.attrs o.name<x.attrs.length:=(List.getElem?_eq_some_iff.1 ha).1;simp only[↓aX,mX,reduceCtorEq,Nat.reduceEqDiff,Nat.reduceLT,Nat.reduceLeDiff,Nat.reduceAdd,Nat.reduceMul,Int.reduceToNat,Int.reduceLE,Int.reduceLT,hk,h,Int.reduceBEq,ht,h3,dE.s,dE.n,hlen,List.length_mapIdx,Int.natCast_nonneg,Int.toNat_natCast,and_self,true_and,Nat.zero_add,cM];refine⟨rfl,?_⟩
   have O0:=C1 ha;simp only[↓aX,mX,reduceCtorEq,Nat.reduceEqDiff,Nat.reduceLT,Nat.reduceLeDiff,Nat.reduceAdd,Nat.reduceMul,Int.reduceToNat,Int.reduceLE,Int.reduceLT,Hn,h3,kP,O0];rw[gJ];refine⟨[],rfl,key (.par (4+2*n)) (x.attrs.set (er x.attrs o.name) ⟨o.name,o.s⟩) ?_ (.inl rfl) _ ?_ ?_ ?_⟩
   ·simp only[iM,hk,OZ,h,if_true]
   ·rw[List.length_set,wE cM];simp[ai,dE.n,KA]
   ·rw[ai,if_pos rfl,←C2,hn]
   ·intro q g1 g2 g3 g4;simp[ai,g3,g4]
  ·simp only[↓aX,mX,reduceCtorEq,Nat.reduceEqDiff,Nat.reduceLT,Nat.reduceLeDiff,Nat.reduceAdd,Nat.reduceMul,Int.reduceToNat,Int.reduceLE,Int.reduceLT,hk,h,Int.reduceBEq,ht,h3,dE.s,dE.n,hlen,List.length_mapIdx,Int.natCast_nonneg,Int.toNat_natCast,and_self,true_and,Nat.zero_add,cM];refine⟨rfl,?_⟩
   refine qE (l:= .par (4+2*n)) (N:= .gen 74) (hI x.attrs [⟨o.name,o.s⟩] (er x.attrs o.name) BD (by simp;omega)) rfl (by rw[aq _ _ (by simp)];exact kP) (by rw[aq _ _ (by simp)];exact RE) (by simp[Lb.fresh]) (by simp) (by simp) ?_ ?_
   ·simp only[↓aX,mX,reduceCtorEq,Nat.reduceEqDiff,Nat.reduceLT,Nat.reduceLeDiff,Nat.reduceAdd,Nat.reduceMul,Int.reduceToNat,Int.reduceLE,Int.reduceLT,hk,h,Int.reduceBEq,ht,h3,dE.s,dE.n,hlen,List.length_mapIdx,Int.natCast_nonneg,Int.toNat_natCast,and_self,true_and,Nat.zero_add,cM,cX,KA];rw[gJ]
    refine⟨[],rfl,key (.gen 74) (x.attrs.take (er x.attrs o.name)++[⟨o.name,o.s⟩]++x.attrs.drop (er x.attrs o.name)) ?_ (.inr (.inr rfl)) _ ?_ ?_ ?_⟩
    ·simp[iM,hk,h]
    ·simp[ai]
    ·simp[ai]
    ·intro q g1 g2 g3 g4;simp[ai,g1,g2,g3,g4]
   ·simp only[↓aX,mX,reduceCtorEq,Nat.reduceEqDiff,Nat.reduceLT,Nat.reduceLeDiff,Nat.reduceAdd,Nat.reduceMul,Int.reduceToNat,Int.reduceLE,Int.reduceLT,hk,h,Int.reduceBEq,ht,h3,dE.s,dE.n,hlen,List.length_mapIdx,Int.natCast_nonneg,Int.toNat_natCast,and_self,true_and,Nat.zero_add,cM,cX,KA];rw[gJ]
    refine⟨[],rfl,key (.par (4+2*n)) (x.attrs.take (er x.attrs o.name)++[⟨o.name,o.s⟩]++x.attrs.drop (er x.attrs o.name)) ?_ (.inl rfl) _ ?_ ?_ ?_⟩
    ·simp[iM,hk,h]
    ·simp[ai]
    ·simp[ai];omega
    ·intro q g1 g2 g3 g4;simp[ai,g1,g3,g4]
 ·simp only[↓aX,mX,reduceCtorEq,Nat.reduceEqDiff,Nat.reduceLT,Nat.reduceLeDiff,Nat.reduceAdd,Nat.reduceMul,Int.reduceToNat,Int.reduceLE,Int.reduceLT,hk,Int.reduceBEq,ht,h3,dE.s,dE.n,hlen,List.length_mapIdx,Int.natCast_nonneg,Int.toNat_natCast,and_self,true_and,Nat.zero_add,cM];refine nu (fun h=> ?_) (fun h=> ?_)
  ·obtain⟨a,ha,hn⟩:=sb h;have Hn:er x.attrs o.name<x.attrs.length:=(List.getElem?_eq_some_iff.1 ha).1;simp only[↓aX,mX,reduceCtorEq,Nat.reduceEqDiff,Nat.reduceLT,Nat.reduceLeDiff,Nat.reduceAdd,Nat.reduceMul,Int.reduceToNat,Int.reduceLE,Int.reduceLT,hw,h,Int.reduceBEq,ht,h3,dE.s,dE.n,hlen,List.length_mapIdx,Int.natCast_nonneg,Int.toNat_natCast,and_self,true_and,Nat.zero_add,cM]
   refine tE (l:= .par (4+2*n)) (N:= .gen 39) (hD x.attrs (er x.attrs o.name) Hn (by omega)) rfl (by rw[aq _ _ (by simp)];exact kP) (by rw[aq _ _ (by simp)];exact RD) (by simp[Lb.fresh]) ?_ ?_
   ·simp only[↓aX,mX,reduceCtorEq,Nat.reduceEqDiff,Nat.reduceLT,Nat.reduceLeDiff,Nat.reduceAdd,Nat.reduceMul,Int.reduceToNat,Int.reduceLE,Int.reduceLT,hk,h,Int.reduceBEq,ht,h3,dE.s,dE.n,hlen,List.length_mapIdx,Int.natCast_nonneg,Int.toNat_natCast,and_self,true_and,Nat.zero_add,cM,cX,KA];rw[gJ]
    refine⟨[],rfl,key (.gen 39) (x.attrs.take (er x.attrs o.name)++x.attrs.drop (er x.attrs o.name+1)) ?_ (.inr (.inl rfl)) _ ?_ ?_ ?_⟩
    ·simp[iM,hk,h]
    ·simp[ai]
    ·simp[ai]
    ·intro q g1 g2 g3 g4;simp[ai,g1,g2,g3,g4]
   ·simp only[↓aX,mX,reduceCtorEq,Nat.reduceEqDiff,Nat.reduceLT,Nat.reduceLeDiff,Nat.reduceAdd,Nat.reduceMul,Int.reduceToNat,Int.reduceLE,Int.reduceLT,hk,h,Int.reduceBEq,ht,h3,dE.s,dE.n,hlen,List.length_mapIdx,Int.natCast_nonneg,Int.toNat_natCast,and_self,true_and,Nat.zero_add,cM,cX,KA];rw[gJ]
    refine⟨[],rfl,key (.par (4+2*n)) (x.attrs.take (er x.attrs o.name)++x.attrs.drop (er x.attrs o.name+1)) ?_ (.inl rfl) _ ?_ ?_ ?_⟩
    ·simp[iM,hk,h]
    ·simp[ai]
    ·simp[ai];omega
    ·intro q g1 g2 g3 g4;simp[ai,g1,g3,g4]
  ·simp only[↓aX,mX,reduceCtorEq,Nat.reduceEqDiff,Nat.reduceLT,Nat.reduceLeDiff,Nat.reduceAdd,Nat.reduceMul,Int.reduceToNat,Int.reduceLE,Int.reduceLT,hk,h,Int.reduceBEq,ht,h3,dE.s,dE.n,hlen,List.length_mapIdx,Int.natCast_nonneg,Int.toNat_natCast,and_self,true_and,Nat.zero_add,cM];rw[gJ];refine⟨[],rfl,key (.par (4+2*n)) x.attrs ?_ (.inl rfl) _ ?_ ?_ ?_⟩
   ·simp[iM,hk,h]
   ·rw[wE cM];simp[ai,dE.n,KA]
   ·simp[ai,kP]
   ·intro q g1 g2 g3 g4;simp[ai,g4]
end
end Go.Am

/- Attributes set and dropped, by their names. -/
namespace Go.Am
open Go Go.RowKit
def FY (as:List Attr) (k v:Bs):List Attr:=as.filter (fun a=>Op.bytesLess a.name k)++⟨k,v⟩::as.filter (fun a=>Op.bytesLess k a.name)
def zE (as:List Attr) (k:Bs):List Attr:=as.filter (fun a=>Op.bytesLess a.name k)++as.filter (fun a=>Op.bytesLess k a.name)
theorem qG:∀{as:List Attr},gD as=true↔as.Pairwise fun a b=>Op.bytesLess a.name b.name=true
 |[]=>by simp[gD]
 |a::r=>by
  rw[List.pairwise_cons];constructor
  ·intro h;exact⟨qF h,qG.1 (px h)⟩
  ·rintro⟨h1,h2⟩;cases r with
   |nil=>rfl
   |cons b r=>simp only[gD,Bool.and_eq_true];exact⟨h1 b (by simp),qG.2 h2⟩
theorem tK {key:Bs}:∀{as:List Attr},gD as=true→as.take (er as key)=as.filter (fun a=>Op.bytesLess a.name key) ∧
  (mJ as key=true→as.drop (er as key+1)=as.filter (fun a=>Op.bytesLess key a.name))∧(mJ as key=false→as.drop (er as key)=as.filter (fun a=>Op.bytesLess key a.name))
 |[],_=>by simp[er,mJ]
 |a::r,h=>by
  have ht:=px h;have cj:=qF h;obtain⟨i1,i2,i3⟩:=tK (key:=key) ht;cases h1:Op.bytesLess a.name key with
  |true=>
   have hp:er (a::r) key=er r key+1:=by simp[er,List.takeWhile_cons,h1]
   have hh:mJ (a::r) key=mJ r key:=by unfold mJ;rw[hp];simp
   rw[hp,hh];refine⟨by rw[List.take_succ_cons,i1];simp[List.filter_cons,h1],fun hq=> ?_,fun hq=> ?_⟩
   ·rw[List.drop_succ_cons,i2 hq,List.filter_cons_of_neg (by rw[zz h1];simp)]
   ·rw[List.drop_succ_cons,i3 hq,List.filter_cons_of_neg (by rw[zz h1];simp)]
  |false=>
   have hp:er (a::r) key=0:=by simp[er,List.takeWhile_cons,h1]
   have o_:∀b∈r,Op.bytesLess b.name key=false:=fun b hb=>by
    cases hq:Op.bytesLess b.name key with
    |false=>rfl
    |true=>rw[oV (cj b hb) hq] at h1;cases h1
   have Eo:∀b∈r,Op.bytesLess key b.name=true:=fun b hb=>by
    rcases ym key a.name with h2|h2|h2
    ·exact oV h2 (cj b hb)
    ·rw[h2];exact cj b hb
    ·rw[h2] at h1;cases h1
   have Kt:(a::r).filter (fun a=>Op.bytesLess a.name key)=[]:=by
    rw[List.filter_eq_nil_iff];intro b hb;rcases List.mem_cons.1 hb with rfl|hb
    ·rw[h1];simp
    ·rw[o_ b hb];simp
   have xn:r.filter (fun a=>Op.bytesLess key a.name)=r:=List.filter_eq_self.2 Eo;have hh:mJ (a::r) key=(a.name==key):=by unfold mJ;rw[hp];simp
   rw[hp,hh];refine⟨by rw[Kt];rfl,fun hq=> ?_,fun hq=> ?_⟩
   ·have e:a.name=key:=by simpa using hq
    simp only[List.filter_cons,e,yl,Bool.false_eq_true,if_false,xn,List.drop_succ_cons,List.drop_zero]
   ·have e:a.name≠key:=by simpa using hq
    have:Op.bytesLess key a.name=true:=by
     rcases ym key a.name with h2|h2|h2
     ·exact h2
     ·exact absurd h2.symm e
     ·rw[h2] at h1;cases h1
    simp only[List.filter_cons,this,if_true,xn,List.drop_zero]
theorem C3 {as:List Attr} (h:gD as=true) (o:Op):iM as o=if o.kind=10 then zE as o.name else FY as o.name o.s:=by
 obtain⟨i1,i2,i3⟩:=tK (key:=o.name) h;unfold iM zE FY;cases hh:mJ as o.name with
 |true=>
  obtain⟨a,ha,hn⟩:=sb hh;have cj:=(List.getElem?_eq_some_iff.1 ha).1;have ld:as.set (er as o.name) ⟨o.name,o.s⟩=as.take (er as o.name)++⟨o.name,o.s⟩::as.drop (er as o.name+1):=List.set_eq_take_append_cons_drop.trans (if_pos cj);simp only[if_true];rw[ld,i1,i2 hh]
 |false=>
  simp only[Bool.false_eq_true,if_false];rw[i1,i3 hh];split
  ·rw[←i1,←i3 hh,List.take_append_drop]
  ·simp
theorem C4 {as:List Attr} (h:gD as=true) (k v:Bs):gD (FY as k v)=true:=by
 rw[qG] at h ⊢;unfold FY;rw[List.pairwise_append,List.pairwise_cons];refine⟨h.filter _,⟨fun b hb=> ?_,h.filter _⟩,fun a ha b hb=> ?_⟩
 ·exact(List.mem_filter.1 hb).2
 ·have h1:=(List.mem_filter.1 ha).2;rcases List.mem_cons.1 hb with rfl|hb
  ·exact h1
  ·exact oV h1 (List.mem_filter.1 hb).2
theorem AQ {as:List Attr} (h:gD as=true) (k:Bs):gD (zE as k)=true:=by
 rw[qG] at h ⊢;unfold zE;rw[List.pairwise_append];exact⟨h.filter _,h.filter _,fun a ha b hb=>oV (List.mem_filter.1 ha).2 (List.mem_filter.1 hb).2⟩
theorem AR {as:List Attr} (h:gD as=true) (o:Op):gD (iM as o)=true:=by
 rw[C3 h];split
 ·exact AQ h _
 ·exact C4 h _ _
theorem AS (as:List Attr) (o:Op):(iM as o).length≤as.length+1:=by
 have:=zD as o.name;unfold iM;split
 ·split
  ·simp;omega
  ·omega
 ·split
  ·simp
  ·simp;omega
end Go.Am

/- THE ABSTRACT MACHINE, part 50: an empty slice in a cell of any row, owned. -/
namespace Go.Am
open Go Go.RowKit
theorem qc {S:St} {env:Env} {H:Hp} {q N:Lb} {sq i j sz:Nat} {els:List (List AV)} {cs:List AV} (g1:H q= .live ⟨sq,els⟩) (g0:els[i]?=some cs) (g2:cs[j]?=some .nil0) (g3:H N= .unused) (g4:0<sz) :
  iz S env H env (bG (bG H N (.live ⟨sz,[]⟩)) q (.live ⟨sq,els.set i (cs.set j (.sl N sz 0 0))⟩)):=by
 intro K β a w Lv hS hr;have hk:=hr.mr N g3 (r:=⟨sz,[]⟩) (Below.refl _ _) none (by simp) (by simp) ⟨g4,by simp,by simp⟩;have JE:q≠N:=by rintro rfl;rw[g1] at g3;cases g3
 have hq:bG H N (.live ⟨sz,[]⟩) q= .live ⟨sq,els⟩:=by rw[aq _ _ JE];exact g1
 have hlen:=(hr.rows q _ g1).2.1;have L_:bG β N none q=β q:=aq _ _ JE;have qT:i<els.length:=(List.getElem?_eq_some_iff.1 g0).1;cases hb:β q with
 |none=>
  have:=(hr.rows q _ g1).2.2;simp only[hb] at this;rw[this] at qT;simp at qT
 |some g=>
  obtain⟨cur,e0,cap,k1,k2,k3,k4,k5⟩:=(hk.rows q _ hq).block (L_.trans hb);have yR:j<cs.length:=(List.getElem?_eq_some_iff.1 g2).1
  have ld:=hk.setRow q (r':=⟨sq,els.set i (cs.set j (.sl N sz 0 0))⟩) (cur':=cur) (cap:=cap) hq (L_.trans hb) k1 rfl rfl k2 k3 (by simpa using k4) (by
    intro ds vy;rcases List.mem_or_eq_of_mem_set vy with h|rfl
    ·exact hlen ds h
    ·simpa using hlen cs (List.mem_of_getElem? g0))
   (by
    intro ds vy p hp;rcases List.mem_or_eq_of_mem_set vy with h|rfl
    ·exact hk.dA q _ hq ds h p hp
    ·obtain⟨y,hy,D0⟩:=rR hp;rcases List.mem_or_eq_of_mem_set hy with hy|rfl
     ·obtain⟨m,hm⟩:=List.getElem?_of_mem hy;exact hk.dA q _ hq cs (List.mem_of_getElem? g0) p (dI _ _ _ hm p D0)
     ·simp only[AV.aI,List.mem_singleton] at D0;subst D0;simp)
   (by
    intro i' j' ds x0 eJ jB;by_cases ei:i'=i
    ·subst ei;simp only at eJ;rw[List.getElem?_set_self qT] at eJ;cases eJ;by_cases e:j'=j
     ·subst e;rw[List.getElem?_set_self yR] at jB;cases jB;obtain⟨v,q1,q2⟩:=k5 i' j' cs _ g0 g2;simp only[RV] at q2;obtain⟨ad,rfl⟩:=q2;refine⟨_,q1,?_⟩;simp only[RV];exact⟨ad,0,rfl,Nat.le_refl _,by simp[maxLen],by simp,fun _=> .inl rfl⟩
     ·rw[List.getElem?_set_ne (Ne.symm e)] at jB;exact k5 i' j' cs x0 g0 jB
    ·simp only at eJ;rw[List.getElem?_set_ne (Ne.symm ei)] at eJ;exact k5 i' j' ds x0 eJ jB)
  have dM:w.setRow g cur=w:=setRow_self w g cur e0 (0,0) k1;rw[dM] at ld;exact⟨_,ld⟩
end Go.Am

/- The bench: a node has just a text. -/
set_option pp.deepTerms false
set_option pp.deepTerms.threshold 5
namespace Go.Am
open Go Go.RowKit
def AT (s:Bs):Tree:= .mk true s [] []
theorem yr (s:Bs):(AT s).wt=1+s.length:=by simp[AT,Tree.wt,l_,di]
def Bn.value (b:Bn) (n:Nat) (s:Bs):Bn:=match b.nodes[n]? with
 |some x=>if x.text then b.set n {x with s:=s} else(b.set n {x with kids:=[]}).ins n 0 [AT s]
 |none=>b
def sS (P:Program) (G:Nat→Option (List IV)) (f:Nat):Prop:=∀(b:Bn),b.n0≤b.nodes.length→∀(p pl:Nat),p<b.n0→∀(x:Node),b.nodes[p]?=some x→pl≤x.kids.length →
 ∀(l:List Tree),b.nodes.length+di l≤B→x.kids.length+l.length≤B →
 n5 P G f [.ptr (.par 0) 3 0 0,.int .i64 p,.int .i64 pl,.list (dc l)] (cz b) (b.yq 1 (5+2*p)) fun X R2=>X=(fun _=> .dU [])∧R2=cz (b.ins p pl l)
section
variable {P:Program} {G:Nat→Option (List IV)}
def eT (af:Nat):AC:=
(.seq (.seq (.aM [⟨some 6,none,.ak (.t 0)⟩,⟨some 7,none,.ef (.t 6)⟩,⟨some 8,none,.bV (.t 7) 0⟩,⟨some 9,none,.load none (.t 8)⟩,⟨some 10,none,.ak (.t 1)⟩,⟨some 11,none,.fJ (.t 9) (.t 10) 5⟩,⟨some 12,none,.bV (.t 11) 0⟩,⟨some 13,none,.load none (.t 12)⟩]) (.cond (.t 13) (.seq (.aM [⟨some 14,none,.ak (.t 0)⟩,⟨some 15,none,.ef (.t 14)⟩,⟨some 16,none,.bV (.t 15) 0⟩,⟨some 17,none,.load none (.t 16)⟩,⟨some 18,none,.ak (.t 1)⟩,⟨some 19,none,.ak (.t 2)⟩,⟨some 20,none,.fJ (.t 17) (.t 18) 5⟩,⟨some 21,none,.bV (.t 20) 1⟩,⟨none,none,.store 1 (.t 21) (.t 19)⟩]) .ret) .skip)) (.seq (.aM [⟨some 22,none,.ak (.t 0)⟩,⟨some 23,none,.ef (.t 22)⟩,⟨some 24,none,.bV (.t 23) 0⟩,⟨some 25,none,.load none (.t 24)⟩,⟨some 26,none,.ak (.t 1)⟩,⟨some 27,none,.fJ (.t 25) (.t 26) 5⟩,⟨some 28,none,.bV (.t 27) 4⟩,⟨none,none,.store 1 (.t 28) (.c .nil0)⟩]) (.gh .qn (.aM [⟨some 29,none,.ak (.t 0)⟩,⟨some 30,none,.ak (.t 1)⟩,⟨some 31,none,.ak (.t 2)⟩,⟨some 32,none,(.o7 [(.bool false),(.str []),.nil0,.nil0] [(0,(1,(.c (.bool true)))),(1,(1,(.t 31)))])⟩,⟨some 33,none,.lits 1 4 [(.bool false),(.str []),.nil0,.nil0] [(0,(.t 32))]⟩,⟨some 34,none,.call af [(.t 29),(.t 30),(.c (.int .i64 0)),(.t 33)]⟩]))))
theorem JT {au af:Nat} (hF:aA P G au=some (35,[],(eT af).bare)) (b:Bn) (hn:b.n0≤b.nodes.length) (n:Nat) (hp:n<b.n0) (x:Node) (hx:b.nodes[n]?=some x) (s:Bs) (hb:b.nodes.length+1+s.length≤B)
  (hI:sS P G af) :
  n5 P G au [.ptr (.par 0) 3 0 0,.int .i64 n,.str s] (cz b) (b.yq 1 (5+2*n)) fun X R2=>X=(fun _=> .dU [])∧R2=cz (b.value n s):=by
 refine dZ hF (by simp) (by simp[ax,AV.aI,a9,Tree.av];omega) ?_;have dE:bW Lb.par b (eC (cz b)):=eF _;have hU:∀q:Lb,(∀p,p<4+2*b.n0→q≠ .par p)→eC (cz b) q= .unused:=fun q hq=>dD _ fun p hp e=>hq p (a9.1 hp) e.symm
 have hg:eC (cz b) (.gen 77)= .unused:=hU _ (by simp);have RG:∀l,eC (cz b) (NC 9 l)= .unused:=fun l=>hU _ (by simp[NC])
 have hlen:n<b.nodes.length:=by omega
 have pw:B=1073741824:=rfl;have nI:=cU (n0:=b.n0) (lab:=Lb.par) (x:=x) hp;have cM:=dE.get hx;rw[nI] at cM;unfold eT;simp only[↓aX,mX,reduceCtorEq,Nat.reduceEqDiff,Nat.reduceLT,Nat.reduceLeDiff,Nat.reduceAdd,Nat.reduceMul,Int.reduceToNat,Int.reduceLE,Int.reduceLT,dE.s,dE.n,hlen,List.length_mapIdx,Int.natCast_nonneg,Int.toNat_natCast,and_self,true_and,Nat.zero_add,cM]
 refine nu (fun h=> ?_) (fun h=> ?_)
 ·simp only[↓aX,mX,reduceCtorEq,Nat.reduceEqDiff,Nat.reduceLT,Nat.reduceLeDiff,Nat.reduceAdd,Nat.reduceMul,Int.reduceToNat,Int.reduceLE,Int.reduceLT,dE.s,dE.n,hlen,List.length_mapIdx,Int.natCast_nonneg,Int.toNat_natCast,and_self,true_and,Nat.zero_add,cM];rw[y8]
  refine⟨[],rfl,⟨fun _=> .dU [],cz (b.set n {x with s:=s}),Lb.par⟩,⟨rfl,by unfold Bn.value;rw[hx];simp only[h,if_true]⟩,fun ρ=>by simp[cG,cn],by simp[gQ,AV.aI,ax],rfl,?_,fun _ _=>rfl⟩;refine bW.Mo dE hx ?_ (fun q hq=>by rw[aq _ _ hq]);rw[ai,if_pos rfl,cU hp]
 ·simp only[↓aX,mX,reduceCtorEq,Nat.reduceEqDiff,Nat.reduceLT,Nat.reduceLeDiff,Nat.reduceAdd,Nat.reduceMul,Int.reduceToNat,Int.reduceLE,Int.reduceLT,dE.s,dE.n,hlen,List.length_mapIdx,Int.natCast_nonneg,Int.toNat_natCast,and_self,true_and,Nat.zero_add,cM,mV]
  refine⟨_,_,qc (q:= .par 1) (N:= .gen 77) (i:=n) (j:=4) (sz:=1) (by rw[ai,if_pos rfl]) (List.getElem?_set_self (by rw[List.length_mapIdx];exact hlen)) rfl (by rw[aq _ _ (by simp)];exact hg) (by decide),?_⟩;simp only[↓aX,mX,reduceCtorEq,Nat.reduceEqDiff,Nat.reduceLT,Nat.reduceLeDiff,Nat.reduceAdd,Nat.reduceMul,Int.reduceToNat,Int.reduceLE,Int.reduceLT]
  have ld:((b.nodes.mapIdx (cx b.n0 Lb.par)).set n [.bool x.text,.str x.s,.sl (.par (4+2*n)) 2 0 x.attrs.length,.int .i64 x.parent,.nil0]).set n [.bool x.text,.str x.s,.sl (.par (4+2*n)) 2 0 x.attrs.length,.int .i64 x.parent,.sl (.gen 77) 1 0 0] =
    (b.nodes.mapIdx (cx b.n0 Lb.par)).set n [.bool x.text,.str x.s,.sl (.par (4+2*n)) 2 0 x.attrs.length,.int .i64 x.parent,.sl (.gen 77) 1 0 0]:=List.set_set ..
  have hB:∀H2:Hp,H2 (.par 1)= .live ⟨5,(b.nodes.mapIdx (cx b.n0 Lb.par)).set n [.bool x.text,.str x.s,.sl (.par (4+2*n)) 2 0 x.attrs.length,.int .i64 x.parent,.sl (.gen 77) 1 0 0]⟩→H2 (.gen 77)= .live ⟨1,[]⟩ →
    (∀q,q≠ .par 1→q≠ .gen 77→q≠ .par (5+2*n)→H2 q=eC (cz b) q)→bW (fun p=>if p=5+2*n then .gen 77 else Lb.par p) (b.set n {x with kids:=[]}) H2:=fun H2 e1 e2 e3=>
   bW.FP dE hp hx (.inr (by simp)) e1 (by rw[e2];rfl) e3
  refine gV (lab:=fun p=>if p=5+2*n then .gen 77 else Lb.par p) (N:=NC 9) (hI (b.set n {x with kids:=[]}) (by simp[Bn.set];exact hn) n 0 hp {x with kids:=[]} (by simp[Bn.set,hlen]) (by simp) [AT s] (by simp[Bn.set,di,yr];omega) (by simp;omega)) ?_ ?_ ?_ (mG 9) (fun l h=> .inl h) (fun p' ed=>a9.2 (gY.1 ed).1) ?_
  ·have:¬0=5+2*n:=by omega
   simp[cn,cG,rW,AT,dc,Tree.iv,dY,this]
  ·refine hB _ ?_ ?_ ?_
   ·simp[ai]
   ·simp[ai]
   ·intro q g1 g2 g3;simp[ai,g1,g2]
  ·intro l;simp[ai,NC];exact RG l
  ·rintro X R2 cQ H2 ⟨rfl,rfl⟩ g1 g2 g3 g4 g5 g6;simp only[↓aX,mX,reduceCtorEq,Nat.reduceEqDiff,Nat.reduceLT,Nat.reduceLeDiff,Nat.reduceAdd,Nat.reduceMul,Int.reduceToNat,Int.reduceLE,Int.reduceLT];rw[gJ];refine⟨[],rfl,⟨fun _=> .dU [],_,cQ⟩,⟨rfl,?_⟩,fun ρ=>by simp[cG,cn],by simp[gQ,AV.aI,ax],rfl,g1,?_⟩
   ·have dm:¬(x.text=true):=by rw[h];decide
    unfold Bn.value;rw[hx];show _=cz (if x.text=true then _ else _);rw[if_neg dm];rfl
   ·intro p' ed;have h1:=gY.1 ed;exact(g2 p' (gY.2 h1)).trans (if_neg h1.2.2)
end
end Go.Am
