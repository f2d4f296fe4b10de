import Derived.Test.YtfinkeaikbmpgaaGreatDoorKD2
import Derived.Test.YtfinkeaikbmpgaaGreatDoorKT26
import Derived.Lib.Bytealg
set_option linter.unusedSimpArgs false
set_option linter.unusedVariables false
set_option linter.unnecessarySimpa false
set_option linter.defProp false
/- Strings cut and split. -/
namespace Go.Am
open Go Go.RowKit
theorem zz {S:St} {f:Nat} {fn:Func} {e:Array Value→Sem Value} {args:List AV} {H:Hp} {res:AV} (hf:S.P.funcs[f]?=some fn) (sJ:(fn.name== "runtime.NumGoroutine")=false) (hb:fn.body.isNone=true)
  (hn:Extern.findNext fn=none) (he:Extern.find fn=some e) (hr:∀(w:World) (β:Lb→Option Nat) (I:Nat→Prop) (vs:List Value),bo w β H I args vs→∃v,(e vs.toArray).run S.P w= .ok v w∧RV w β H I res v) (hl:res.ar=[]) :
  ph S f args H res:=by
 intro K β env a w vs hS j6 hv;subst hS;obtain⟨v,h1,h2⟩:=hr w β _ vs hv;refine⟨v,w,?_,Below.refl _ _,h2,by simp[hl]⟩;rw[run_callFunc_extern hf sJ hb hn he,h1];rfl
theorem GS {w:World} {β:Lb→Option Nat} {H:Hp} {I:Nat→Prop} {x y:AV} {vs:List Value} (h:bo w β H I [x,y] vs):∃u v,vs=[u,v]∧RV w β H I x u∧RV w β H I y v:=by
 match vs,h with
 |[u,v],h=>
  simp only[bo] at h;obtain⟨_,_,h0,h1,_,_,h2,h3,h4⟩:=h;cases h0;cases h2;cases h4;exact⟨u,v,rfl,h1,h3⟩
theorem wQ {S:St} {f:Nat} {fn:Func} (hf:S.P.funcs[f]?=some fn) (sJ:(fn.name== "runtime.NumGoroutine")=false) (hb:fn.body.isNone=true)
  (hn:Extern.findNext fn=none) (he:Extern.find fn=some Extern.BytealgIndexByte.indexByte) (s:Bs) (c:UInt8) (H:Hp):ph S f [.str s,.int .u8 (c.toNat:Int)] H (.int .i64 (Lib.indexByte s c)):=by
 refine zz hf sJ hb hn he (fun w β I vs hv=> ?_) rfl;obtain⟨u,v,rfl,h1,h2⟩:=GS hv;simp only[RV] at h1 h2;subst h1;subst h2;exact⟨_,Lib.run_indexByteString _ _ _,by simp[RV]⟩
theorem wR {S:St} {f:Nat} {fn:Func} (hf:S.P.funcs[f]?=some fn) (sJ:(fn.name== "runtime.NumGoroutine")=false) (hb:fn.body.isNone=true)
  (hn:Extern.findNext fn=none) (he:Extern.find fn=some Extern.BytealgCount.count) (s:Bs) (c:UInt8) (H:Hp):ph S f [.str s,.int .u8 (c.toNat:Int)] H (.int .i64 ((s.count c:Nat):Int)):=by
 refine zz hf sJ hb hn he (fun w β I vs hv=> ?_) rfl;obtain⟨u,v,rfl,h1,h2⟩:=GS hv;simp only[RV] at h1 h2;subst h1;subst h2;exact⟨_,Lib.run_countString _ _ _,by simp[RV,Lib.countByte]⟩
def bV (c:UInt8):Bs→List Bs
 |[]=>[[]]
 |b::r=>if b=c then []::bV c r else match bV c r with
  |w::ws=>(b::w)::ws
  |[]=>[[b]]
theorem h_ (c:UInt8):∀s:Bs,(Lib.indexByte s c= -1∧s.count c=0∧bV c s=[s]) ∨
  ∃m:Nat,Lib.indexByte s c=(m:Int)∧m<s.length∧s.count c=(s.drop (m+1)).count c+1∧bV c s=s.take m::bV c (s.drop (m+1))
 |[]=> .inl ⟨rfl,rfl,rfl⟩
 |b::r=>by
  by_cases h:b=c
  ·subst h;refine .inr ⟨0,?_,by simp,by simp,?_⟩
   ·unfold Lib.indexByte;simp
   ·simp[bV]
  ·have hb:(b==c)=false:=by simpa using h
   rcases h_ c r with⟨h1,h2,h3⟩|⟨m,h1,h2,h3,h4⟩
   ·refine .inl ⟨?_,?_,?_⟩
    ·unfold Lib.indexByte;rw[hb,h1];rfl
    ·rw[List.count_cons,h2,hb];rfl
    ·simp[bV,h,h3]
   ·refine .inr ⟨m+1,?_,by simp;omega,?_,?_⟩
    ·unfold Lib.indexByte;rw[hb,h1];have:((m:Int)== -1)=false:=by rw[beq_eq_false_iff_ne];omega
     rw[this];simp
    ·rw[List.count_cons,hb];simpa using h3
    ·simp[bV,h,h4]
theorem mK (c:UInt8):∀(n:Nat) (s:Bs),s.count c=n→(bV c s).length=n+1
 |0,s,h=>by
  rcases h_ c s with⟨_,_,h3⟩|⟨m,_,_,h3,_⟩
  ·rw[h3];rfl
  ·omega
 |n+1,s,h=>by
  rcases h_ c s with⟨_,h2,_⟩|⟨m,_,_,h3,h4⟩
  ·omega
  ·rw[h4,List.length_cons,mK c n _ (by omega)]
theorem zA (c s:Bs):(decide (c.length≤s.length)&&s.take c.length==c)=c.isPrefixOf s:=by
 rw[Bool.eq_iff_iff];simp only[Bool.and_eq_true,decide_eq_true_eq,beq_iff_eq,List.isPrefixOf_iff_prefix];constructor
 ·rintro⟨_,h⟩;have:=List.take_append_drop c.length s;rw[h] at this;exact⟨s.drop c.length,this⟩
 ·rintro⟨t,rfl⟩;simp
section
variable {P:Program} {G:Nat→Option (List IV)}
def cF (bS:Nat):AC:=
(.seq (.au [⟨some 4,none,.af (.c (.int .i64 0))⟩]) (.seq (.au [⟨some 5,none,.af (.t 0)⟩,⟨some 6,none,.af (.t 1)⟩,⟨some 7,none,.iY bS [(.t 5),(.t 6)]⟩,⟨some 4,none,.af (.t 7)⟩]) .ret))
theorem uk {aW bS:Nat} (hF:aB P G aW=some (8,[(none,4)],(cF bS).bare))
  (hX:∀(N:Nat) (s:Bs) (c:UInt8) (H:Hp),ph ⟨P,G,N⟩ bS [.str s,.int .u8 (c.toNat:Int)] H (.int .i64 (Lib.indexByte s c))) (s:Bs) (c:UInt8) :
  ai P G aW [.str s,.int .u8 (c.toNat:Int)] (.int .i64 (Lib.indexByte s c)):=by
 refine aC hF (by simp) (by simp[ah,AV.ar]) (by simp[AV.ar]) ?_;unfold cF;simp only[↓aX,mX,reduceCtorEq,Nat.reduceEqDiff,Nat.reduceLT,Nat.reduceLeDiff,Nat.reduceAdd,Nat.reduceMul,Int.reduceToNat,Int.reduceLE,Int.reduceLT];refine yv (hX _ _ _ _) ?_;simp only[↓aX,mX,reduceCtorEq,Nat.reduceEqDiff,Nat.reduceLT,Nat.reduceLeDiff,Nat.reduceAdd,Nat.reduceMul,Int.reduceToNat,Int.reduceLE,Int.reduceLT]
def cX (aW cd dq b4:Nat):AC:=
(.seq (.au [⟨some 4,none,.af (.c (.int .i64 0))⟩]) (.seq (.au [⟨some 14,none,.af (.t 1)⟩,⟨some 15,none,.lens (.t 14)⟩,⟨some 5,none,.af (.t 15)⟩]) (.seq (.block 0 (.seq (.au [⟨some 17,none,.af (.t 5)⟩,⟨some 18,none,.bin .eql (.t 17) (.c (.int .i64 0))⟩,⟨some 19,none,.af (.t 18)⟩,⟨some 20,(some (19,false)),(.af (.t 1))⟩,⟨some 21,(some (19,false)),(.af (.t 0))⟩,⟨some 22,(some (19,false)),(.bin .eql (.t 20) (.t 21))⟩,⟨some 23,none,.pick (.t 19) (.c (.bool true)) (.t 22)⟩,⟨some 16,none,.af (.t 23)⟩]) (.cond (.t 16) (.seq (.au [⟨some 4,none,.af (.c (.int .i64 0))⟩]) .ret) (.seq (.au [⟨some 25,none,.af (.t 5)⟩,⟨some 26,none,.bin .eql (.t 25) (.c (.int .i64 1))⟩,⟨some 24,none,.af (.t 26)⟩]) (.cond (.t 24) (.seq (.au [⟨some 27,none,.af (.t 0)⟩,⟨some 28,none,.af (.t 1)⟩,⟨some 29,none,.mR (.t 28) (.c (.int .i64 0))⟩,⟨some 30,none,.call aW [(.t 27),(.t 29)]⟩,⟨some 4,none,.af (.t 30)⟩]) .ret) (.seq (.au [⟨some 32,none,.af (.t 5)⟩,⟨some 33,none,.af (.t 0)⟩,⟨some 34,none,.lens (.t 33)⟩,⟨some 35,none,.bin .geq (.t 32) (.t 34)⟩,⟨some 31,none,.af (.t 35)⟩]) (.cond (.t 31) (.seq (.au [⟨some 4,none,.af (.c (.int .i64 (-1)))⟩]) .ret) (.seq (.au [⟨some 37,none,.af (.t 5)⟩,⟨some 38,none,.stuck⟩,⟨some 39,none,.bin .leq (.t 37) (.t 38)⟩,⟨some 40,none,.af (.t 39)⟩,⟨some 41,(some (40,true)),(.af (.t 0))⟩,⟨some 42,(some (40,true)),(.lens (.t 41))⟩,⟨some 43,(some (40,true)),(.bin .leq (.t 42) (.c (.int .i64 64)))⟩,⟨some 44,none,.pick (.t 40) (.t 43) (.c (.bool false))⟩,⟨some 36,none,.af (.t 44)⟩]) (.cond (.t 36) (.seq (.au [⟨some 45,none,.af (.t 0)⟩,⟨some 46,none,.af (.t 1)⟩,⟨some 47,none,.iY cd [(.t 45),(.t 46)]⟩,⟨some 4,none,.af (.t 47)⟩]) .ret) .skip))))))))) (.seq (.au [⟨some 48,none,.af (.t 1)⟩,⟨some 49,none,.mR (.t 48) (.c (.int .i64 0))⟩,⟨some 6,none,.af (.t 49)⟩]) (.seq (.au [⟨some 50,none,.af (.t 1)⟩,⟨some 51,none,.mR (.t 50) (.c (.int .i64 1))⟩,⟨some 7,none,.af (.t 51)⟩]) (.seq (.au [⟨some 8,none,.af (.c (.int .i64 0))⟩]) (.seq (.au [⟨some 52,none,.af (.t 0)⟩,⟨some 53,none,.lens (.t 52)⟩,⟨some 54,none,.af (.t 5)⟩,⟨some 55,none,.bin .sub (.t 53) (.t 54)⟩,⟨some 56,none,.bin .add (.t 55) (.c (.int .i64 1))⟩,⟨some 9,none,.af (.t 56)⟩]) (.seq (.au [⟨some 10,none,.af (.c (.int .i64 0))⟩]) (.seq (.block 1 (.loop (.seq (.seq (.au [⟨some 57,none,.af (.t 8)⟩,⟨some 58,none,.af (.t 9)⟩,⟨some 59,none,.bin .lss (.t 57) (.t 58)⟩]) (.cond (.t 59) .skip (.exit 1))) (.block 2 (.seq (.seq (.au [⟨some 60,none,.af (.t 0)⟩,⟨some 61,none,.af (.t 8)⟩,⟨some 62,none,.mR (.t 60) (.t 61)⟩,⟨some 63,none,.af (.t 6)⟩,⟨some 64,none,.bin .neq (.t 62) (.t 63)⟩]) (.cond (.t 64) (.seq (.au [⟨some 65,none,.af (.t 0)⟩,⟨some 66,none,.af (.t 8)⟩,⟨some 67,none,.bin .add (.t 66) (.c (.int .i64 1))⟩,⟨some 68,none,.af (.t 9)⟩,⟨some 69,none,.gV (.t 65) (some (.t 67)) (some (.t 68))⟩,⟨some 70,none,.af (.t 6)⟩,⟨some 71,none,.call aW [(.t 69),(.t 70)]⟩,⟨some 11,none,.af (.t 71)⟩]) (.seq (.seq (.au [⟨some 72,none,.af (.t 11)⟩,⟨some 73,none,.bin .lss (.t 72) (.c (.int .i64 0))⟩]) (.cond (.t 73) (.seq (.au [⟨some 4,none,.af (.c (.int .i64 (-1)))⟩]) .ret) .skip)) (.au [⟨some 74,none,.af (.t 8)⟩,⟨some 75,none,.af (.t 11)⟩,⟨some 76,none,.bin .add (.t 75) (.c (.int .i64 1))⟩,⟨some 77,none,.bin .add (.t 74) (.t 76)⟩,⟨some 8,none,.af (.t 77)⟩]))) .skip)) (.seq (.seq (.au [⟨some 78,none,.af (.t 0)⟩,⟨some 79,none,.af (.t 8)⟩,⟨some 80,none,.bin .add (.t 79) (.c (.int .i64 1))⟩,⟨some 81,none,.mR (.t 78) (.t 80)⟩,⟨some 82,none,.af (.t 7)⟩,⟨some 83,none,.bin .eql (.t 81) (.t 82)⟩,⟨some 84,none,.af (.t 83)⟩,⟨some 85,(some (84,true)),(.af (.t 0))⟩,⟨some 86,(some (84,true)),(.af (.t 8))⟩,⟨some 87,(some (84,true)),(.af (.t 8))⟩,⟨some 88,(some (84,true)),(.af (.t 5))⟩,⟨some 89,(some (84,true)),(.bin .add (.t 87) (.t 88))⟩,⟨some 90,(some (84,true)),(.gV (.t 85) (some (.t 86)) (some (.t 89)))⟩,⟨some 91,(some (84,true)),(.af (.t 1))⟩,⟨some 92,(some (84,true)),(.bin .eql (.t 90) (.t 91))⟩,⟨some 93,none,.pick (.t 84) (.t 92) (.c (.bool false))⟩]) (.cond (.t 93) (.seq (.au [⟨some 94,none,.af (.t 8)⟩,⟨some 4,none,.af (.t 94)⟩]) .ret) .skip)) (.seq (.au [⟨some 95,none,.af (.t 8)⟩,⟨some 96,none,.bin .add (.t 95) (.c (.int .i64 1))⟩,⟨some 8,none,.af (.t 96)⟩]) (.seq (.au [⟨some 97,none,.af (.t 10)⟩,⟨some 98,none,.bin .add (.t 97) (.c (.int .i64 1))⟩,⟨some 10,none,.af (.t 98)⟩]) (.seq (.au [⟨some 99,none,.af (.t 5)⟩,⟨some 100,none,.stuck⟩,⟨some 101,none,.bin .leq (.t 99) (.t 100)⟩,⟨some 102,none,.af (.t 101)⟩,⟨some 103,(some (102,true)),(.af (.t 10))⟩,⟨some 104,(some (102,true)),(.af (.t 8))⟩,⟨some 105,(some (102,true)),(.call dq [(.t 104)])⟩,⟨some 106,(some (102,true)),(.bin .gtr (.t 103) (.t 105))⟩,⟨some 107,none,.pick (.t 102) (.t 106) (.c (.bool false))⟩]) (.cond (.t 107) (.seq (.au [⟨some 108,none,.af (.t 0)⟩,⟨some 109,none,.af (.t 8)⟩,⟨some 110,none,.gV (.t 108) (some (.t 109)) none⟩,⟨some 111,none,.af (.t 1)⟩,⟨some 112,none,.iY cd [(.t 110),(.t 111)]⟩,⟨some 12,none,.af (.t 112)⟩]) (.seq (.seq (.au [⟨some 113,none,.af (.t 12)⟩,⟨some 114,none,.bin .geq (.t 113) (.c (.int .i64 0))⟩]) (.cond (.t 114) (.seq (.au [⟨some 115,none,.af (.t 12)⟩,⟨some 116,none,.af (.t 8)⟩,⟨some 117,none,.bin .add (.t 115) (.t 116)⟩,⟨some 4,none,.af (.t 117)⟩]) .ret) .skip)) (.seq (.au [⟨some 4,none,.af (.c (.int .i64 (-1)))⟩]) .ret))) (.seq (.au [⟨some 118,none,.af (.t 5)⟩,⟨some 119,none,.stuck⟩,⟨some 120,none,.bin .gtr (.t 118) (.t 119)⟩,⟨some 121,none,.af (.t 120)⟩,⟨some 122,(some (121,true)),(.af (.t 10))⟩,⟨some 123,(some (121,true)),(.af (.t 8))⟩,⟨some 124,(some (121,true)),(.bin .shr (.t 123) (.c (.int .u64 4)))⟩,⟨some 125,(some (121,true)),(.bin .add (.c (.int .i64 4)) (.t 124))⟩,⟨some 126,(some (121,true)),(.bin .geq (.t 122) (.t 125))⟩,⟨some 127,none,.pick (.t 121) (.t 126) (.c (.bool false))⟩,⟨some 128,none,.af (.t 127)⟩,⟨some 129,(some (128,true)),(.af (.t 8))⟩,⟨some 130,(some (128,true)),(.af (.t 9))⟩,⟨some 131,(some (128,true)),(.bin .lss (.t 129) (.t 130))⟩,⟨some 132,none,.pick (.t 128) (.t 131) (.c (.bool false))⟩]) (.cond (.t 132) (.seq (.au [⟨some 133,none,.af (.t 0)⟩,⟨some 134,none,.af (.t 8)⟩,⟨some 135,none,.gV (.t 133) (some (.t 134)) none⟩,⟨some 136,none,.af (.t 1)⟩,⟨some 137,none,.call b4 [(.t 135),(.t 136)]⟩,⟨some 13,none,.af (.t 137)⟩]) (.seq (.seq (.au [⟨some 138,none,.af (.t 13)⟩,⟨some 139,none,.bin .lss (.t 138) (.c (.int .i64 0))⟩]) (.cond (.t 139) (.seq (.au [⟨some 4,none,.af (.c (.int .i64 (-1)))⟩]) .ret) .skip)) (.seq (.au [⟨some 140,none,.af (.t 8)⟩,⟨some 141,none,.af (.t 13)⟩,⟨some 142,none,.bin .add (.t 140) (.t 141)⟩,⟨some 4,none,.af (.t 142)⟩]) .ret))) .skip)))))))))))) (.seq (.au [⟨some 4,none,.af (.c (.int .i64 (-1)))⟩]) .ret))))))))))
theorem zB {aH aW cd dq b4:Nat} (hF:aB P G aH=some (143,[(none,4)],(cX aW cd dq b4).bare))
  (hX:∀(s:Bs) (c:UInt8),ai P G aW [.str s,.int .u8 (c.toNat:Int)] (.int .i64 (Lib.indexByte s c))) (s:Bs) (c:UInt8) :
  ai P G aH [.str s,.str [c]] (.int .i64 (Lib.indexByte s c)):=by
 refine aC hF (by simp) (by simp[ah,AV.ar]) (by simp[AV.ar]) ?_;unfold cX;simp only[↓aX,mX,reduceCtorEq,Nat.reduceEqDiff,Nat.reduceLT,Nat.reduceLeDiff,Nat.reduceAdd,Nat.reduceMul,Int.reduceToNat,Int.reduceLE,Int.reduceLT,List.length_cons,List.length_nil,show(((1:Nat):Int)==0)=false from rfl];cases h:(([c]:Bs)==s) with
 |true=>
  have:s=[c]:=by simpa using(eq_comm.1 (eq_of_beq h))
  subst this;have:Lib.indexByte [c] c=0:=by unfold Lib.indexByte;simp
  simp only[↓aX,mX,reduceCtorEq,Nat.reduceEqDiff,Nat.reduceLT,Nat.reduceLeDiff,Nat.reduceAdd,Nat.reduceMul,Int.reduceToNat,Int.reduceLE,Int.reduceLT,this]
 |false=>
  simp only[↓aX,mX,reduceCtorEq,Nat.reduceEqDiff,Nat.reduceLT,Nat.reduceLeDiff,Nat.reduceAdd,Nat.reduceMul,Int.reduceToNat,Int.reduceLE,Int.reduceLT,show(((1:Nat):Int)==1)=true from rfl,List.getElem?_cons_zero];refine aj (hX s c) ?_;simp only[↓aX,mX,reduceCtorEq,Nat.reduceEqDiff,Nat.reduceLT,Nat.reduceLeDiff,Nat.reduceAdd,Nat.reduceMul,Int.reduceToNat,Int.reduceLE,Int.reduceLT]
def gQ (aH:Nat):AC:=
(.seq (.au [⟨some 4,none,.af (.c (.int .i64 0))⟩]) (.seq (.au [⟨some 5,none,.af (.t 0)⟩,⟨some 6,none,.af (.t 1)⟩,⟨some 7,none,.call aH [(.t 5),(.t 6)]⟩,⟨some 4,none,.af (.t 7)⟩]) .ret))
theorem EB {bW aH:Nat} (hF:aB P G bW=some (8,[(none,4)],(gQ aH).bare)) (s:Bs) (c:UInt8)
  (hX:ai P G aH [.str s,.str [c]] (.int .i64 (Lib.indexByte s c))):ai P G bW [.str s,.str [c]] (.int .i64 (Lib.indexByte s c)):=by
 refine aC hF (by simp) (by simp[ah,AV.ar]) (by simp[AV.ar]) ?_;unfold gQ;simp only[↓aX,mX,reduceCtorEq,Nat.reduceEqDiff,Nat.reduceLT,Nat.reduceLeDiff,Nat.reduceAdd,Nat.reduceMul,Int.reduceToNat,Int.reduceLE,Int.reduceLT];refine aj hX ?_;simp only[↓aX,mX,reduceCtorEq,Nat.reduceEqDiff,Nat.reduceLT,Nat.reduceLeDiff,Nat.reduceAdd,Nat.reduceMul,Int.reduceToNat,Int.reduceLE,Int.reduceLT]
def gR (cG cf bW:Nat):AC:=
(.seq (.au [⟨some 4,none,.af (.c (.int .i64 0))⟩]) (.seq (.seq (.au [⟨some 7,none,.af (.t 1)⟩,⟨some 8,none,.lens (.t 7)⟩,⟨some 9,none,.bin .eql (.t 8) (.c (.int .i64 0))⟩]) (.cond (.t 9) (.seq (.au [⟨some 10,none,.af (.t 0)⟩,⟨some 11,none,.call cG [(.t 10)]⟩,⟨some 12,none,.bin .add (.t 11) (.c (.int .i64 1))⟩,⟨some 4,none,.af (.t 12)⟩]) .ret) .skip)) (.seq (.seq (.au [⟨some 13,none,.af (.t 1)⟩,⟨some 14,none,.lens (.t 13)⟩,⟨some 15,none,.bin .eql (.t 14) (.c (.int .i64 1))⟩]) (.cond (.t 15) (.seq (.au [⟨some 16,none,.af (.t 0)⟩,⟨some 17,none,.af (.t 1)⟩,⟨some 18,none,.mR (.t 17) (.c (.int .i64 0))⟩,⟨some 19,none,.iY cf [(.t 16),(.t 18)]⟩,⟨some 4,none,.af (.t 19)⟩]) .ret) .skip)) (.seq (.au [⟨some 5,none,.af (.c (.int .i64 0))⟩]) (.block 0 (.loop (.block 1 (.seq (.au [⟨some 20,none,.af (.t 0)⟩,⟨some 21,none,.af (.t 1)⟩,⟨some 22,none,.call bW [(.t 20),(.t 21)]⟩,⟨some 6,none,.af (.t 22)⟩]) (.seq (.seq (.au [⟨some 23,none,.af (.t 6)⟩,⟨some 24,none,.bin .eql (.t 23) (.c (.int .i64 (-1)))⟩]) (.cond (.t 24) (.seq (.au [⟨some 25,none,.af (.t 5)⟩,⟨some 4,none,.af (.t 25)⟩]) .ret) .skip)) (.seq (.au [⟨some 26,none,.af (.t 5)⟩,⟨some 27,none,.bin .add (.t 26) (.c (.int .i64 1))⟩,⟨some 5,none,.af (.t 27)⟩]) (.au [⟨some 28,none,.af (.t 0)⟩,⟨some 29,none,.af (.t 6)⟩,⟨some 30,none,.af (.t 1)⟩,⟨some 31,none,.lens (.t 30)⟩,⟨some 32,none,.bin .add (.t 29) (.t 31)⟩,⟨some 33,none,.gV (.t 28) (some (.t 32)) none⟩,⟨some 0,none,.af (.t 33)⟩])))))))))))
theorem EC {cY cG cf bW:Nat} (hF:aB P G cY=some (34,[(none,4)],(gR cG cf bW).bare)) (s:Bs) (c:UInt8)
  (hX:∀(N:Nat) (H:Hp),ph ⟨P,G,N⟩ cf [.str s,.int .u8 (c.toNat:Int)] H (.int .i64 ((s.count c:Nat):Int))) :
  ai P G cY [.str s,.str [c]] (.int .i64 ((s.count c:Nat):Int)):=by
 refine aC hF (by simp) (by simp[ah,AV.ar]) (by simp[AV.ar]) ?_;unfold gR;simp only[↓aX,mX,reduceCtorEq,Nat.reduceEqDiff,Nat.reduceLT,Nat.reduceLeDiff,Nat.reduceAdd,Nat.reduceMul,Int.reduceToNat,Int.reduceLE,Int.reduceLT,List.length_cons,List.length_nil,show(((1:Nat):Int)==0)=false from rfl,show(((1:Nat):Int)==1)=true from rfl,List.getElem?_cons_zero];refine yv (hX _ _) ?_
 simp only[↓aX,mX,reduceCtorEq,Nat.reduceEqDiff,Nat.reduceLT,Nat.reduceLeDiff,Nat.reduceAdd,Nat.reduceMul,Int.reduceToNat,Int.reduceLE,Int.reduceLT]
def cH:AC:=
(.seq (.au [⟨some 4,none,.af (.c (.bool false))⟩]) (.seq (.au [⟨some 5,none,.af (.t 0)⟩,⟨some 6,none,.lens (.t 5)⟩,⟨some 7,none,.af (.t 1)⟩,⟨some 8,none,.lens (.t 7)⟩,⟨some 9,none,.bin .geq (.t 6) (.t 8)⟩,⟨some 10,none,.af (.t 9)⟩,⟨some 11,(some (10,true)),(.af (.t 0))⟩,⟨some 12,(some (10,true)),(.af (.t 1))⟩,⟨some 13,(some (10,true)),(.lens (.t 12))⟩,⟨some 14,(some (10,true)),(.gV (.t 11) none (some (.t 13)))⟩,⟨some 15,(some (10,true)),(.af (.t 1))⟩,⟨some 16,(some (10,true)),(.bin .eql (.t 14) (.t 15))⟩,⟨some 17,none,.pick (.t 10) (.t 16) (.c (.bool false))⟩,⟨some 4,none,.af (.t 17)⟩]) .ret))
theorem um {ba:Nat} (hF:aB P G ba=some (18,[(none,4)],cH.bare)) (s t:Bs):ai P G ba [.str s,.str t] (.bool (t.isPrefixOf s)):=by
 refine aC hF (by simp) (by simp[ah,AV.ar]) (by simp[AV.ar]) ?_;unfold cH;rw[←zA];simp only[↓aX,mX,reduceCtorEq,Nat.reduceEqDiff,Nat.reduceLT,Nat.reduceLeDiff,Nat.reduceAdd,Nat.reduceMul,Int.reduceToNat,Int.reduceLE,Int.reduceLT];by_cases h:t.length≤s.length
 ·rw[show decide (((s.length:Nat):Int)≥((t.length:Nat):Int))=true by simpa using h,decide_eq_true h];simp only[↓aX,mX,reduceCtorEq,Nat.reduceEqDiff,Nat.reduceLT,Nat.reduceLeDiff,Nat.reduceAdd,Nat.reduceMul,Int.reduceToNat,Int.reduceLE,Int.reduceLT,kZ,Int.natCast_nonneg,Int.toNat_natCast,true_and,h]
 ·rw[show decide (((s.length:Nat):Int)≥((t.length:Nat):Int))=false by simpa using h,decide_eq_false h];simp only[↓aX,mX,reduceCtorEq,Nat.reduceEqDiff,Nat.reduceLT,Nat.reduceLeDiff,Nat.reduceAdd,Nat.reduceMul,Int.reduceToNat,Int.reduceLE,Int.reduceLT,Bool.false_and]
def cI (ba:Nat):AC:=
(.seq (.au [⟨some 4,none,.af (.c (.str []))⟩,⟨some 5,none,.af (.c (.bool false))⟩]) (.seq (.seq (.au [⟨some 6,none,.af (.t 0)⟩,⟨some 7,none,.af (.t 1)⟩,⟨some 8,none,.call ba [(.t 6),(.t 7)]⟩,⟨some 9,none,.not (.t 8)⟩]) (.cond (.t 9) (.seq (.au [⟨some 10,none,.af (.t 0)⟩,⟨some 4,none,.af (.t 10)⟩,⟨some 5,none,.af (.c (.bool false))⟩]) .ret) .skip)) (.seq (.au [⟨some 11,none,.af (.t 0)⟩,⟨some 12,none,.af (.t 1)⟩,⟨some 13,none,.lens (.t 12)⟩,⟨some 14,none,.gV (.t 11) (some (.t 13)) none⟩,⟨some 4,none,.af (.t 14)⟩,⟨some 5,none,.af (.c (.bool true))⟩]) .ret)))
theorem qQ {bb ba:Nat} (hF:aB P G bb=some (15,[(none,4),(none,5)],(cI ba).bare)) (s t:Bs)
  (hX:ai P G ba [.str s,.str t] (.bool (t.isPrefixOf s))) :
  ai P G bb [.str s,.str t] (.ei [.str (if t.isPrefixOf s then s.drop t.length else s),.bool (t.isPrefixOf s)]):=by
 refine aC hF (by simp) (by simp[ah,AV.ar]) (by simp[AV.ar,ah]) ?_;unfold cI;simp only[↓aX,mX,reduceCtorEq,Nat.reduceEqDiff,Nat.reduceLT,Nat.reduceLeDiff,Nat.reduceAdd,Nat.reduceMul,Int.reduceToNat,Int.reduceLE,Int.reduceLT];refine aj hX ?_;cases h:t.isPrefixOf s with
 |false=>simp only[↓aX,mX,reduceCtorEq,Nat.reduceEqDiff,Nat.reduceLT,Nat.reduceLeDiff,Nat.reduceAdd,Nat.reduceMul,Int.reduceToNat,Int.reduceLE,Int.reduceLT,Bool.not_false,↓df]
 |true=>
  have:t.length≤s.length:=by rw[List.isPrefixOf_iff_prefix] at h;exact h.length_le
  simp only[↓aX,mX,reduceCtorEq,Nat.reduceEqDiff,Nat.reduceLT,Nat.reduceLeDiff,Nat.reduceAdd,Nat.reduceMul,Int.reduceToNat,Int.reduceLE,Int.reduceLT,Bool.not_true,kZ,Int.natCast_nonneg,Int.toNat_natCast,true_and,this,List.take_length,↓df]
def fb (bb:Nat):AC:=
(.seq (.au [⟨some 4,none,.af (.c (.str []))⟩,⟨some 5,none,.af (.c (.bool false))⟩]) (.seq (.au [⟨some 6,none,.af (.t 0)⟩,⟨some 7,none,.af (.t 1)⟩,⟨some 8,none,.call bb [(.t 6),(.t 7)]⟩,⟨some 9,none,.ext (.t 8) 0⟩,⟨some 10,none,.ext (.t 8) 1⟩,⟨some 4,none,.af (.t 9)⟩,⟨some 5,none,.af (.t 10)⟩]) .ret))
theorem uo {cn bb:Nat} (hF:aB P G cn=some (11,[(none,4),(none,5)],(fb bb).bare)) (s t:Bs)
  (hX:ai P G bb [.str s,.str t] (.ei [.str (if t.isPrefixOf s then s.drop t.length else s),.bool (t.isPrefixOf s)])) :
  ai P G cn [.str s,.str t] (.ei [.str (if t.isPrefixOf s then s.drop t.length else s),.bool (t.isPrefixOf s)]):=by
 refine aC hF (by simp) (by simp[ah,AV.ar]) (by simp[AV.ar,ah]) ?_;unfold fb;simp only[↓aX,mX,reduceCtorEq,Nat.reduceEqDiff,Nat.reduceLT,Nat.reduceLeDiff,Nat.reduceAdd,Nat.reduceMul,Int.reduceToNat,Int.reduceLE,Int.reduceLT];refine aj hX ?_;simp only[↓aX,mX,reduceCtorEq,Nat.reduceEqDiff,Nat.reduceLT,Nat.reduceLeDiff,Nat.reduceAdd,Nat.reduceMul,Int.reduceToNat,Int.reduceLE,Int.reduceLT,↓df]
theorem zC (c s:Bs):(decide (c.length≤s.length)&&s.drop (s.length - c.length)==c)=c.isSuffixOf s:=by
 rw[Bool.eq_iff_iff];simp only[Bool.and_eq_true,decide_eq_true_eq,beq_iff_eq,List.isSuffixOf_iff_suffix];constructor
 ·rintro⟨_,h⟩;have:=List.take_append_drop (s.length - c.length) s;rw[h] at this;exact⟨_,this⟩
 ·rintro⟨t,rfl⟩;simp
def cJ:AC:=
(.seq (.au [⟨some 4,none,.af (.c (.bool false))⟩]) (.seq (.au [⟨some 5,none,.af (.t 0)⟩,⟨some 6,none,.lens (.t 5)⟩,⟨some 7,none,.af (.t 1)⟩,⟨some 8,none,.lens (.t 7)⟩,⟨some 9,none,.bin .geq (.t 6) (.t 8)⟩,⟨some 10,none,.af (.t 9)⟩,⟨some 11,(some (10,true)),(.af (.t 0))⟩,⟨some 12,(some (10,true)),(.af (.t 0))⟩,⟨some 13,(some (10,true)),(.lens (.t 12))⟩,⟨some 14,(some (10,true)),(.af (.t 1))⟩,⟨some 15,(some (10,true)),(.lens (.t 14))⟩,⟨some 16,(some (10,true)),(.bin .sub (.t 13) (.t 15))⟩,⟨some 17,(some (10,true)),(.gV (.t 11) (some (.t 16)) none)⟩,⟨some 18,(some (10,true)),(.af (.t 1))⟩,⟨some 19,(some (10,true)),(.bin .eql (.t 17) (.t 18))⟩,⟨some 20,none,.pick (.t 10) (.t 19) (.c (.bool false))⟩,⟨some 4,none,.af (.t 20)⟩]) .ret))
theorem uq {bc:Nat} (hF:aB P G bc=some (21,[(none,4)],cJ.bare)) (s t:Bs) (hs:s.length≤B) (ht:t.length≤B):ai P G bc [.str s,.str t] (.bool (t.isSuffixOf s)):=by
 refine aC hF (by simp) (by simp[ah,AV.ar]) (by simp[AV.ar]) ?_;unfold cJ;rw[←zC];simp only[↓aX,mX,reduceCtorEq,Nat.reduceEqDiff,Nat.reduceLT,Nat.reduceLeDiff,Nat.reduceAdd,Nat.reduceMul,Int.reduceToNat,Int.reduceLE,Int.reduceLT];by_cases h:t.length≤s.length
 ·have hw:IntKind.i64.wrap ((s.length:Int) - (t.length:Int))=((s.length - t.length:Nat):Int):=by rw[wrap64 (by unfold B at hs ht;omega) (by unfold B at hs ht;omega)];omega
  rw[show decide (((s.length:Nat):Int)≥((t.length:Nat):Int))=true by simpa using h,decide_eq_true h];simp only[↓aX,mX,reduceCtorEq,Nat.reduceEqDiff,Nat.reduceLT,Nat.reduceLeDiff,Nat.reduceAdd,Nat.reduceMul,Int.reduceToNat,Int.reduceLE,Int.reduceLT,hw,kZ,Int.natCast_nonneg,Int.toNat_natCast,true_and,show s.length - t.length≤s.length by omega,List.take_length]
 ·rw[show decide (((s.length:Nat):Int)≥((t.length:Nat):Int))=false by simpa using h,decide_eq_false h];simp only[↓aX,mX,reduceCtorEq,Nat.reduceEqDiff,Nat.reduceLT,Nat.reduceLeDiff,Nat.reduceAdd,Nat.reduceMul,Int.reduceToNat,Int.reduceLE,Int.reduceLT,Bool.false_and]
def cL (bc:Nat):AC:=
(.seq (.au [⟨some 4,none,.af (.c (.str []))⟩,⟨some 5,none,.af (.c (.bool false))⟩]) (.seq (.seq (.au [⟨some 6,none,.af (.t 0)⟩,⟨some 7,none,.af (.t 1)⟩,⟨some 8,none,.call bc [(.t 6),(.t 7)]⟩,⟨some 9,none,.not (.t 8)⟩]) (.cond (.t 9) (.seq (.au [⟨some 10,none,.af (.t 0)⟩,⟨some 4,none,.af (.t 10)⟩,⟨some 5,none,.af (.c (.bool false))⟩]) .ret) .skip)) (.seq (.au [⟨some 11,none,.af (.t 0)⟩,⟨some 12,none,.af (.t 0)⟩,⟨some 13,none,.lens (.t 12)⟩,⟨some 14,none,.af (.t 1)⟩,⟨some 15,none,.lens (.t 14)⟩,⟨some 16,none,.bin .sub (.t 13) (.t 15)⟩,⟨some 17,none,.gV (.t 11) none (some (.t 16))⟩,⟨some 4,none,.af (.t 17)⟩,⟨some 5,none,.af (.c (.bool true))⟩]) .ret)))
theorem qR {bd bc:Nat} (hF:aB P G bd=some (18,[(none,4),(none,5)],(cL bc).bare)) (s t:Bs) (hs:s.length≤B) (ht:t.length≤B)
  (hX:ai P G bc [.str s,.str t] (.bool (t.isSuffixOf s))) :
  ai P G bd [.str s,.str t] (.ei [.str (if t.isSuffixOf s then s.take (s.length - t.length) else s),.bool (t.isSuffixOf s)]):=by
 refine aC hF (by simp) (by simp[ah,AV.ar]) (by simp[AV.ar,ah]) ?_;unfold cL;simp only[↓aX,mX,reduceCtorEq,Nat.reduceEqDiff,Nat.reduceLT,Nat.reduceLeDiff,Nat.reduceAdd,Nat.reduceMul,Int.reduceToNat,Int.reduceLE,Int.reduceLT];refine aj hX ?_;cases h:t.isSuffixOf s with
 |false=>simp only[↓aX,mX,reduceCtorEq,Nat.reduceEqDiff,Nat.reduceLT,Nat.reduceLeDiff,Nat.reduceAdd,Nat.reduceMul,Int.reduceToNat,Int.reduceLE,Int.reduceLT,Bool.not_false,↓df]
 |true=>
  have hl:t.length≤s.length:=by rw[List.isSuffixOf_iff_suffix] at h;exact h.length_le
  have hw:IntKind.i64.wrap ((s.length:Int) - (t.length:Int))=((s.length - t.length:Nat):Int):=by rw[wrap64 (by unfold B at hs ht;omega) (by unfold B at hs ht;omega)];omega
  simp only[↓aX,mX,reduceCtorEq,Nat.reduceEqDiff,Nat.reduceLT,Nat.reduceLeDiff,Nat.reduceAdd,Nat.reduceMul,Int.reduceToNat,Int.reduceLE,Int.reduceLT,Bool.not_true,hw,kZ,Int.natCast_nonneg,Int.toNat_natCast,true_and,show s.length - t.length≤s.length by omega,↓df]
  try simp
def fc (bd:Nat):AC:=
(.seq (.au [⟨some 4,none,.af (.c (.str []))⟩,⟨some 5,none,.af (.c (.bool false))⟩]) (.seq (.au [⟨some 6,none,.af (.t 0)⟩,⟨some 7,none,.af (.t 1)⟩,⟨some 8,none,.call bd [(.t 6),(.t 7)]⟩,⟨some 9,none,.ext (.t 8) 0⟩,⟨some 10,none,.ext (.t 8) 1⟩,⟨some 4,none,.af (.t 9)⟩,⟨some 5,none,.af (.t 10)⟩]) .ret))
theorem ur {cp bd:Nat} (hF:aB P G cp=some (11,[(none,4),(none,5)],(fc bd).bare)) (s t:Bs)
  (hX:ai P G bd [.str s,.str t] (.ei [.str (if t.isSuffixOf s then s.take (s.length - t.length) else s),.bool (t.isSuffixOf s)])) :
  ai P G cp [.str s,.str t] (.ei [.str (if t.isSuffixOf s then s.take (s.length - t.length) else s),.bool (t.isSuffixOf s)]):=by
 refine aC hF (by simp) (by simp[ah,AV.ar]) (by simp[AV.ar,ah]) ?_;unfold fc;simp only[↓aX,mX,reduceCtorEq,Nat.reduceEqDiff,Nat.reduceLT,Nat.reduceLeDiff,Nat.reduceAdd,Nat.reduceMul,Int.reduceToNat,Int.reduceLE,Int.reduceLT];refine aj hX ?_;simp only[↓aX,mX,reduceCtorEq,Nat.reduceEqDiff,Nat.reduceLT,Nat.reduceLeDiff,Nat.reduceAdd,Nat.reduceMul,Int.reduceToNat,Int.reduceLE,Int.reduceLT,↓df]
def cA (c:UInt8) (s:Bs):Bs×Bs×Bool:=if 0≤Lib.indexByte s c then(s.take (Lib.indexByte s c).toNat,s.drop ((Lib.indexByte s c).toNat+1),true) else(s,[],false)
def dr (aH:Nat):AC:=
(.seq (.au [⟨some 4,none,.af (.c (.str []))⟩,⟨some 5,none,.af (.c (.str []))⟩,⟨some 6,none,.af (.c (.bool false))⟩]) (.seq (.seq (.au [⟨some 8,none,.af (.t 0)⟩,⟨some 9,none,.af (.t 1)⟩,⟨some 10,none,.call aH [(.t 8),(.t 9)]⟩,⟨some 7,none,.af (.t 10)⟩]) (.seq (.au [⟨some 11,none,.af (.t 7)⟩,⟨some 12,none,.bin .geq (.t 11) (.c (.int .i64 0))⟩]) (.cond (.t 12) (.seq (.fY [⟨some 13,none,.af (.t 0)⟩,⟨some 14,none,.af (.t 7)⟩,⟨some 15,none,.gV (.t 13) none (some (.t 14))⟩,⟨some 16,none,.af (.t 0)⟩,⟨some 17,none,.af (.t 7)⟩,⟨some 18,none,.af (.t 1)⟩,⟨some 19,none,.lens (.t 18)⟩,⟨some 20,none,.bin .add (.t 17) (.t 19)⟩,⟨some 21,none,.gV (.t 16) (some (.t 20)) none⟩,⟨some 4,none,.af (.t 15)⟩,⟨some 5,none,.af (.t 21)⟩,⟨some 6,none,.af (.c (.bool true))⟩] [[],[],[0,1],[],[],[],[5],[4,6],[3,7],[2,0,1,2],[8,9,0,1,2,3,4,5,6,7,8,9],[10,0,1,2,3,4,5,6,7,8,9,10]] [.no,.no,.no,.no,.no,.no,.no,.no,.no,.no,.no,.no]) .ret) .skip))) (.seq (.au [⟨some 22,none,.af (.t 0)⟩,⟨some 4,none,.af (.t 22)⟩,⟨some 5,none,.af (.c (.str []))⟩,⟨some 6,none,.af (.c (.bool false))⟩]) .ret)))
theorem uu {env:Env} {H:Hp} (t u v:Nat) (R:AV→Hp→Prop):ij [(none,t),(none,u),(none,v)] R .ret env H=R (.ei [env t,env u,env v]) H:=by simp[ij,jh,ob,mE]
theorem ED {bD aH:Nat} (hF:aB P G bD=some (23,[(none,4),(none,5),(none,6)],(dr aH).bare)) (s:Bs) (c:UInt8) (hs:s.length≤B)
  (hX:ai P G aH [.str s,.str [c]] (.int .i64 (Lib.indexByte s c))) :
  ai P G bD [.str s,.str [c]] (.ei [.str (cA c s).1,.str (cA c s).2.1,.bool (cA c s).2.2]):=by
 refine aC hF (by simp) (by simp[ah,AV.ar]) (by simp[AV.ar,ah]) ?_;unfold dr cA;simp only[↓aX,mX,reduceCtorEq,Nat.reduceEqDiff,Nat.reduceLT,Nat.reduceLeDiff,Nat.reduceAdd,Nat.reduceMul,Int.reduceToNat,Int.reduceLE,Int.reduceLT];refine aj hX ?_;rcases h_ c s with⟨h1,_,_⟩|⟨m,h1,h2,_,_⟩
 ·rw[h1,if_neg (by decide)];simp only[↓aX,mX,reduceCtorEq,Nat.reduceEqDiff,Nat.reduceLT,Nat.reduceLeDiff,Nat.reduceAdd,Nat.reduceMul,Int.reduceToNat,Int.reduceLE,Int.reduceLT,show decide ((-1:Int)≥0)=false from rfl,↓uu]
 ·rw[h1,if_pos (by omega)];have hw:IntKind.i64.wrap ((m:Int)+1)=((m+1:Nat):Int):=wrap64 (by omega) (by unfold B at hs;omega);simp only[↓aX,mX,reduceCtorEq,Nat.reduceEqDiff,Nat.reduceLT,Nat.reduceLeDiff,Nat.reduceAdd,Nat.reduceMul,Int.reduceToNat,Int.reduceLE,Int.reduceLT,ge_iff_le,Int.natCast_nonneg,decide_true];refine⟨rfl,?_⟩
  simp only[↓aX,mX,reduceCtorEq,Nat.reduceEqDiff,Nat.reduceLT,Nat.reduceLeDiff,Nat.reduceAdd,Nat.reduceMul,Int.reduceToNat,Int.reduceLE,Int.reduceLT,List.length_cons,List.length_nil,show((1:Nat):Int)=1 from rfl,hw,kZ,D0,Int.natCast_nonneg,Int.toNat_natCast,true_and,
   show m≤s.length by omega,show m+1≤s.length by omega,List.take_length,↓uu]
def iW (bD:Nat):AC:=
(.seq (.au [⟨some 4,none,.af (.c (.str []))⟩,⟨some 5,none,.af (.c (.str []))⟩,⟨some 6,none,.af (.c (.bool false))⟩]) (.seq (.au [⟨some 7,none,.af (.t 0)⟩,⟨some 8,none,.af (.t 1)⟩,⟨some 9,none,.call bD [(.t 7),(.t 8)]⟩,⟨some 10,none,.ext (.t 9) 0⟩,⟨some 11,none,.ext (.t 9) 1⟩,⟨some 12,none,.ext (.t 9) 2⟩,⟨some 4,none,.af (.t 10)⟩,⟨some 5,none,.af (.t 11)⟩,⟨some 6,none,.af (.t 12)⟩]) .ret))
theorem I5 {dL bD:Nat} (hF:aB P G dL=some (13,[(none,4),(none,5),(none,6)],(iW bD).bare)) (s:Bs) (c:UInt8)
  (hX:ai P G bD [.str s,.str [c]] (.ei [.str (cA c s).1,.str (cA c s).2.1,.bool (cA c s).2.2])) :
  ai P G dL [.str s,.str [c]] (.ei [.str (cA c s).1,.str (cA c s).2.1,.bool (cA c s).2.2]):=by
 refine aC hF (by simp) (by simp[ah,AV.ar]) (by simp[AV.ar,ah]) ?_;unfold iW;simp only[↓aX,mX,reduceCtorEq,Nat.reduceEqDiff,Nat.reduceLT,Nat.reduceLeDiff,Nat.reduceAdd,Nat.reduceMul,Int.reduceToNat,Int.reduceLE,Int.reduceLT];refine aj hX ?_;simp only[↓aX,mX,reduceCtorEq,Nat.reduceEqDiff,Nat.reduceLT,Nat.reduceLeDiff,Nat.reduceAdd,Nat.reduceMul,Int.reduceToNat,Int.reduceLE,Int.reduceLT,↓uu]
end
end Go.Am

/- Splitting, as strings.Split does it. -/
namespace Go.Am
open Go Go.RowKit
theorem EE {sz b d:Nat} {z:List AV} {m:Nat} {k k':IntKind} {H:Hp} (h1:m*b≤140737488355328) (h2:H (.loc d)= .unused) :
  rD sz b d z (.int k (m:Int)) (.int k' (m:Int)) H=some (.sl (.loc d) sz 0 m,bL H (.loc d) (.live ⟨sz,List.replicate m z⟩)):=by
 unfold rD;simp only;rw[if_pos ⟨rfl,by omega,by simpa using h1,h2⟩,Int.toNat_natCast]
def po (ws:List Bs):List (List AV):=ws.map fun w=>[AV.str w]
theorem sK (ws:List Bs):po ws=aG (ws.map IV.str):=by simp[po,aG,IV.cells,IV.b7]
theorem zD {ws:List Bs} {cs:List AV} (h:cs∈po ws):ah cs=[]:=by rw[sK] at h;exact bY h
theorem sL (ws:List Bs) (i:Nat) (w:Bs):(po ws).set i [.str w]=po (ws.set i w):=by simp[po,List.map_set]
theorem sM (ws:List Bs) (i:Nat):(po ws)[i]?=ws[i]?.map fun w=>[AV.str w]:=by simp[po]
theorem GU (ws:List Bs):Flat (ws.map IV.str):=by
 intro y hy z hz cs;obtain⟨w,_,rfl⟩:=List.mem_map.1 hy;simp only[IV.cells,List.mem_singleton] at hz;subst hz;simp
def fl (ws:List Bs) (n i:Nat):List Bs:=ws.take i++List.replicate (n - i) []
theorem sO {ws:List Bs} {n i:Nat} (h:i≤ws.length) (h2:i≤n):(fl ws n i).length=n:=by simp[fl];omega
theorem nn {ws:List Bs} {n i:Nat} {w:Bs} (h:ws[i]?=some w) (h2:i<n):(fl ws n i).set i w=fl ws n (i+1):=by
 have hl:=(List.getElem?_eq_some_iff.1 h).1;have hlen:(ws.take i).length=i:=by rw[List.length_take];omega
 unfold fl;rw[List.set_append_right _ _ (by omega),hlen,Nat.sub_self,List.take_add_one,h,show n - i=(n - (i+1))+1 by omega,List.replicate_succ,List.set_cons_zero];simp
theorem sQ {ws:List Bs} {n:Nat} (h:ws.length=n):fl ws n n=ws:=by
 unfold fl;rw[Nat.sub_self,List.replicate_zero,List.append_nil,List.take_of_length_le (by omega)]
def fw (fQ cY bW:Nat):AC:=
(.seq (.au [⟨some 8,none,.af (.c .nil0)⟩]) (.seq (.seq (.au [⟨some 12,none,.af (.t 3)⟩,⟨some 13,none,.bin .eql (.t 12) (.c (.int .i64 0))⟩]) (.cond (.t 13) (.seq (.au [⟨some 8,none,.af (.c .nil0)⟩]) .ret) .skip)) (.seq (.seq (.au [⟨some 14,none,.af (.t 1)⟩,⟨some 15,none,.bin .eql (.t 14) (.c (.str []))⟩]) (.cond (.t 15) (.seq (.au [⟨some 16,none,.af (.t 0)⟩,⟨some 17,none,.af (.t 3)⟩,⟨some 18,none,.call fQ [(.t 16),(.t 17)]⟩,⟨some 8,none,.af (.t 18)⟩]) .ret) .skip)) (.seq (.seq (.au [⟨some 19,none,.af (.t 3)⟩,⟨some 20,none,.bin .lss (.t 19) (.c (.int .i64 0))⟩]) (.cond (.t 20) (.au [⟨some 21,none,.af (.t 0)⟩,⟨some 22,none,.af (.t 1)⟩,⟨some 23,none,.call cY [(.t 21),(.t 22)]⟩,⟨some 24,none,.bin .add (.t 23) (.c (.int .i64 1))⟩,⟨some 3,none,.af (.t 24)⟩]) .skip)) (.seq (.au [⟨some 25,none,.af (.t 3)⟩,⟨some 26,none,.af (.t 0)⟩,⟨some 27,none,.lens (.t 26)⟩,⟨some 28,none,.bin .add (.t 27) (.c (.int .i64 1))⟩,⟨some 29,none,.min (.t 25) (.t 28)⟩,⟨some 3,none,.af (.t 29)⟩]) (.seq (.au [⟨some 30,none,.af (.t 3)⟩,⟨some 31,none,.s9 (.t 30) (.t 30) 1 16 [(.str [])]⟩,⟨some 9,none,.af (.t 31)⟩]) (.seq (.au [⟨some 32,none,.af (.t 3)⟩,⟨some 33,none,.bin .sub (.t 32) (.c (.int .i64 1))⟩,⟨some 3,none,.af (.t 33)⟩]) (.seq (.au [⟨some 10,none,.af (.c (.int .i64 0))⟩]) (.seq (.block 0 (.loop (.seq (.seq (.au [⟨some 34,none,.af (.t 10)⟩,⟨some 35,none,.af (.t 3)⟩,⟨some 36,none,.bin .lss (.t 34) (.t 35)⟩]) (.cond (.t 36) .skip (.exit 0))) (.block 1 (.seq (.au [⟨some 37,none,.af (.t 0)⟩,⟨some 38,none,.af (.t 1)⟩,⟨some 39,none,.call bW [(.t 37),(.t 38)]⟩,⟨some 11,none,.af (.t 39)⟩]) (.seq (.seq (.au [⟨some 40,none,.af (.t 11)⟩,⟨some 41,none,.bin .lss (.t 40) (.c (.int .i64 0))⟩]) (.cond (.t 41) (.exit 0) .skip)) (.seq (.au [⟨some 42,none,.af (.t 9)⟩,⟨some 43,none,.af (.t 10)⟩,⟨some 44,none,.af (.t 0)⟩,⟨some 45,none,.af (.t 11)⟩,⟨some 46,none,.af (.t 2)⟩,⟨some 47,none,.bin .add (.t 45) (.t 46)⟩,⟨some 48,none,.gV (.t 44) none (some (.t 47))⟩,⟨some 49,none,.fH (.t 42) (.t 43) 1⟩,⟨none,none,.store 1 (.t 49) (.t 48)⟩]) (.seq (.au [⟨some 50,none,.af (.t 0)⟩,⟨some 51,none,.af (.t 11)⟩,⟨some 52,none,.af (.t 1)⟩,⟨some 53,none,.lens (.t 52)⟩,⟨some 54,none,.bin .add (.t 51) (.t 53)⟩,⟨some 55,none,.gV (.t 50) (some (.t 54)) none⟩,⟨some 0,none,.af (.t 55)⟩]) (.au [⟨some 56,none,.af (.t 10)⟩,⟨some 57,none,.bin .add (.t 56) (.c (.int .i64 1))⟩,⟨some 10,none,.af (.t 57)⟩]))))))))) (.seq (.au [⟨some 58,none,.af (.t 9)⟩,⟨some 59,none,.af (.t 10)⟩,⟨some 60,none,.af (.t 0)⟩,⟨some 61,none,.fH (.t 58) (.t 59) 1⟩,⟨none,none,.store 1 (.t 61) (.t 60)⟩]) (.seq (.au [⟨some 62,none,.af (.t 9)⟩,⟨some 63,none,.af (.t 10)⟩,⟨some 64,none,.bin .add (.t 63) (.c (.int .i64 1))⟩,⟨some 65,none,.uM (.t 62) none (some (.t 64)) none 1⟩,⟨some 8,none,.af (.t 65)⟩]) (.gh (.xQ (.loc 31) 8) .ret))))))))))))
structure I6 (c:UInt8) (s:Bs) where
 i:Nat
 r:Bs
 hc:r.count c+i=s.count c
 hs:bV c s=(bV c s).take i++bV c r
 hl:r.length≤s.length
theorem wS {P:Program} {G:Nat→Option (List IV)} {cu fQ cY bW:Nat} (hF:aB P G cu=some (66,[(none,8)],(fw fQ cY bW).bare)) (s:Bs) (c:UInt8) (hs:s.length≤B)
  (hC:ai P G cY [.str s,.str [c]] (.int .i64 ((s.count c:Nat):Int))) (hX:∀r:Bs,ai P G bW [.str r,.str [c]] (.int .i64 (Lib.indexByte r c))) :
  ai P G cu [.str s,.str [c],.int .i64 0,.int .i64 (-1)] (.list ((bV c s).map IV.str)):=by
 refine aC hF (by simp) (by simp[ah,AV.ar]) (by simp[AV.ar]) ?_;have qo:s.count c≤s.length:=List.count_le_length;have rn:B=1073741824:=rfl;have Hz:=mK c _ s rfl;have ku:IntKind.i64.wrap (((s.count c:Nat):Int)+1)=((s.count c+1:Nat):Int):=wrap64 (by omega) (by omega);have yX:IntKind.i64.wrap (((s.length:Nat):Int)+1)=((s.length+1:Nat):Int):=wrap64 (by omega) (by omega)
 have Li:IntKind.i64.wrap (((s.count c+1:Nat):Int) - 1)=((s.count c:Nat):Int):=by rw[wrap64 (by omega) (by omega)];omega
 have I7:¬(((s.length+1:Nat):Int)<((s.count c+1:Nat):Int)):=by omega
 unfold fw;simp only[↓aX,mX,reduceCtorEq,Nat.reduceEqDiff,Nat.reduceLT,Nat.reduceLeDiff,Nat.reduceAdd,Nat.reduceMul,Int.reduceToNat,Int.reduceLE,Int.reduceLT,show((-1:Int)==0)=false from rfl,show(([c]:Bs)==[])=false from rfl,decide_true];refine aj hC ?_
 simp only[↓aX,mX,reduceCtorEq,Nat.reduceEqDiff,Nat.reduceLT,Nat.reduceLeDiff,Nat.reduceAdd,Nat.reduceMul,Int.reduceToNat,Int.reduceLE,Int.reduceLT,ku,yX,I7];rw[EE (by omega) (by simp[Hp.none])];simp only[↓aX,mX,reduceCtorEq,Nat.reduceEqDiff,Nat.reduceLT,Nat.reduceLeDiff,Nat.reduceAdd,Nat.reduceMul,Int.reduceToNat,Int.reduceLE,Int.reduceLT,Li]
 refine eo (σ:=I6 c s) [.loc 31] (fun q=>[(0,.str q.r),(1,.str [c]),(2,.int .i64 0),(3,.int .i64 ((s.count c:Nat):Int)),(9,.sl (.loc 31) 1 0 (s.count c+1)),(10,.int .i64 q.i)])
  (fun q=>[(.loc 31,⟨1,po (fl (bV c s) (s.count c+1) q.i)⟩)]) (fun q=>s.count c - q.i) ⟨0,s,rfl,by simp,Nat.le_refl _⟩ (fun _=>rfl) (by decide) (by simp[ah,AV.ar]) (by
   intro q r hr cs bx l hl;simp only[List.mem_singleton] at hr;subst hr;rw[zD bx] at hl;simp at hl) ?_ ?_
 ·refine dT (by simp only[kz,ji]) (by repeat' constructor) ⟨?_,trivial⟩;simp[fl,po,ae]
 ·rintro⟨i,r,hc,CN,hl⟩;have hlen:(fl (bV c s) (s.count c+1) i).length=s.count c+1:=sO (by omega) (by omega);simp only[↓aX,mX,reduceCtorEq,Nat.reduceEqDiff,Nat.reduceLT,Nat.reduceLeDiff,Nat.reduceAdd,Nat.reduceMul,Int.reduceToNat,Int.reduceLE,Int.reduceLT,cb,bO];by_cases bz:i<s.count c
  ·rw[show decide (((i:Nat):Int)<((s.count c:Nat):Int))=true by simpa using bz];simp only[↓aX,mX,reduceCtorEq,Nat.reduceEqDiff,Nat.reduceLT,Nat.reduceLeDiff,Nat.reduceAdd,Nat.reduceMul,Int.reduceToNat,Int.reduceLE,Int.reduceLT];refine aj (hX r) ?_;rcases h_ c r with⟨_,h2,_⟩|⟨m,h1,h2,h3,h4⟩
   ·omega
   rw[h1]
   have jz:(bV c s)[i]?=some (r.take m):=by
    rw[CN,List.getElem?_append_right (by rw[List.length_take];omega),h4,List.length_take,Nat.min_eq_left (by omega),Nat.sub_self];rfl
   obtain⟨w0,xL⟩:∃w0,(fl (bV c s) (s.count c+1) i)[i]?=some w0:=⟨_,List.getElem?_eq_getElem (by omega)⟩;have lJ:=nn (n:=s.count c+1) jz (by omega);have Lj:IntKind.i64.wrap (((m:Nat):Int)+0)=((m:Nat):Int):=by rw[wrap64 (by omega) (by omega)];omega
   have Lk:IntKind.i64.wrap (((m:Nat):Int)+1)=((m+1:Nat):Int):=wrap64 (by omega) (by omega);have Ll:IntKind.i64.wrap (((i:Nat):Int)+1)=((i+1:Nat):Int):=wrap64 (by omega) (by omega)
   simp only[↓aX,mX,reduceCtorEq,Nat.reduceEqDiff,Nat.reduceLT,Nat.reduceLeDiff,Nat.reduceAdd,Nat.reduceMul,Int.reduceToNat,Int.reduceLE,Int.reduceLT,show ¬(((m:Nat):Int)<0) by omega,decide_false,Lj,kZ,D0,Int.natCast_nonneg,Int.toNat_natCast,true_and,show m≤r.length by omega,List.drop_zero,sL,sM,hlen,xL,Option.map_some,Option.bind_some,List.drop_succ_cons,List.drop_nil,lJ,show i<s.count c+1 by omega,Nat.zero_add,
    List.length_cons,List.length_nil,show((1:Nat):Int)=1 from rfl,Lk,show m+1≤r.length by omega,List.take_length,Ll]
   exact⟨⟨i+1,r.drop (m+1),by omega,by
     have h5:(bV c s).take (i+1)=(bV c s).take i++[r.take m]:=by rw[List.take_add_one,jz];rfl
     rw[h5,List.append_assoc];rw[h4] at CN;exact CN,by rw[List.length_drop];omega⟩,by simp only;omega,dT (by simp only[kz,ji]) (by repeat' constructor) ⟨by simp[ae],trivial⟩⟩
  ·have hi:i=s.count c:=by omega
   subst hi;have hz:r.count c=0:=by omega
   have hr:bV c r=[r]:=by
    rcases h_ c r with⟨_,_,h3⟩|⟨m,_,_,h3,_⟩
    ·exact h3
    ·omega
   have jz:(bV c s)[s.count c]?=some r:=by
    rw[CN,hr,List.getElem?_append_right (by rw[List.length_take];omega),List.length_take,Nat.min_eq_left (by omega),Nat.sub_self];rfl
   obtain⟨w0,xL⟩:∃w0,(fl (bV c s) (s.count c+1) (s.count c))[s.count c]?=some w0:=⟨_,List.getElem?_eq_getElem (by omega)⟩;have lJ:=nn (n:=s.count c+1) jz (by omega);rw[sQ Hz] at lJ;rw[show decide (((s.count c:Nat):Int)<((s.count c:Nat):Int))=false by simp]
   simp only[↓aX,mX,reduceCtorEq,Nat.reduceEqDiff,Nat.reduceLT,Nat.reduceLeDiff,Nat.reduceAdd,Nat.reduceMul,Int.reduceToNat,Int.reduceLE,Int.reduceLT,kZ,D0,Int.natCast_nonneg,Int.toNat_natCast,true_and,sM,xL,Option.map_some,Option.bind_some,List.length_cons,List.length_nil,List.drop_succ_cons,List.drop_zero,List.drop_nil,Nat.zero_add,sL,lJ,ku,
    show s.count c<s.count c+1 by omega,Nat.le_refl]
   simp only[↓aX,mX,reduceCtorEq,Nat.reduceEqDiff,Nat.reduceLT,Nat.reduceLeDiff,Nat.reduceAdd,Nat.reduceMul,Int.reduceToNat,Int.reduceLE,Int.reduceLT,qk,j4,kZ,D0,Int.natCast_nonneg,Int.toNat_natCast,true_and,Nat.le_refl,Nat.zero_le,Option.bind_some,Option.map_some,Option.isSome_none,Nat.sub_zero,Nat.add_zero,Nat.zero_add];refine⟨1,(bV c s).map IV.str,0,s.count c+1,rfl,?_,by simp[Hz],GU _,?_⟩
   ·rw[←sK];try simp[ae]
   ·simp only[↓aX,mX,reduceCtorEq,Nat.reduceEqDiff,Nat.reduceLT,Nat.reduceLeDiff,Nat.reduceAdd,Nat.reduceMul,Int.reduceToNat,Int.reduceLE,Int.reduceLT,List.drop_zero,List.take_of_length_le (show((bV c s).map IV.str).length≤s.count c+1 by rw[List.length_map];omega)]
def gS (cu:Nat):AC:=
(.seq (.au [⟨some 4,none,.af (.c .nil0)⟩]) (.seq (.au [⟨some 5,none,.af (.t 0)⟩,⟨some 6,none,.af (.t 1)⟩,⟨some 7,none,.call cu [(.t 5),(.t 6),(.c (.int .i64 0)),(.c (.int .i64 (-1)))]⟩,⟨some 4,none,.af (.t 7)⟩]) .ret))
theorem EF {P:Program} {G:Nat→Option (List IV)} {cZ cu:Nat} (hF:aB P G cZ=some (8,[(none,4)],(gS cu).bare)) (s:Bs) (c:UInt8)
  (hX:ai P G cu [.str s,.str [c],.int .i64 0,.int .i64 (-1)] (.list ((bV c s).map IV.str))):ai P G cZ [.str s,.str [c]] (.list ((bV c s).map IV.str)):=by
 refine aC hF (by simp) (by simp[ah,AV.ar]) (by simp[AV.ar]) ?_;unfold gS;simp only[↓aX,mX,reduceCtorEq,Nat.reduceEqDiff,Nat.reduceLT,Nat.reduceLeDiff,Nat.reduceAdd,Nat.reduceMul,Int.reduceToNat,Int.reduceLE,Int.reduceLT];refine aj hX ?_;simp only[↓aX,mX,reduceCtorEq,Nat.reduceEqDiff,Nat.reduceLT,Nat.reduceLeDiff,Nat.reduceAdd,Nat.reduceMul,Int.reduceToNat,Int.reduceLE,Int.reduceLT]
end Go.Am
