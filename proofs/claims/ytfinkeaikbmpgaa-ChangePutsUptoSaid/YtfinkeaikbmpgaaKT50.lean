import Derived.Test.YtfinkeaikbmpgaaKAm33
import Derived.Test.YtfinkeaikbmpgaaKAm45
import Derived.Test.YtfinkeaikbmpgaaKC7
set_option linter.unusedSimpArgs false
set_option linter.unusedVariables false
set_option linter.unnecessarySimpa false
set_option linter.defProp false
/- Elements put into a list, and taken out. -/
set_option pp.deepTerms false
set_option pp.deepTerms.threshold 5
namespace Go.Am
open Go Go.RowKit
section
variable {P:Program} {G:Nat→Option (List IV)}
def dr (bS b_:Nat):AC:=
(.seq (.aM [⟨some 6,none,.ak (.c .nil0)⟩]) (.gh (.Ip) (.seq (.aM [⟨some 10,none,.ak (.t 0)⟩,⟨some 11,none,.ak (.t 1)⟩,⟨some 12,none,.kX (.t 10) (some (.t 11)) none none 1⟩]) (.seq (.aM [⟨some 13,none,.ak (.t 2)⟩,⟨some 14,none,.len (.t 13)⟩,⟨some 7,none,.ak (.t 14)⟩]) (.seq (.seq (.aM [⟨some 15,none,.ak (.t 7)⟩,⟨some 16,none,.bin .eql (.t 15) (.c (.int .i64 0))⟩]) (.cond (.t 16) (.seq (.aM [⟨some 17,none,.ak (.t 0)⟩,⟨some 6,none,.ak (.t 17)⟩]) .ret) .skip)) (.seq (.aM [⟨some 18,none,.ak (.t 0)⟩,⟨some 19,none,.len (.t 18)⟩,⟨some 8,none,.ak (.t 19)⟩]) (.seq (.seq (.aM [⟨some 20,none,.ak (.t 1)⟩,⟨some 21,none,.ak (.t 8)⟩,⟨some 22,none,.bin .eql (.t 20) (.t 21)⟩]) (.cond (.t 22) (.seq (.aM [⟨some 23,none,.ak (.t 0)⟩,⟨some 24,none,.ak (.t 2)⟩,⟨some 25,none,.app (.t 23) (.t 24) 1 8⟩,⟨some 6,none,.ak (.t 25)⟩]) .ret) .skip)) (.seq (.seq (.aM [⟨some 26,none,.ak (.t 8)⟩,⟨some 27,none,.ak (.t 7)⟩,⟨some 28,none,.bin .add (.t 26) (.t 27)⟩,⟨some 29,none,.ak (.t 0)⟩,⟨some 30,none,.cap (.t 29)⟩,⟨some 31,none,.bin .gtr (.t 28) (.t 30)⟩]) (.cond (.t 31) (.seq (.aM [⟨some 32,none,.ak (.t 0)⟩,⟨some 33,none,.ak (.t 1)⟩,⟨some 34,none,.kX (.t 32) none (some (.t 33)) none 1⟩,⟨some 35,none,.ak (.t 8)⟩,⟨some 36,none,.ak (.t 7)⟩,⟨some 37,none,.bin .add (.t 35) (.t 36)⟩,⟨some 38,none,.ak (.t 1)⟩,⟨some 39,none,.bin .sub (.t 37) (.t 38)⟩,⟨some 40,none,.qK (.t 34) (.t 39) 1 8 [(.int .i64 0)]⟩,⟨some 9,none,.ak (.t 40)⟩]) (.seq (.aM [⟨some 41,none,.ak (.t 9)⟩,⟨some 42,none,.ak (.t 1)⟩,⟨some 43,none,.kX (.t 41) (some (.t 42)) none none 1⟩,⟨some 44,none,.ak (.t 2)⟩,⟨some 45,none,.o8 (.t 43) (.t 44) 1⟩]) (.seq (.eY [⟨some 46,none,.ak (.t 9)⟩,⟨some 47,none,.ak (.t 1)⟩,⟨some 48,none,.ak (.t 7)⟩,⟨some 49,none,.bin .add (.t 47) (.t 48)⟩,⟨some 50,none,.kX (.t 46) (some (.t 49)) none none 1⟩,⟨some 51,none,.ak (.t 0)⟩,⟨some 52,none,.ak (.t 1)⟩,⟨some 53,none,.kX (.t 51) (some (.t 52)) none none 1⟩,⟨some 54,none,.o8 (.t 50) (.t 53) 1⟩] [[],[],[],[1,2],[0,3],[],[],[5,6],[4,7]] [.no,.no,.no,.no,.no,.no,.no,.no,(.rw [(.par 0)] [(.loc 40)])]) (.seq (.aM [⟨some 55,none,.ak (.t 9)⟩,⟨some 6,none,.ak (.t 55)⟩]) .ret)))) .skip)) (.seq (.aM [⟨some 56,none,.ak (.t 0)⟩,⟨some 57,none,.ak (.t 8)⟩,⟨some 58,none,.ak (.t 7)⟩,⟨some 59,none,.bin .add (.t 57) (.t 58)⟩,⟨some 60,none,.kX (.t 56) none (some (.t 59)) none 1⟩,⟨some 0,none,.ak (.t 60)⟩]) (.seq (.seq (.aM [⟨some 61,none,.ak (.t 2)⟩,⟨some 62,none,.ak (.t 0)⟩,⟨some 63,none,.ak (.t 1)⟩,⟨some 64,none,.ak (.t 7)⟩,⟨some 65,none,.bin .add (.t 63) (.t 64)⟩,⟨some 66,none,.kX (.t 62) (some (.t 65)) none none 1⟩,⟨some 67,none,.lZ bS [(.t 61),(.t 66)]⟩,⟨some 68,none,.not (.t 67)⟩]) (.cond (.t 68) (.seq (.eY [⟨some 69,none,.ak (.t 0)⟩,⟨some 70,none,.ak (.t 1)⟩,⟨some 71,none,.ak (.t 7)⟩,⟨some 72,none,.bin .add (.t 70) (.t 71)⟩,⟨some 73,none,.kX (.t 69) (some (.t 72)) none none 1⟩,⟨some 74,none,.ak (.t 0)⟩,⟨some 75,none,.ak (.t 1)⟩,⟨some 76,none,.kX (.t 74) (some (.t 75)) none none 1⟩,⟨some 77,none,.o8 (.t 73) (.t 76) 1⟩] [[],[],[],[1,2],[0,3],[],[],[5,6],[4,7]] [.no,.no,.no,.no,.no,.no,.no,.no,(.rw [] [(.par 0)])]) (.seq (.aM [⟨some 78,none,.ak (.t 0)⟩,⟨some 79,none,.ak (.t 1)⟩,⟨some 80,none,.kX (.t 78) (some (.t 79)) none none 1⟩,⟨some 81,none,.ak (.t 2)⟩,⟨some 82,none,.o8 (.t 80) (.t 81) 1⟩]) (.seq (.aM [⟨some 83,none,.ak (.t 0)⟩,⟨some 6,none,.ak (.t 83)⟩]) .ret))) .skip)) (.seq (.aM [⟨some 84,none,.ak (.t 0)⟩,⟨some 85,none,.ak (.t 8)⟩,⟨some 86,none,.kX (.t 84) (some (.t 85)) none none 1⟩,⟨some 87,none,.ak (.t 2)⟩,⟨some 88,none,.o8 (.t 86) (.t 87) 1⟩]) (.seq (.aM [⟨some 89,none,.ak (.t 0)⟩,⟨some 90,none,.ak (.t 1)⟩,⟨some 91,none,.kX (.t 89) (some (.t 90)) none none 1⟩,⟨some 92,none,.ak (.t 7)⟩,⟨some 93,none,.call b_ [(.t 91),(.t 92)]⟩]) (.seq (.aM [⟨some 94,none,.ak (.t 0)⟩,⟨some 6,none,.ak (.t 94)⟩]) .ret)))))))))))))
theorem Dv {bh bS b_:Nat} (hF:aA P G bh=some (95,[(none,6)],(dr bS b_).bare)) (xs vs:List IV) (i:Nat) (hi:i≤xs.length) (hb:xs.length+vs.length≤B)
  (ex:iw 1 xs) (fx:Flat xs) (ev:iw 1 vs) (fv:Flat vs)
  (hO:∀(N:Nat) (l:Lb) (sz j n c:Nat) (r:Row) (H:Hp),vs≠[]→H l= .live r→0<n→mu ⟨P,G,N⟩ bS [.list vs,.slk l sz j n c] H (.bool false)) :
  rV P G 1 bh [.sl (.par 0) 1 0 xs.length,.int .i64 i,.list vs] xs (xs.take i++vs++xs.drop i):=by
 refine lP hF (by simp) (by simp[ax,AV.aI]) ?_;have pw:B=1073741824:=rfl;unfold dr;simp only[↓aX,mX,reduceCtorEq,Nat.reduceEqDiff,Nat.reduceLT,Nat.reduceLeDiff,Nat.reduceAdd,Nat.reduceMul,Int.reduceToNat,Int.reduceLE,Int.reduceLT];rw[uE];refine⟨_,_,_,lO (d:=0) (l:= .par 0) (n:=xs.length) (els:=ay xs) rfl (by simp[kh]),?_⟩;rintro⟨c,Ei,JM⟩
 obtain⟨rest,gI⟩:∃rest,rest=List.replicate (c - (ay xs).length) (List.replicate 1 AV.any):=⟨_,rfl⟩;have J_:rest.length=c - xs.length:=by rw[gI,List.length_replicate,cB]
 simp only[←gI];have hz:∀(A D:List (List AV)),D=[]→A++D=A:=fun A D h=>by rw[h,List.append_nil]
 have Ka:=cB xs;have vn:=cB vs;have mT:IntKind.i64.wrap ((xs.length:Int)+(vs.length:Int))=((xs.length+vs.length:Nat):Int):=wrap64 (by omega) (by omega);have G9:IntKind.i64.wrap (((xs.length+vs.length:Nat):Int) - (i:Int))=((xs.length+vs.length - i:Nat):Int):=by rw[wrap64 (by omega) (by omega)];omega
 have xV:IntKind.i64.wrap ((i:Int)+(vs.length:Int))=((i+vs.length:Nat):Int):=wrap64 (by omega) (by omega);simp only[↓aX,mX,reduceCtorEq,Nat.reduceEqDiff,Nat.reduceLT,Nat.reduceLeDiff,Nat.reduceAdd,Nat.reduceMul,Int.reduceToNat,Int.reduceLE,Int.reduceLT,kh,jK,jC,lD,sR,hi,Option.isSome_none,Int.natCast_nonneg,Int.toNat_natCast,and_self,true_and,Nat.zero_le,Nat.sub_zero];by_cases hm:vs.length=0
 ·have I5:vs=[]:=List.length_eq_zero_iff.1 hm;rw[show(((vs.length:Nat):Int)==0)=true by simp[hm]];subst I5;simp only[↓aX,mX,reduceCtorEq,Nat.reduceEqDiff,Nat.reduceLT,Nat.reduceLeDiff,Nat.reduceAdd,Nat.reduceMul,Int.reduceToNat,Int.reduceLE,Int.reduceLT,List.append_nil,List.take_append_drop,iR];exact⟨.par 0,c,rest,.inr rfl,by simp⟩
 ·rw[show(((vs.length:Nat):Int)==0)=false by simpa using hm];simp only[↓aX,mX,reduceCtorEq,Nat.reduceEqDiff,Nat.reduceLT,Nat.reduceLeDiff,Nat.reduceAdd,Nat.reduceMul,Int.reduceToNat,Int.reduceLE,Int.reduceLT];have LH:vs≠[]:=fun e=>hm (by rw[e];rfl)
  by_cases mn:i=xs.length
  ·rw[show(((i:Nat):Int)==((xs.length:Nat):Int))=true by simp[mn]];simp only[↓aX,mX,reduceCtorEq,Nat.reduceEqDiff,Nat.reduceLT,Nat.reduceLeDiff,Nat.reduceAdd,Nat.reduceMul,Int.reduceToNat,Int.reduceLE,Int.reduceLT];by_cases qR:xs.length+vs.length≤c
   ·rw[r6 (els:=ay xs++rest) (by simp) (by simp;omega) ev fv (by decide) (by simp) qR (by simp;omega)];simp only[↓aX,mX,reduceCtorEq,Nat.reduceEqDiff,Nat.reduceLT,Nat.reduceLeDiff,Nat.reduceAdd,Nat.reduceMul,Int.reduceToNat,Int.reduceLE,Int.reduceLT,iR];refine⟨.par 0,c,(ay xs++rest).drop (xs.length+vs.length),.inr ?_,?_⟩
    ·simp[mn]
    ·simp only[ai,if_true,Slot.live.injEq,Row.mk.injEq,true_and];rw[mn,List.take_of_length_le (Nat.le_refl _),List.drop_of_length_le (Nat.le_refl _),List.append_nil,gX (Nat.le_refl _),List.take_of_length_le (Nat.le_refl _),gS]
   ·rw[qb (els:=ay xs++rest) (by simp) (by simp;omega) ev fv (by decide) (by simp) (by omega) (by omega) (by simp[Hp.none,ai])];simp only[↓aX,mX,reduceCtorEq,Nat.reduceEqDiff,Nat.reduceLT,Nat.reduceLeDiff,Nat.reduceAdd,Nat.reduceMul,Int.reduceToNat,Int.reduceLE,Int.reduceLT,iR];subst mn;refine⟨.loc 25,0,[],by simp,?_⟩;simp only[ai,if_true,Slot.live.injEq,Row.mk.injEq,true_and]
    rw[List.take_of_length_le (Nat.le_refl _),List.drop_of_length_le (Nat.le_refl _),List.append_nil,gX (Nat.le_refl _),List.take_of_length_le (Nat.le_refl _)];simp[ay]
  ·rw[show(((i:Nat):Int)==((xs.length:Nat):Int))=false by simp;omega];simp only[↓aX,mX,reduceCtorEq,Nat.reduceEqDiff,Nat.reduceLT,Nat.reduceLeDiff,Nat.reduceAdd,Nat.reduceMul,Int.reduceToNat,Int.reduceLE,Int.reduceLT,mT,vW];intro _;have uU:ay (xs.take i)++ay vs++ay (xs.drop i)=ay (xs.take i++vs++xs.drop i):=by rw[gS,gS]
   have hlen:(xs.take i++vs++xs.drop i).length=xs.length+vs.length:=by simp;omega
   rw[hlen];have qw:=cB (xs.take i);rw[List.length_take,Nat.min_eq_left hi] at qw;have Kb:=cB (xs.drop i);rw[List.length_drop] at Kb;by_cases qR:c<xs.length+vs.length
   ·rw[show decide (((xs.length+vs.length:Nat):Int)>(c:Int))=true by simp;omega];simp only[↓aX,mX,reduceCtorEq,Nat.reduceEqDiff,Nat.reduceLT,Nat.reduceLeDiff,Nat.reduceAdd,Nat.reduceMul,Int.reduceToNat,Int.reduceLE,Int.reduceLT,jK,jC,lD,sR,hi,Option.isSome_none,Int.natCast_nonneg,Int.toNat_natCast,and_self,true_and,Nat.zero_le,Nat.sub_zero,mT,G9,show i≤c by omega]
    obtain⟨k,hk⟩:∃k,k=xs.length+vs.length - i:=⟨_,rfl⟩;rw[←hk];have Py:i+k=xs.length+vs.length:=by omega
    rw[wu (els:=ay xs++rest) (by simp) (by simp;omega) (by omega) (by omega) (by simp[Hp.none,ai]),gX hi,Py]
    simp only[↓aX,mX,reduceCtorEq,Nat.reduceEqDiff,Nat.reduceLT,Nat.reduceLeDiff,Nat.reduceAdd,Nat.reduceMul,Int.reduceToNat,Int.reduceLE,Int.reduceLT,jK,nq,lD,sR,hi,Option.isSome_none,Int.natCast_nonneg,Int.toNat_natCast,and_self,true_and,Nat.zero_le,Nat.sub_zero,show i≤xs.length+vs.length by omega,Nat.zero_add,←hk]
    rw[mH (news:=ay vs) (l:= .loc 40) (i:=i) (n:=k) (els:=ay (xs.take i)++List.replicate k [AV.int .i64 0]) (m:=vs.length) (ig ev) rfl (by simp) (by simp;omega) (by rw[vn];exact(Nat.min_eq_left (by omega)).symm) (fun cs b5=>fv.one cs (List.mem_of_mem_take b5))];rw[List.take_left' qw,List.take_of_length_le (Nat.le_of_eq vn)]
    simp only[↓aX,mX,reduceCtorEq,Nat.reduceEqDiff,Nat.reduceLT,Nat.reduceLeDiff,Nat.reduceAdd,Nat.reduceMul,Int.reduceToNat,Int.reduceLE,Int.reduceLT,jK,nq,jC,lD,sR,hi,Option.isSome_none,Int.natCast_nonneg,Int.toNat_natCast,and_self,true_and,Nat.zero_le,Nat.sub_zero,show i+vs.length≤xs.length+vs.length by omega,Nat.zero_add,xV];refine⟨by decide +kernel,?_⟩
    rw[mH (news:=ay (xs.drop i)) (l:= .loc 40) (i:=i+vs.length) (n:=xs.length+vs.length - (i+vs.length)) (els:=ay (xs.take i)++ay vs++(ay (xs.take i)++List.replicate k [AV.int .i64 0]).drop (i+vs.length)) (m:=xs.length - i)]
    ·simp only[↓aX,mX,reduceCtorEq,Nat.reduceEqDiff,Nat.reduceLT,Nat.reduceLeDiff,Nat.reduceAdd,Nat.reduceMul,Int.reduceToNat,Int.reduceLE,Int.reduceLT,iR,bU,Lb.iJ];refine⟨.loc 40,0,[],by simp,?_⟩;simp only[ai,if_true,Slot.live.injEq,Row.mk.injEq,true_and,List.append_nil];rw[←uU,List.take_left' (by simp;omega),List.take_of_length_le (Nat.le_of_eq Kb)]
     exact hz _ _ (List.drop_of_length_le (by simp;omega))
    ·simp only[jL,ai,reduceCtorEq,if_false,if_true,true_and];rw[if_pos (by simp;omega)]
     congr 1
     rw[ly (by omega)]
     congr 1
     exact List.take_of_length_le (by simp)
    ·rfl
    ·simp
    ·simp;omega
    ·rw[Kb];exact(Nat.min_eq_left (by omega)).symm
    ·exact fun cs b5=>(Flat.one (fun y hy=>fx y (List.mem_of_mem_drop hy)):∀cs∈ay (xs.drop i),AV.la cs) cs (List.mem_of_mem_take b5)
   ·rw[show decide (((xs.length+vs.length:Nat):Int)>(c:Int))=false by simp;omega]
    simp only[↓aX,mX,reduceCtorEq,Nat.reduceEqDiff,Nat.reduceLT,Nat.reduceLeDiff,Nat.reduceAdd,Nat.reduceMul,Int.reduceToNat,Int.reduceLE,Int.reduceLT,jK,jC,lD,sR,hi,Option.isSome_none,Int.natCast_nonneg,Int.toNat_natCast,and_self,true_and,Nat.zero_le,Nat.sub_zero,mT,xV,show xs.length+vs.length≤c by omega,show i+vs.length≤xs.length+vs.length by omega,Nat.zero_add]
    refine xP (hO _ (.par 0) _ _ _ _ ⟨1,ay xs++rest⟩ _ LH (by simp) (by omega)) ?_
    simp only[↓aX,mX,reduceCtorEq,Nat.reduceEqDiff,Nat.reduceLT,Nat.reduceLeDiff,Nat.reduceAdd,Nat.reduceMul,Int.reduceToNat,Int.reduceLE,Int.reduceLT,jK,jC,lD,sR,hi,Option.isSome_none,Int.natCast_nonneg,Int.toNat_natCast,and_self,true_and,Nat.zero_le,Nat.sub_zero,mT,xV,show i≤xs.length+vs.length by omega,show i+vs.length≤xs.length+vs.length by omega,Nat.zero_add];refine⟨by decide +kernel,?_⟩
    have hn:(((ay xs++rest).drop i).take (xs.length+vs.length - i)).take (xs.length - i)=ay (xs.drop i):=by rw[List.take_take,Nat.min_eq_left (by omega),ly (by omega),List.take_of_length_le (by simp)]
    have fd:∀cs∈ay (xs.drop i),AV.la cs:=Flat.one fun y hy=>fx y (List.mem_of_mem_drop hy)
    rw[mH (news:=((ay xs++rest).drop i).take (xs.length+vs.length - i)) (l:= .par 0) (i:=i+vs.length) (n:=xs.length+vs.length - (i+vs.length)) (els:=ay xs++rest) (m:=xs.length - i)
     (by simp only[jL,ai,if_true,true_and];rw[if_pos (by simp;omega)]) rfl (by simp) (by simp;omega) (by rw[List.length_take,List.length_drop,List.length_append,Ka,J_];show _=min _ _;omega) (by rw[hn];exact fd)]
    rw[hn];simp only[↓aX,mX,reduceCtorEq,Nat.reduceEqDiff,Nat.reduceLT,Nat.reduceLeDiff,Nat.reduceAdd,Nat.reduceMul,Int.reduceToNat,Int.reduceLE,Int.reduceLT,bU,Lb.iJ,jK,jC,lD,sR,Option.isSome_none,Int.natCast_nonneg,Int.toNat_natCast,and_self,true_and,Nat.zero_le,Nat.sub_zero,show i≤xs.length+vs.length by omega,Nat.zero_add]
    rw[mH (news:=ay vs) (l:= .par 0) (i:=i) (n:=xs.length+vs.length - i) (els:=(ay xs++rest).take (i+vs.length)++ay (xs.drop i)++(ay xs++rest).drop (i+vs.length+(xs.length - i))) (m:=vs.length)
     (ig ev) rfl (by simp) (by simp;omega) (by rw[vn];exact(Nat.min_eq_left (by omega)).symm) (fun cs b5=>fv.one cs (List.mem_of_mem_take b5))]
    simp only[↓aX,mX,reduceCtorEq,Nat.reduceEqDiff,Nat.reduceLT,Nat.reduceLeDiff,Nat.reduceAdd,Nat.reduceMul,Int.reduceToNat,Int.reduceLE,Int.reduceLT,iR,or_true,true_and];refine⟨.par 0,c,(ay xs++rest).drop (xs.length+vs.length),.inr rfl,?_⟩;simp only[ai,if_true,Slot.live.injEq,Row.mk.injEq,true_and]
    have h1:((ay xs++rest).take (i+vs.length)).length=i+vs.length:=by rw[List.length_take,List.length_append,Ka,J_];omega
    have e1:i+vs.length+(xs.length - i)=xs.length+vs.length:=by omega
    have e2:((ay xs++rest).take (i+vs.length)++ay (xs.drop i)++(ay xs++rest).drop (xs.length+vs.length)).take i=ay (xs.take i):=by
     rw[List.append_assoc,List.take_append_of_le_length (by omega),List.take_take,Nat.min_eq_left (by omega),gX hi]
    have e3:((ay xs++rest).take (i+vs.length)++ay (xs.drop i)++(ay xs++rest).drop (xs.length+vs.length)).drop (i+vs.length)=ay (xs.drop i)++(ay xs++rest).drop (xs.length+vs.length):=by
     rw[List.append_assoc,List.drop_left' h1]
    rw[e1,e2,e3,←uU,List.take_of_length_le (Nat.le_of_eq vn)];simp only[List.append_assoc]
def dw:AC:=
(.seq (.aM [⟨some 6,none,.ak (.c .nil0)⟩]) (.gh (.Ip) (.seq (.aM [⟨some 8,none,.ak (.t 0)⟩,⟨some 9,none,.ak (.t 1)⟩,⟨some 10,none,.ak (.t 2)⟩,⟨some 11,none,.ak (.t 0)⟩,⟨some 12,none,.len (.t 11)⟩,⟨some 13,none,.kX (.t 8) (some (.t 9)) (some (.t 10)) (some (.t 12)) 1⟩]) (.seq (.seq (.aM [⟨some 14,none,.ak (.t 1)⟩,⟨some 15,none,.ak (.t 2)⟩,⟨some 16,none,.bin .eql (.t 14) (.t 15)⟩]) (.cond (.t 16) (.seq (.aM [⟨some 17,none,.ak (.t 0)⟩,⟨some 6,none,.ak (.t 17)⟩]) .ret) .skip)) (.seq (.aM [⟨some 18,none,.ak (.t 0)⟩,⟨some 19,none,.len (.t 18)⟩,⟨some 7,none,.ak (.t 19)⟩]) (.seq (.eY [⟨some 20,none,.ak (.t 0)⟩,⟨some 21,none,.ak (.t 1)⟩,⟨some 22,none,.kX (.t 20) none (some (.t 21)) none 1⟩,⟨some 23,none,.ak (.t 0)⟩,⟨some 24,none,.ak (.t 2)⟩,⟨some 25,none,.kX (.t 23) (some (.t 24)) none none 1⟩,⟨some 26,none,.app (.t 22) (.t 25) 1 8⟩,⟨some 0,none,.ak (.t 26)⟩] [[],[],[0,1],[],[],[3,4],[2,5],[6,6,0,1,2,3,4,5,6]] [.no,.no,.no,.no,.no,.no,(.rw [] [(.par 0),(.loc 26)]),.no]) (.seq (.aM [⟨some 27,none,.ak (.t 0)⟩,⟨some 28,none,.ak (.t 0)⟩,⟨some 29,none,.len (.t 28)⟩,⟨some 30,none,.ak (.t 7)⟩,⟨some 31,none,.kX (.t 27) (some (.t 29)) (some (.t 30)) none 1⟩,⟨none,none,.vl (.t 31) 1 [(.int .i64 0)]⟩]) (.seq (.aM [⟨some 32,none,.ak (.t 0)⟩,⟨some 6,none,.ak (.t 32)⟩]) .ret))))))))
theorem Dw {aj:Nat} (hF:aA P G aj=some (33,[(none,6)],dw.bare)) (xs:List IV) (i j:Nat) (hi:i<j) (hj:j≤xs.length) (hb:xs.length≤B) (ex:iw 1 xs) (fx:Flat xs) :
  rV P G 1 aj [.sl (.par 0) 1 0 xs.length,.int .i64 i,.int .i64 j] xs (xs.take i++xs.drop j):=by
 refine lP hF (by simp) (by simp[ax,AV.aI]) ?_;have pw:B=1073741824:=rfl;unfold dw;simp only[↓aX,mX,reduceCtorEq,Nat.reduceEqDiff,Nat.reduceLT,Nat.reduceLeDiff,Nat.reduceAdd,Nat.reduceMul,Int.reduceToNat,Int.reduceLE,Int.reduceLT];rw[uE];refine⟨_,_,_,lO (d:=0) (l:= .par 0) (n:=xs.length) (els:=ay xs) rfl (by simp[kh]),?_⟩;rintro⟨c,Ei,JM⟩
 obtain⟨rest,gI⟩:∃rest,rest=List.replicate (c - (ay xs).length) (List.replicate 1 AV.any):=⟨_,rfl⟩;have J_:rest.length=c - xs.length:=by rw[gI,List.length_replicate,cB]
 simp only[←gI];have Ka:=cB xs
 simp only[↓aX,mX,reduceCtorEq,Nat.reduceEqDiff,Nat.reduceLT,Nat.reduceLeDiff,Nat.reduceAdd,Nat.reduceMul,Int.reduceToNat,Int.reduceLE,Int.reduceLT,kh,jK,jC,lD,sR,Option.isSome_none,Option.isSome_some,Option.isNone_some,Int.natCast_nonneg,Int.toNat_natCast,and_self,true_and,Nat.zero_le,Nat.sub_zero,hj,Ei,Nat.le_of_lt hi,if_true,show(((i:Nat):Int)==((j:Nat):Int))=false by simp;omega]
 refine⟨by decide +kernel,?_⟩;simp only[↓aX,mX,reduceCtorEq,Nat.reduceEqDiff,Nat.reduceLT,Nat.reduceLeDiff,Nat.reduceAdd,Nat.reduceMul,Int.reduceToNat,Int.reduceLE,Int.reduceLT,kh,jK,jC,lD,sR,Option.isSome_none,Int.natCast_nonneg,Int.toNat_natCast,and_self,true_and,Nat.zero_le,Nat.sub_zero,hj,show i≤c by omega,if_true,Nat.zero_add]
 have fd:∀cs∈ay (xs.drop j),AV.la cs:=Flat.one fun y hy=>fx y (List.mem_of_mem_drop hy)
 have MZ:=cB (xs.drop j);rw[List.length_drop] at MZ;have qw:=cB (xs.take i);rw[List.length_take,Nat.min_eq_left (by omega)] at qw
 rw[qa (news:=ay (xs.drop j)) (els:=ay xs++rest)
  (by simp only[jL,ai,if_true,true_and];rw[if_pos (by simp;omega),ly (by omega),List.take_of_length_le (by simp)]) fd (by simp) (by simp;omega) (by decide) (by simp) (by omega) (by simp;omega)]
 rw[MZ,gX (by omega)];have hw:xs.length - j+i≤xs.length:=by omega
 simp only[↓aX,mX,reduceCtorEq,Nat.reduceEqDiff,Nat.reduceLT,Nat.reduceLeDiff,Nat.reduceAdd,Nat.reduceMul,Int.reduceToNat,Int.reduceLE,Int.reduceLT,cw,bU,Lb.iJ,Lb.app,Lb.fresh,jK,jC,lD,sR,Option.isSome_none,Int.natCast_nonneg,Int.toNat_natCast,and_self,true_and,Nat.zero_le,Nat.sub_zero,Ei,if_true,Nat.zero_add,or_true,true_or,show i+(xs.length - j)≤xs.length by omega]
 rw[CW (l:= .par 0) (i:=i+(xs.length - j)) (n:=xs.length - (i+(xs.length - j))) (els:=ay (xs.take i)++ay (xs.drop j)++(ay xs++rest).drop (i+(xs.length - j))) (by intro x hx;simp at hx;rcases hx with rfl|rfl<;>rfl) rfl (by simp) (by simp;omega)]
 simp only[↓aX,mX,reduceCtorEq,Nat.reduceEqDiff,Nat.reduceLT,Nat.reduceLeDiff,Nat.reduceAdd,Nat.reduceMul,Int.reduceToNat,Int.reduceLE,Int.reduceLT,iR,or_true,true_and]
 refine⟨by rintro l (rfl|rfl)<;>simp,.par 0,c,List.replicate (xs.length - (i+(xs.length - j))) [AV.int .i64 0]++(ay (xs.take i)++ay (xs.drop j)++(ay xs++rest).drop (i+(xs.length - j))).drop (i+(xs.length - j)+(xs.length - (i+(xs.length - j)))),.inr (by rw[List.length_append,List.length_take,List.length_drop,Nat.min_eq_left (by omega)]),?_⟩;simp only[ai,if_true,Slot.live.injEq,Row.mk.injEq,true_and]
 rw[List.append_assoc,List.take_left' (by rw[List.length_append];omega),gS]
def c_ (bQ bZ:Nat):AC:=
(.seq (.aM [⟨some 6,none,.ak (.c .nil0)⟩]) (.gh (.Ip) (.seq (.aM [⟨some 10,none,.ak (.t 0)⟩,⟨some 11,none,.ak (.t 1)⟩,⟨some 12,none,.kX (.t 10) (some (.t 11)) none none 2⟩]) (.seq (.aM [⟨some 13,none,.ak (.t 2)⟩,⟨some 14,none,.len (.t 13)⟩,⟨some 7,none,.ak (.t 14)⟩]) (.seq (.seq (.aM [⟨some 15,none,.ak (.t 7)⟩,⟨some 16,none,.bin .eql (.t 15) (.c (.int .i64 0))⟩]) (.cond (.t 16) (.seq (.aM [⟨some 17,none,.ak (.t 0)⟩,⟨some 6,none,.ak (.t 17)⟩]) .ret) .skip)) (.seq (.aM [⟨some 18,none,.ak (.t 0)⟩,⟨some 19,none,.len (.t 18)⟩,⟨some 8,none,.ak (.t 19)⟩]) (.seq (.seq (.aM [⟨some 20,none,.ak (.t 1)⟩,⟨some 21,none,.ak (.t 8)⟩,⟨some 22,none,.bin .eql (.t 20) (.t 21)⟩]) (.cond (.t 22) (.seq (.aM [⟨some 23,none,.ak (.t 0)⟩,⟨some 24,none,.ak (.t 2)⟩,⟨some 25,none,.app (.t 23) (.t 24) 2 32⟩,⟨some 6,none,.ak (.t 25)⟩]) .ret) .skip)) (.seq (.seq (.aM [⟨some 26,none,.ak (.t 8)⟩,⟨some 27,none,.ak (.t 7)⟩,⟨some 28,none,.bin .add (.t 26) (.t 27)⟩,⟨some 29,none,.ak (.t 0)⟩,⟨some 30,none,.cap (.t 29)⟩,⟨some 31,none,.bin .gtr (.t 28) (.t 30)⟩]) (.cond (.t 31) (.seq (.aM [⟨some 32,none,.ak (.t 0)⟩,⟨some 33,none,.ak (.t 1)⟩,⟨some 34,none,.kX (.t 32) none (some (.t 33)) none 2⟩,⟨some 35,none,.ak (.t 8)⟩,⟨some 36,none,.ak (.t 7)⟩,⟨some 37,none,.bin .add (.t 35) (.t 36)⟩,⟨some 38,none,.ak (.t 1)⟩,⟨some 39,none,.bin .sub (.t 37) (.t 38)⟩,⟨some 40,none,.qK (.t 34) (.t 39) 2 32 [(.str []),(.str [])]⟩,⟨some 9,none,.ak (.t 40)⟩]) (.seq (.aM [⟨some 41,none,.ak (.t 9)⟩,⟨some 42,none,.ak (.t 1)⟩,⟨some 43,none,.kX (.t 41) (some (.t 42)) none none 2⟩,⟨some 44,none,.ak (.t 2)⟩,⟨some 45,none,.o8 (.t 43) (.t 44) 2⟩]) (.seq (.eY [⟨some 46,none,.ak (.t 9)⟩,⟨some 47,none,.ak (.t 1)⟩,⟨some 48,none,.ak (.t 7)⟩,⟨some 49,none,.bin .add (.t 47) (.t 48)⟩,⟨some 50,none,.kX (.t 46) (some (.t 49)) none none 2⟩,⟨some 51,none,.ak (.t 0)⟩,⟨some 52,none,.ak (.t 1)⟩,⟨some 53,none,.kX (.t 51) (some (.t 52)) none none 2⟩,⟨some 54,none,.o8 (.t 50) (.t 53) 2⟩] [[],[],[],[1,2],[0,3],[],[],[5,6],[4,7]] [.no,.no,.no,.no,.no,.no,.no,.no,(.rw [(.par 0)] [(.loc 40)])]) (.seq (.aM [⟨some 55,none,.ak (.t 9)⟩,⟨some 6,none,.ak (.t 55)⟩]) .ret)))) .skip)) (.seq (.aM [⟨some 56,none,.ak (.t 0)⟩,⟨some 57,none,.ak (.t 8)⟩,⟨some 58,none,.ak (.t 7)⟩,⟨some 59,none,.bin .add (.t 57) (.t 58)⟩,⟨some 60,none,.kX (.t 56) none (some (.t 59)) none 2⟩,⟨some 0,none,.ak (.t 60)⟩]) (.seq (.seq (.aM [⟨some 61,none,.ak (.t 2)⟩,⟨some 62,none,.ak (.t 0)⟩,⟨some 63,none,.ak (.t 1)⟩,⟨some 64,none,.ak (.t 7)⟩,⟨some 65,none,.bin .add (.t 63) (.t 64)⟩,⟨some 66,none,.kX (.t 62) (some (.t 65)) none none 2⟩,⟨some 67,none,.lZ bQ [(.t 61),(.t 66)]⟩,⟨some 68,none,.not (.t 67)⟩]) (.cond (.t 68) (.seq (.eY [⟨some 69,none,.ak (.t 0)⟩,⟨some 70,none,.ak (.t 1)⟩,⟨some 71,none,.ak (.t 7)⟩,⟨some 72,none,.bin .add (.t 70) (.t 71)⟩,⟨some 73,none,.kX (.t 69) (some (.t 72)) none none 2⟩,⟨some 74,none,.ak (.t 0)⟩,⟨some 75,none,.ak (.t 1)⟩,⟨some 76,none,.kX (.t 74) (some (.t 75)) none none 2⟩,⟨some 77,none,.o8 (.t 73) (.t 76) 2⟩] [[],[],[],[1,2],[0,3],[],[],[5,6],[4,7]] [.no,.no,.no,.no,.no,.no,.no,.no,(.rw [] [(.par 0)])]) (.seq (.aM [⟨some 78,none,.ak (.t 0)⟩,⟨some 79,none,.ak (.t 1)⟩,⟨some 80,none,.kX (.t 78) (some (.t 79)) none none 2⟩,⟨some 81,none,.ak (.t 2)⟩,⟨some 82,none,.o8 (.t 80) (.t 81) 2⟩]) (.seq (.aM [⟨some 83,none,.ak (.t 0)⟩,⟨some 6,none,.ak (.t 83)⟩]) .ret))) .skip)) (.seq (.aM [⟨some 84,none,.ak (.t 0)⟩,⟨some 85,none,.ak (.t 8)⟩,⟨some 86,none,.kX (.t 84) (some (.t 85)) none none 2⟩,⟨some 87,none,.ak (.t 2)⟩,⟨some 88,none,.o8 (.t 86) (.t 87) 2⟩]) (.seq (.aM [⟨some 89,none,.ak (.t 0)⟩,⟨some 90,none,.ak (.t 1)⟩,⟨some 91,none,.kX (.t 89) (some (.t 90)) none none 2⟩,⟨some 92,none,.ak (.t 7)⟩,⟨some 93,none,.call bZ [(.t 91),(.t 92)]⟩]) (.seq (.aM [⟨some 94,none,.ak (.t 0)⟩,⟨some 6,none,.ak (.t 94)⟩]) .ret)))))))))))))
theorem Dx {bd bQ bZ:Nat} (hF:aA P G bd=some (95,[(none,6)],(c_ bQ bZ).bare)) (xs vs:List IV) (i:Nat) (hi:i≤xs.length) (hb:xs.length+vs.length≤B)
  (ex:iw 2 xs) (fx:Flat xs) (ev:iw 2 vs) (fv:Flat vs)
  (hO:∀(N:Nat) (l:Lb) (sz j n c:Nat) (r:Row) (H:Hp),vs≠[]→H l= .live r→0<n→mu ⟨P,G,N⟩ bQ [.list vs,.slk l sz j n c] H (.bool false)) :
  rV P G 2 bd [.sl (.par 0) 2 0 xs.length,.int .i64 i,.list vs] xs (xs.take i++vs++xs.drop i):=by
 refine lP hF (by simp) (by simp[ax,AV.aI]) ?_;have pw:B=1073741824:=rfl;unfold c_;simp only[↓aX,mX,reduceCtorEq,Nat.reduceEqDiff,Nat.reduceLT,Nat.reduceLeDiff,Nat.reduceAdd,Nat.reduceMul,Int.reduceToNat,Int.reduceLE,Int.reduceLT];rw[uE];refine⟨_,_,_,lO (d:=0) (l:= .par 0) (n:=xs.length) (els:=ay xs) rfl (by simp[kh]),?_⟩;rintro⟨c,Ei,JM⟩
 obtain⟨rest,gI⟩:∃rest,rest=List.replicate (c - (ay xs).length) (List.replicate 2 AV.any):=⟨_,rfl⟩;have J_:rest.length=c - xs.length:=by rw[gI,List.length_replicate,cB]
 simp only[←gI];have hz:∀(A D:List (List AV)),D=[]→A++D=A:=fun A D h=>by rw[h,List.append_nil]
 have Ka:=cB xs;have vn:=cB vs;have mT:IntKind.i64.wrap ((xs.length:Int)+(vs.length:Int))=((xs.length+vs.length:Nat):Int):=wrap64 (by omega) (by omega);have G9:IntKind.i64.wrap (((xs.length+vs.length:Nat):Int) - (i:Int))=((xs.length+vs.length - i:Nat):Int):=by rw[wrap64 (by omega) (by omega)];omega
 have xV:IntKind.i64.wrap ((i:Int)+(vs.length:Int))=((i+vs.length:Nat):Int):=wrap64 (by omega) (by omega);simp only[↓aX,mX,reduceCtorEq,Nat.reduceEqDiff,Nat.reduceLT,Nat.reduceLeDiff,Nat.reduceAdd,Nat.reduceMul,Int.reduceToNat,Int.reduceLE,Int.reduceLT,kh,jK,jC,lD,sR,hi,Option.isSome_none,Int.natCast_nonneg,Int.toNat_natCast,and_self,true_and,Nat.zero_le,Nat.sub_zero];by_cases hm:vs.length=0
 ·have I5:vs=[]:=List.length_eq_zero_iff.1 hm;rw[show(((vs.length:Nat):Int)==0)=true by simp[hm]];subst I5;simp only[↓aX,mX,reduceCtorEq,Nat.reduceEqDiff,Nat.reduceLT,Nat.reduceLeDiff,Nat.reduceAdd,Nat.reduceMul,Int.reduceToNat,Int.reduceLE,Int.reduceLT,List.append_nil,List.take_append_drop,iR];exact⟨.par 0,c,rest,.inr rfl,by simp⟩
 ·rw[show(((vs.length:Nat):Int)==0)=false by simpa using hm];simp only[↓aX,mX,reduceCtorEq,Nat.reduceEqDiff,Nat.reduceLT,Nat.reduceLeDiff,Nat.reduceAdd,Nat.reduceMul,Int.reduceToNat,Int.reduceLE,Int.reduceLT];have LH:vs≠[]:=fun e=>hm (by rw[e];rfl)
  by_cases mn:i=xs.length
  ·rw[show(((i:Nat):Int)==((xs.length:Nat):Int))=true by simp[mn]];simp only[↓aX,mX,reduceCtorEq,Nat.reduceEqDiff,Nat.reduceLT,Nat.reduceLeDiff,Nat.reduceAdd,Nat.reduceMul,Int.reduceToNat,Int.reduceLE,Int.reduceLT];by_cases qR:xs.length+vs.length≤c
   ·rw[r6 (els:=ay xs++rest) (by simp) (by simp;omega) ev fv (by decide) (by simp) qR (by simp;omega)];simp only[↓aX,mX,reduceCtorEq,Nat.reduceEqDiff,Nat.reduceLT,Nat.reduceLeDiff,Nat.reduceAdd,Nat.reduceMul,Int.reduceToNat,Int.reduceLE,Int.reduceLT,iR];refine⟨.par 0,c,(ay xs++rest).drop (xs.length+vs.length),.inr ?_,?_⟩
    ·simp[mn]
    ·simp only[ai,if_true,Slot.live.injEq,Row.mk.injEq,true_and];rw[mn,List.take_of_length_le (Nat.le_refl _),List.drop_of_length_le (Nat.le_refl _),List.append_nil,gX (Nat.le_refl _),List.take_of_length_le (Nat.le_refl _),gS]
   ·rw[qb (els:=ay xs++rest) (by simp) (by simp;omega) ev fv (by decide) (by simp) (by omega) (by omega) (by simp[Hp.none,ai])];simp only[↓aX,mX,reduceCtorEq,Nat.reduceEqDiff,Nat.reduceLT,Nat.reduceLeDiff,Nat.reduceAdd,Nat.reduceMul,Int.reduceToNat,Int.reduceLE,Int.reduceLT,iR];subst mn;refine⟨.loc 25,0,[],by simp,?_⟩;simp only[ai,if_true,Slot.live.injEq,Row.mk.injEq,true_and]
    rw[List.take_of_length_le (Nat.le_refl _),List.drop_of_length_le (Nat.le_refl _),List.append_nil,gX (Nat.le_refl _),List.take_of_length_le (Nat.le_refl _)];simp[ay]
  ·rw[show(((i:Nat):Int)==((xs.length:Nat):Int))=false by simp;omega];simp only[↓aX,mX,reduceCtorEq,Nat.reduceEqDiff,Nat.reduceLT,Nat.reduceLeDiff,Nat.reduceAdd,Nat.reduceMul,Int.reduceToNat,Int.reduceLE,Int.reduceLT,mT,vW];intro _;have uU:ay (xs.take i)++ay vs++ay (xs.drop i)=ay (xs.take i++vs++xs.drop i):=by rw[gS,gS]
   have hlen:(xs.take i++vs++xs.drop i).length=xs.length+vs.length:=by simp;omega
   rw[hlen];have qw:=cB (xs.take i);rw[List.length_take,Nat.min_eq_left hi] at qw;have Kb:=cB (xs.drop i);rw[List.length_drop] at Kb;by_cases qR:c<xs.length+vs.length
   ·rw[show decide (((xs.length+vs.length:Nat):Int)>(c:Int))=true by simp;omega];simp only[↓aX,mX,reduceCtorEq,Nat.reduceEqDiff,Nat.reduceLT,Nat.reduceLeDiff,Nat.reduceAdd,Nat.reduceMul,Int.reduceToNat,Int.reduceLE,Int.reduceLT,jK,jC,lD,sR,hi,Option.isSome_none,Int.natCast_nonneg,Int.toNat_natCast,and_self,true_and,Nat.zero_le,Nat.sub_zero,mT,G9,show i≤c by omega]
    obtain⟨k,hk⟩:∃k,k=xs.length+vs.length - i:=⟨_,rfl⟩;rw[←hk];have Py:i+k=xs.length+vs.length:=by omega
    rw[wu (els:=ay xs++rest) (by simp) (by simp;omega) (by omega) (by omega) (by simp[Hp.none,ai]),gX hi,Py]
    simp only[↓aX,mX,reduceCtorEq,Nat.reduceEqDiff,Nat.reduceLT,Nat.reduceLeDiff,Nat.reduceAdd,Nat.reduceMul,Int.reduceToNat,Int.reduceLE,Int.reduceLT,jK,nq,lD,sR,hi,Option.isSome_none,Int.natCast_nonneg,Int.toNat_natCast,and_self,true_and,Nat.zero_le,Nat.sub_zero,show i≤xs.length+vs.length by omega,Nat.zero_add,←hk]
    rw[mH (news:=ay vs) (l:= .loc 40) (i:=i) (n:=k) (els:=ay (xs.take i)++List.replicate k [AV.str [],AV.str []]) (m:=vs.length) (ig ev) rfl (by simp) (by simp;omega) (by rw[vn];exact(Nat.min_eq_left (by omega)).symm) (fun cs b5=>fv.one cs (List.mem_of_mem_take b5))];rw[List.take_left' qw,List.take_of_length_le (Nat.le_of_eq vn)]
    simp only[↓aX,mX,reduceCtorEq,Nat.reduceEqDiff,Nat.reduceLT,Nat.reduceLeDiff,Nat.reduceAdd,Nat.reduceMul,Int.reduceToNat,Int.reduceLE,Int.reduceLT,jK,nq,jC,lD,sR,hi,Option.isSome_none,Int.natCast_nonneg,Int.toNat_natCast,and_self,true_and,Nat.zero_le,Nat.sub_zero,show i+vs.length≤xs.length+vs.length by omega,Nat.zero_add,xV];refine⟨by decide +kernel,?_⟩
    rw[mH (news:=ay (xs.drop i)) (l:= .loc 40) (i:=i+vs.length) (n:=xs.length+vs.length - (i+vs.length)) (els:=ay (xs.take i)++ay vs++(ay (xs.take i)++List.replicate k [AV.str [],AV.str []]).drop (i+vs.length)) (m:=xs.length - i)]
    ·simp only[↓aX,mX,reduceCtorEq,Nat.reduceEqDiff,Nat.reduceLT,Nat.reduceLeDiff,Nat.reduceAdd,Nat.reduceMul,Int.reduceToNat,Int.reduceLE,Int.reduceLT,iR,bU,Lb.iJ];refine⟨.loc 40,0,[],by simp,?_⟩;simp only[ai,if_true,Slot.live.injEq,Row.mk.injEq,true_and,List.append_nil];rw[←uU,List.take_left' (by simp;omega),List.take_of_length_le (Nat.le_of_eq Kb)]
     exact hz _ _ (List.drop_of_length_le (by simp;omega))
    ·simp only[jL,ai,reduceCtorEq,if_false,if_true,true_and];rw[if_pos (by simp;omega)]
     congr 1
     rw[ly (by omega)]
     congr 1
     exact List.take_of_length_le (by simp)
    ·rfl
    ·simp
    ·simp;omega
    ·rw[Kb];exact(Nat.min_eq_left (by omega)).symm
    ·exact fun cs b5=>(Flat.one (fun y hy=>fx y (List.mem_of_mem_drop hy)):∀cs∈ay (xs.drop i),AV.la cs) cs (List.mem_of_mem_take b5)
   ·rw[show decide (((xs.length+vs.length:Nat):Int)>(c:Int))=false by simp;omega]
    simp only[↓aX,mX,reduceCtorEq,Nat.reduceEqDiff,Nat.reduceLT,Nat.reduceLeDiff,Nat.reduceAdd,Nat.reduceMul,Int.reduceToNat,Int.reduceLE,Int.reduceLT,jK,jC,lD,sR,hi,Option.isSome_none,Int.natCast_nonneg,Int.toNat_natCast,and_self,true_and,Nat.zero_le,Nat.sub_zero,mT,xV,show xs.length+vs.length≤c by omega,show i+vs.length≤xs.length+vs.length by omega,Nat.zero_add]
    refine xP (hO _ (.par 0) _ _ _ _ ⟨2,ay xs++rest⟩ _ LH (by simp) (by omega)) ?_
    simp only[↓aX,mX,reduceCtorEq,Nat.reduceEqDiff,Nat.reduceLT,Nat.reduceLeDiff,Nat.reduceAdd,Nat.reduceMul,Int.reduceToNat,Int.reduceLE,Int.reduceLT,jK,jC,lD,sR,hi,Option.isSome_none,Int.natCast_nonneg,Int.toNat_natCast,and_self,true_and,Nat.zero_le,Nat.sub_zero,mT,xV,show i≤xs.length+vs.length by omega,show i+vs.length≤xs.length+vs.length by omega,Nat.zero_add];refine⟨by decide +kernel,?_⟩
    have hn:(((ay xs++rest).drop i).take (xs.length+vs.length - i)).take (xs.length - i)=ay (xs.drop i):=by rw[List.take_take,Nat.min_eq_left (by omega),ly (by omega),List.take_of_length_le (by simp)]
    have fd:∀cs∈ay (xs.drop i),AV.la cs:=Flat.one fun y hy=>fx y (List.mem_of_mem_drop hy)
    rw[mH (news:=((ay xs++rest).drop i).take (xs.length+vs.length - i)) (l:= .par 0) (i:=i+vs.length) (n:=xs.length+vs.length - (i+vs.length)) (els:=ay xs++rest) (m:=xs.length - i)
     (by simp only[jL,ai,if_true,true_and];rw[if_pos (by simp;omega)]) rfl (by simp) (by simp;omega) (by rw[List.length_take,List.length_drop,List.length_append,Ka,J_];show _=min _ _;omega) (by rw[hn];exact fd)]
    rw[hn];simp only[↓aX,mX,reduceCtorEq,Nat.reduceEqDiff,Nat.reduceLT,Nat.reduceLeDiff,Nat.reduceAdd,Nat.reduceMul,Int.reduceToNat,Int.reduceLE,Int.reduceLT,bU,Lb.iJ,jK,jC,lD,sR,Option.isSome_none,Int.natCast_nonneg,Int.toNat_natCast,and_self,true_and,Nat.zero_le,Nat.sub_zero,show i≤xs.length+vs.length by omega,Nat.zero_add]
    rw[mH (news:=ay vs) (l:= .par 0) (i:=i) (n:=xs.length+vs.length - i) (els:=(ay xs++rest).take (i+vs.length)++ay (xs.drop i)++(ay xs++rest).drop (i+vs.length+(xs.length - i))) (m:=vs.length)
     (ig ev) rfl (by simp) (by simp;omega) (by rw[vn];exact(Nat.min_eq_left (by omega)).symm) (fun cs b5=>fv.one cs (List.mem_of_mem_take b5))]
    simp only[↓aX,mX,reduceCtorEq,Nat.reduceEqDiff,Nat.reduceLT,Nat.reduceLeDiff,Nat.reduceAdd,Nat.reduceMul,Int.reduceToNat,Int.reduceLE,Int.reduceLT,iR,or_true,true_and];refine⟨.par 0,c,(ay xs++rest).drop (xs.length+vs.length),.inr rfl,?_⟩;simp only[ai,if_true,Slot.live.injEq,Row.mk.injEq,true_and]
    have h1:((ay xs++rest).take (i+vs.length)).length=i+vs.length:=by rw[List.length_take,List.length_append,Ka,J_];omega
    have e1:i+vs.length+(xs.length - i)=xs.length+vs.length:=by omega
    have e2:((ay xs++rest).take (i+vs.length)++ay (xs.drop i)++(ay xs++rest).drop (xs.length+vs.length)).take i=ay (xs.take i):=by
     rw[List.append_assoc,List.take_append_of_le_length (by omega),List.take_take,Nat.min_eq_left (by omega),gX hi]
    have e3:((ay xs++rest).take (i+vs.length)++ay (xs.drop i)++(ay xs++rest).drop (xs.length+vs.length)).drop (i+vs.length)=ay (xs.drop i)++(ay xs++rest).drop (xs.length+vs.length):=by
     rw[List.append_assoc,List.drop_left' h1]
    rw[e1,e2,e3,←uU,List.take_of_length_le (Nat.le_of_eq vn)];simp only[List.append_assoc]
def da:AC:=
(.seq (.aM [⟨some 6,none,.ak (.c .nil0)⟩]) (.gh (.Ip) (.seq (.aM [⟨some 8,none,.ak (.t 0)⟩,⟨some 9,none,.ak (.t 1)⟩,⟨some 10,none,.ak (.t 2)⟩,⟨some 11,none,.ak (.t 0)⟩,⟨some 12,none,.len (.t 11)⟩,⟨some 13,none,.kX (.t 8) (some (.t 9)) (some (.t 10)) (some (.t 12)) 2⟩]) (.seq (.seq (.aM [⟨some 14,none,.ak (.t 1)⟩,⟨some 15,none,.ak (.t 2)⟩,⟨some 16,none,.bin .eql (.t 14) (.t 15)⟩]) (.cond (.t 16) (.seq (.aM [⟨some 17,none,.ak (.t 0)⟩,⟨some 6,none,.ak (.t 17)⟩]) .ret) .skip)) (.seq (.aM [⟨some 18,none,.ak (.t 0)⟩,⟨some 19,none,.len (.t 18)⟩,⟨some 7,none,.ak (.t 19)⟩]) (.seq (.eY [⟨some 20,none,.ak (.t 0)⟩,⟨some 21,none,.ak (.t 1)⟩,⟨some 22,none,.kX (.t 20) none (some (.t 21)) none 2⟩,⟨some 23,none,.ak (.t 0)⟩,⟨some 24,none,.ak (.t 2)⟩,⟨some 25,none,.kX (.t 23) (some (.t 24)) none none 2⟩,⟨some 26,none,.app (.t 22) (.t 25) 2 32⟩,⟨some 0,none,.ak (.t 26)⟩] [[],[],[0,1],[],[],[3,4],[2,5],[6,6,0,1,2,3,4,5,6]] [.no,.no,.no,.no,.no,.no,(.rw [] [(.par 0),(.loc 26)]),.no]) (.seq (.aM [⟨some 27,none,.ak (.t 0)⟩,⟨some 28,none,.ak (.t 0)⟩,⟨some 29,none,.len (.t 28)⟩,⟨some 30,none,.ak (.t 7)⟩,⟨some 31,none,.kX (.t 27) (some (.t 29)) (some (.t 30)) none 2⟩,⟨none,none,.vl (.t 31) 2 [(.str []),(.str [])]⟩]) (.seq (.aM [⟨some 32,none,.ak (.t 0)⟩,⟨some 6,none,.ak (.t 32)⟩]) .ret))))))))
theorem Dy {bc:Nat} (hF:aA P G bc=some (33,[(none,6)],da.bare)) (xs:List IV) (i j:Nat) (hi:i<j) (hj:j≤xs.length) (hb:xs.length≤B) (ex:iw 2 xs) (fx:Flat xs) :
  rV P G 2 bc [.sl (.par 0) 2 0 xs.length,.int .i64 i,.int .i64 j] xs (xs.take i++xs.drop j):=by
 refine lP hF (by simp) (by simp[ax,AV.aI]) ?_;have pw:B=1073741824:=rfl;unfold da;simp only[↓aX,mX,reduceCtorEq,Nat.reduceEqDiff,Nat.reduceLT,Nat.reduceLeDiff,Nat.reduceAdd,Nat.reduceMul,Int.reduceToNat,Int.reduceLE,Int.reduceLT];rw[uE];refine⟨_,_,_,lO (d:=0) (l:= .par 0) (n:=xs.length) (els:=ay xs) rfl (by simp[kh]),?_⟩;rintro⟨c,Ei,JM⟩
 obtain⟨rest,gI⟩:∃rest,rest=List.replicate (c - (ay xs).length) (List.replicate 2 AV.any):=⟨_,rfl⟩;have J_:rest.length=c - xs.length:=by rw[gI,List.length_replicate,cB]
 simp only[←gI];have Ka:=cB xs
 simp only[↓aX,mX,reduceCtorEq,Nat.reduceEqDiff,Nat.reduceLT,Nat.reduceLeDiff,Nat.reduceAdd,Nat.reduceMul,Int.reduceToNat,Int.reduceLE,Int.reduceLT,kh,jK,jC,lD,sR,Option.isSome_none,Option.isSome_some,Option.isNone_some,Int.natCast_nonneg,Int.toNat_natCast,and_self,true_and,Nat.zero_le,Nat.sub_zero,hj,Ei,Nat.le_of_lt hi,if_true,show(((i:Nat):Int)==((j:Nat):Int))=false by simp;omega]
 refine⟨by decide +kernel,?_⟩;simp only[↓aX,mX,reduceCtorEq,Nat.reduceEqDiff,Nat.reduceLT,Nat.reduceLeDiff,Nat.reduceAdd,Nat.reduceMul,Int.reduceToNat,Int.reduceLE,Int.reduceLT,kh,jK,jC,lD,sR,Option.isSome_none,Int.natCast_nonneg,Int.toNat_natCast,and_self,true_and,Nat.zero_le,Nat.sub_zero,hj,show i≤c by omega,if_true,Nat.zero_add]
 have fd:∀cs∈ay (xs.drop j),AV.la cs:=Flat.one fun y hy=>fx y (List.mem_of_mem_drop hy)
 have MZ:=cB (xs.drop j);rw[List.length_drop] at MZ;have qw:=cB (xs.take i);rw[List.length_take,Nat.min_eq_left (by omega)] at qw
 rw[qa (news:=ay (xs.drop j)) (els:=ay xs++rest)
  (by simp only[jL,ai,if_true,true_and];rw[if_pos (by simp;omega),ly (by omega),List.take_of_length_le (by simp)]) fd (by simp) (by simp;omega) (by decide) (by simp) (by omega) (by simp;omega)]
 rw[MZ,gX (by omega)];have hw:xs.length - j+i≤xs.length:=by omega
 simp only[↓aX,mX,reduceCtorEq,Nat.reduceEqDiff,Nat.reduceLT,Nat.reduceLeDiff,Nat.reduceAdd,Nat.reduceMul,Int.reduceToNat,Int.reduceLE,Int.reduceLT,cw,bU,Lb.iJ,Lb.app,Lb.fresh,jK,jC,lD,sR,Option.isSome_none,Int.natCast_nonneg,Int.toNat_natCast,and_self,true_and,Nat.zero_le,Nat.sub_zero,Ei,if_true,Nat.zero_add,or_true,true_or,show i+(xs.length - j)≤xs.length by omega]
 rw[CW (l:= .par 0) (i:=i+(xs.length - j)) (n:=xs.length - (i+(xs.length - j))) (els:=ay (xs.take i)++ay (xs.drop j)++(ay xs++rest).drop (i+(xs.length - j))) (by intro x hx;simp at hx;rcases hx with rfl|rfl<;>rfl) rfl (by simp) (by simp;omega)]
 simp only[↓aX,mX,reduceCtorEq,Nat.reduceEqDiff,Nat.reduceLT,Nat.reduceLeDiff,Nat.reduceAdd,Nat.reduceMul,Int.reduceToNat,Int.reduceLE,Int.reduceLT,iR,or_true,true_and]
 refine⟨by rintro l (rfl|rfl)<;>simp,.par 0,c,List.replicate (xs.length - (i+(xs.length - j))) [AV.str [],AV.str []]++(ay (xs.take i)++ay (xs.drop j)++(ay xs++rest).drop (i+(xs.length - j))).drop (i+(xs.length - j)+(xs.length - (i+(xs.length - j)))),.inr (by rw[List.length_append,List.length_take,List.length_drop,Nat.min_eq_left (by omega)]),?_⟩
 simp only[ai,if_true,Slot.live.injEq,Row.mk.injEq,true_and];rw[List.append_assoc,List.take_left' (by rw[List.length_append];omega),gS]
end
end Go.Am

/- Changes: all contracts together. -/
namespace Go.Am
open Go Go.RowKit
section
variable {P:Program} {G:Nat→Option (List IV)}
theorem M0 {bh bS b_:Nat} (hF:aA P G bh=some (95,[(none,6)],(dr bS b_).bare))
  (hO:∀(N:Nat) (vs:List IV) (l:Lb) (sz j n c:Nat) (r:Row) (H:Hp),vs≠[]→H l= .live r→0<n→mu ⟨P,G,N⟩ bS [.list vs,.slk l sz j n c] H (.bool false)):JQ P G bh:=by
 intro xs vs i hi hb;have h:=Dv hF (xs.map a6) (vs.map a6) i (by simpa using hi) (by simpa using hb) (oD _) (mb _) (oD _) (mb _) (fun N l sz j n c r H h1 h2 h3=>hO N _ l sz j n c r H h1 h2 h3);rw[List.length_map] at h;simpa only[List.map_append,List.map_take,List.map_drop] using h
theorem M1 {aj:Nat} (hF:aA P G aj=some (33,[(none,6)],dw.bare)):CZ P G aj:=by
 intro xs i hi hb;have h:=Dw hF (xs.map a6) i (i+1) (by omega) (by rw[List.length_map];omega) (by simpa using hb) (oD _) (mb _);rw[List.length_map] at h;simpa only[List.map_append,List.map_take,List.map_drop] using h
theorem M3 {bd bQ bZ:Nat} (hF:aA P G bd=some (95,[(none,6)],(c_ bQ bZ).bare))
  (hO:∀(N:Nat) (vs:List IV) (l:Lb) (sz j n c:Nat) (r:Row) (H:Hp),vs≠[]→H l= .live r→0<n→mu ⟨P,G,N⟩ bQ [.list vs,.slk l sz j n c] H (.bool false)):My P G bd:=by
 intro xs vs i hi hb;have h:=Dx hF (dY xs) (dY vs) i (by rw[cX];exact hi) (by rw[cX,cX];exact hb) (mA _) (pU _) (mA _) (pU _) (fun N l sz j n c r H h1 h2 h3=>hO N _ l sz j n c r H h1 h2 h3);rw[cX] at h;simpa only[dY,List.map_append,List.map_take,List.map_drop] using h
theorem M4 {bc:Nat} (hF:aA P G bc=some (33,[(none,6)],da.bare)):Mz P G bc:=by
 intro xs i hi hb;have h:=Dy hF (dY xs) i (i+1) (by omega) (by rw[cX];exact hi) (by rw[cX];exact hb) (mA _) (pU _);rw[cX] at h;simpa only[dY,List.map_append,List.map_take,List.map_drop] using h
structure ChF (P:Program) (G:Nat→Option (List IV)) where
 bB:Nat
 bR:Nat
 cZ:Nat
 aC:Nat
 cJ:Nat
 ct:Nat
 bw:Nat
 bH:Nat
 b6:Nat
 ar:Nat
 af:Nat
 bg:Nat
 an:Nat
 au:Nat
 aw:Nat
 aJ:Nat
 bM:Nat
 bh:Nat
 aj:Nat
 bd:Nat
 bc:Nat
 aH:Nat
 bP:Nat
 cf:Nat
 ba:Nat
 ah:Nat
 bf:Nat
 bS:Nat
 bQ:Nat
 b_:Nat
 bZ:Nat
 a5:Nat
 cp:Nat
 aB:Nat
 aV:Nat
 aW:Nat
 bD:Nat
 db:Nat
 Dz:aA P G bB=some (100,[((some (some 1)),4),(none,5)],(eu bR ah bf b6 ar aJ bD db).bare)
 DA:aA P G bR=some (42,[(none,4)],(iH cp cZ ct bw).bare)
 zk:aA P G cZ=some (37,[(none,4)],(je cp aC).bare)
 DB:aA P G aC=some (107,[(none,4)],(bA aB aV aW).bare)
 w9:aA P G cJ=some (54,[(none,4)],gE.bare)
 zS:aA P G ct=some (7,[(none,3)],(gF cJ).bare)
 t_:aA P G bw=some (9,[(none,4)],(dy bH).bare)
 zT:aA P G bH=some (19,[(none,4)],dQ.bare)
 DC:aA P G b6=some (17,[(none,4)],iF.bare)
 Qq:aA P G ar=some (194,[],(aU af an aj au aw).bare)
 zU:aA P G af=some (43,[],(ez bg bh).bare)
 hAdd:aA P G bg=some (58,[(none,6)],(et ah bg).bare)
 DD:aA P G an=some (26,[(none,4),(none,5)],(eS bP).bare)
 DE:aA P G au=some (35,[],(eT af).bare)
 HB:aA P G aw=some (77,[],(fa aH bM bc bd).bare)
 HC:aA P G aJ=some (40,[((some (some 4)),4)],(dG aJ).bare)
 DF:aA P G bM=some (9,[(none,4)],(ey cf).bare)
 HD:aA P G bh=some (95,[(none,6)],(dr bS b_).bare)
 HE:aA P G aj=some (33,[(none,6)],dw.bare)
 HF:aA P G bd=some (95,[(none,6)],(c_ bQ bZ).bare)
 HG:aA P G bc=some (33,[(none,6)],da.bare)
 zV:aA P G aH=some (49,[(none,6),(none,7)],b9.bare)
 DG:aA P G bP=some (19,[(none,4)],ea.bare)
 w_:aA P G cf=some (8,[(none,4)],(fY ba).bare)
 M5:aA P G ba=some (8,[(none,4)],(cT a5).bare)
 vg:aA P G ah=some (8,[(none,2)],cP.bare)
 zW:aA P G bf=some (8,[(none,2)],fC.bare)
 oI:∀(N:Nat) (vs:List IV) (l:Lb) (sz j n c:Nat) (r:Row) (H:Hp),vs≠[]→H l= .live r→0<n→mu ⟨P,G,N⟩ bS [.list vs,.slk l sz j n c] H (.bool false)
 oA:∀(N:Nat) (vs:List IV) (l:Lb) (sz j n c:Nat) (r:Row) (H:Hp),vs≠[]→H l= .live r→0<n→mu ⟨P,G,N⟩ bQ [.list vs,.slk l sz j n c] H (.bool false)
 M6:∀(N:Nat) (s t:Bs) (H:Hp),mu ⟨P,G,N⟩ a5 [.str s,.str t] H (.int .i64 (Lib.compareBytes s t))
 DH:j5 P bM=true
 zX:j5 P ct=true
 tq:∀d:Doc,kY d≤B→az P G cp [Doc.av d] (.bool (fX d))
 oG:∀l:List Tree,di l≤B→az P G aB [.list (dc l)] (.bool (content l))
 DI:∀s:Bs,s.length≤B→az P G aV [.str s] (.bool (named s))
 DJ:∀s:Bs,s.length≤B→az P G aW [.str s] (.bool (plain s))
 qC:∀l:List Tree,di l≤B→az P G bD [.list (dc l)] (.list (dc (eD l)))
 zq:∀x:Tree,x.wt≤B→az P G db [x.av] (.dU [Doc.av (lx x).1,.int .i64 (lx x).2])
namespace ChF
variable (c:ChF P G)
theorem v5 (d:Doc) (hd:kY d≤B) (o:Op) (ho:di o.content≤B∧o.name.length≤B∧o.s.length≤B):az P G c.cZ [Doc.av d,o.av] (.int .i64 (f_ d o)):=
 wQ c.zk d o (c.tq d hd) fun x k1 D8=>J2 c.DB x o k1 D8 (c.oG _ ho.1) (c.DI _ ho.2.1) (c.DJ _ ho.2.2)
theorem Kc (d:Doc) (hd:kY d≤B) (l:List Op) (hl:l.length≤B) (ho:∀o∈l,di o.content≤B∧o.name.length≤B∧o.s.length≤B):az P G c.bR [Doc.av d,.list (l.map Op.iv)] (.int .i64 (eH d l)):=
 J3 c.DA d l hl (c.tq d hd) (fun o h=>c.v5 d hd o (ho o h)) fun a _ i=>
  yx c.t_ _ _ (wS c.zT _ (by rw[List.length_take];omega) _ c.zX fun b _=>Ga c.zS a b (C0 c.w9 a b))
theorem Pz (s t:Bs):az P G c.cf [.str s,.str t] (.int .i64 (Lib.compareBytes s t)):=CY c.w_ s t (yo c.M5 c.M6 s t)
theorem M7:JQ P G c.bh:=M0 c.HD c.oI
theorem HI:sS P G c.af:=fun b hn p pl hp x hx BD l hb CI=>
 FX c.zU b hn p pl hp x hx BD l hb CI (fun t b hn p hb=>Mw c.hAdd (fun xs h=>zl c.vg xs h) _ t (Nat.le_refl _) b hn p hb) c.M7
theorem Gk:lS P G c.an:=fun b n p x y hx hp hy nH hB=>JO c.DD b n p x y hx hp hy nH (AP c.DG _ _ hB)
theorem Gl:u4 P G c.au:=fun b hn n hp x hx s hb=>JT c.DE b hn n hp x hx s hb c.HI
theorem Ke:wF P G c.aw:=fun b n hp x hx o ht hk hb hr=>
 MA c.HB b n hp x hx o ht hk hb (yp c.zV _ _ (by omega) hr c.DH fun a _=>Ms c.DF a _ (c.Pz _ _)) (M3 c.HF c.oA) (M4 c.HG)
theorem Kf:vf P G c.bB:=by
 intro d l hd hl;have pw:B=1073741824:=rfl;have PA:(2:Nat)^22=4194304:=by decide
 obtain⟨h1,h2⟩:=hl
 exact J9 c.Dz c.Qq c.HC (FQ c.vg) (FR c.zW) (JS c.DC) c.HI c.Gk (M1 c.HE) c.Gl c.Ke c.qC c.zq d l (by omega)
  (c.Kc d (by omega) l (by omega) fun o ho=>by have:=h2 o ho;omega)
end ChF
end
end Go.Am
