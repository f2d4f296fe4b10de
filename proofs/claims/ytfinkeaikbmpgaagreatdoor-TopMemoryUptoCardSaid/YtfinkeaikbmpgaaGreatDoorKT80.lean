import Derived.Test.YtfinkeaikbmpgaaGreatDoorKT16
import Derived.Test.YtfinkeaikbmpgaaGreatDoorKT66
import Derived.Test.YtfinkeaikbmpgaaGreatDoorKT8
set_option linter.unusedSimpArgs false
set_option linter.unusedVariables false
set_option linter.unnecessarySimpa false
set_option linter.defProp false
/- Changes: what is wrong with one. -/
namespace Go.Am
open Go Go.RowKit
structure Op where
 kind:Int
 target:Int
 content:List Tree
 name:Bs
 s:Bs
def Op.cs (x:Op):List IV:=[.int .i64 x.kind,.int .i64 x.target,.list (dq x.content),.str x.name,.str x.s]
def Op.iv (x:Op):IV:= .agg x.cs
def Op.av (x:Op):AV:= .agg [.int .i64 x.kind,.int .i64 x.target,.list (dq x.content),.str x.name,.str x.s]
def PR {p:Prop} (h:p:=by simp[ah,AV.an,OO,Op.av];omega):p:=h
def Qx {p:Prop} (h:p:=by simp[bu,bJ,S1,Op.av]):p:=h
def QH {p:Prop} (h:p:=by simp[ah,AV.an,Op.av,Doc.av]):p:=h
def Op.cJ (x:Op):x.iv.cells=x.cs:=rfl
def Ys (xs:List Op):jV 5 (xs.map Op.iv):=ZO Op.iv 5 (fun _=>rfl) xs
def YO (l:List Op) (i:Nat):(l.map Op.iv)[i]?=(l[i]?).map Op.iv:=cn ..
def Op.uy (x:Op):∀z∈x.cs,∀cs,z≠ .agg cs:=by
 intro z hz cs;simp only[Op.cs,dU,e7,kt] at hz;rcases hz with rfl|rfl|rfl|rfl|rfl<;>simp
def agu (xs:List Op):Flat (xs.map Op.iv):=YY _ (fun x=>x.uy) _
def WL (k:Int) (t:Bool):Int:=if k=3 then 2 else if k=4 then 2 else if k=6 then 3 else if k=7 then(if t then 1 else 4) else if k=5 then 5 else 1
def W7:AC:=
(aM [gH 4 0] (.seq (aM [MR 5 0] (.block 0 (.seq (aM [eY 7 .eql 5 3,MR 6 7] (.cond (.t 6) .skip (.cq [eY 8 .eql 5 4,MR 6 8]))) (.cond (.t 6) (aM [gH 4 2] .ret) (aM [eY 10 .eql 5 6,MR 9 10] (.cond (.t 9) (aM [gH 4 3] .ret) (aM [eY 12 .eql 5 7,MR 11 12] (.cond (.t 11) (aM [MR 13 1,sB 14 13] (.cond (.t 14) (aM [gH 4 4] .ret) .skip)) (aM [eY 16 .eql 5 5,MR 15 16] (.cond (.t 15) (aM [gH 4 5] .ret) .skip)))))))))) (aM [gH 4 1] .ret)))
def ag0 {P:Program} {G:Nat→Option (List IV)} {akQ:Nat} (hF:aw P G akQ=some (17,[(none,4)],W7.bare)) (k:Int) (t:Bool):au P G akQ [.int .i64 k,.bool t] (.int .i64 (WL k t)):=by
 refine aR hF N7 PC Pv ?_;unfold W7;by_cases h3:k=3
 ·subst h3;simp only[↓aX,mX,seval,Int.reduceBEq];rfl
 by_cases h4:k=4
 ·subst h4;simp only[↓aX,mX,seval,Int.reduceBEq];rfl
 by_cases h6:k=6
 ·subst h6;simp only[↓aX,mX,seval,Int.reduceBEq];rfl
 by_cases h7:k=7
 ·subst h7;cases t
  ·simp only[↓aX,mX,seval,Int.reduceBEq,fj];rfl
  simp only[↓aX,mX,seval,Int.reduceBEq,ib];rfl
 by_cases h5:k=5
 ·subst h5;simp only[↓aX,mX,seval,Int.reduceBEq];rfl
 simp only[↓aX,mX,seval,A8.2 h3,A8.2 h4,A8.2 h6,A8.2 h7,A8.2 h5];simp only[WL,h3,h4,h5,h6,h7,nX]
def Tl (k:Int):Bool:=k==9||k==10
def eO (a b:Op):Bool:=a.target==b.target&&((Tl a.kind&&Tl b.kind&&a.name==b.name)||(a.kind==b.kind&&decide (6≤a.kind)&&decide (a.kind≤8)))
def WA:AC:=
(aM [zzX 2 0,zzX 3 1,jM 4 false] (.seq (aM [ep 6 2 1,fm 7 6,ep 8 3 1,fm 9 8,et 10 .neq 7 9] (.cond (.t 10) (aM [jM 4 false] .ret) .skip)) (aM [ep 11 2 0,fm 12 11,eY 13 .eql 12 9,MR 14 13,oH 15 14 2 0,oG 16 14 15,iR 17 14 (.bin .eql (.t 16) (jS 10)),sj 18 14 17,MR 19 18,Wb 20 19 3 0,jm 21 19 20,dW 22 19 (.bin .eql (.t 21) (jS 9)),cU 23 19 22,oH 24 23 3 0,oG 25 23 24,iR 26 23 (.bin .eql (.t 25) (jS 10)),dW 27 19 (.pick (.t 23) (me true) (.t 26)),jT 28 19 27,MR 5 28] (aM [MR 29 5,MR 30 29,Wb 31 30 2 3,jm 32 30 31,Wb 33 30 3 3,jm 34 30 33,dW 35 30 (.bin .eql (.t 32) (.t 34)),jT 36 30 35,MR 37 36,oH 38 37 2 0,oG 39 37 38,oH 40 37 3 0,oG 41 37 40,iR 42 37 (.bin .eql (.t 39) (.t 41)),gV 43 37 42,Wb 44 43 2 0,jm 45 43 44,dW 46 43 (.bin .geq (.t 45) (jS 6)),iR 47 37 (.pick (.t 43) (.t 46) (me false)),gV 48 37 47,Wb 49 48 2 0,jm 50 48 49,dW 51 48 (.bin .leq (.t 50) (jS 8)),iR 52 37 (.pick (.t 48) (.t 51) (me false)),sj 53 37 52,MR 4 53] .ret))))
set_option maxHeartbeats 1600000 in
def abB {P:Program} {G:Nat→Option (List IV)} {th:Nat} (hF:aw P G th=some (54,[(none,4)],WA.bare)) (a b:Op):au P G th [a.av,b.av] (.bool (eO a b)):=by
 refine aR hF N7 (by simp[ah,AV.an,Op.av]) Pv ?_;unfold WA;simp only[↓aX,mX,seval,Op.av,List.length_cons,List.length_nil];clear hF;cases h0:(a.target !=b.target)
 case false=>
  simp only[↓aX,mX,seval,h0,ge_iff_le,Bool.not_true,Bool.not_false,List.length_cons,List.length_nil];cases h1:(a.kind==9)
  case false=>
   simp only[↓aX,mX,seval,h0,h1,ge_iff_le,Bool.not_true,Bool.not_false,List.length_cons,List.length_nil];cases h2:(a.kind==10)
   case false=>
    simp only[↓aX,mX,seval,h0,h1,h2,ge_iff_le,Bool.not_true,Bool.not_false,List.length_cons,List.length_nil];cases h6:(a.kind==b.kind)
    case false=>
     simp only[↓aX,mX,seval,h0,h1,h2,h6,ge_iff_le,Bool.not_true,Bool.not_false,List.length_cons,List.length_nil]
     first|(simp_all[eO,Tl];done)|(simp_all[eO,Tl];omega)
    case true=>
     simp only[↓aX,mX,seval,h0,h1,h2,h6,ge_iff_le,Bool.not_true,Bool.not_false,List.length_cons,List.length_nil];cases h7:decide (6≤a.kind)
     case false=>
      simp only[↓aX,mX,seval,h0,h1,h2,h6,h7,ge_iff_le,Bool.not_true,Bool.not_false,List.length_cons,List.length_nil]
      first|(simp_all[eO,Tl];done)|(simp_all[eO,Tl];omega)
     case true=>
      simp only[↓aX,mX,seval,h0,h1,h2,h6,h7,ge_iff_le,Bool.not_true,Bool.not_false,List.length_cons,List.length_nil]
      first|(simp_all[eO,Tl];done)|(simp_all[eO,Tl];omega)
   case true=>
    simp only[↓aX,mX,seval,h0,h1,h2,ge_iff_le,Bool.not_true,Bool.not_false,List.length_cons,List.length_nil];cases h3:(b.kind==9)
    case false=>
     simp only[↓aX,mX,seval,h0,h1,h2,h3,ge_iff_le,Bool.not_true,Bool.not_false,List.length_cons,List.length_nil];cases h4:(b.kind==10)
     case false=>
      simp only[↓aX,mX,seval,h0,h1,h2,h3,h4,ge_iff_le,Bool.not_true,Bool.not_false,List.length_cons,List.length_nil];cases h6:(a.kind==b.kind)
      case false=>
       simp only[↓aX,mX,seval,h0,h1,h2,h3,h4,h6,ge_iff_le,Bool.not_true,Bool.not_false,List.length_cons,List.length_nil]
       first|(simp_all[eO,Tl];done)|(simp_all[eO,Tl];omega)
      case true=>
       simp only[↓aX,mX,seval,h0,h1,h2,h3,h4,h6,ge_iff_le,Bool.not_true,Bool.not_false,List.length_cons,List.length_nil];cases h7:decide (6≤a.kind)
       case false=>
        simp only[↓aX,mX,seval,h0,h1,h2,h3,h4,h6,h7,ge_iff_le,Bool.not_true,Bool.not_false,List.length_cons,List.length_nil]
        first|(simp_all[eO,Tl];done)|(simp_all[eO,Tl];omega)
       case true=>
        simp only[↓aX,mX,seval,h0,h1,h2,h3,h4,h6,h7,ge_iff_le,Bool.not_true,Bool.not_false,List.length_cons,List.length_nil]
        first|(simp_all[eO,Tl];done)|(simp_all[eO,Tl];omega)
     case true=>
      simp only[↓aX,mX,seval,h0,h1,h2,h3,h4,ge_iff_le,Bool.not_true,Bool.not_false,List.length_cons,List.length_nil];cases h5:(a.name==b.name)
      case false=>
       simp only[↓aX,mX,seval,h0,h1,h2,h3,h4,h5,ge_iff_le,Bool.not_true,Bool.not_false,List.length_cons,List.length_nil];cases h6:(a.kind==b.kind)
       case false=>
        simp only[↓aX,mX,seval,h0,h1,h2,h3,h4,h5,h6,ge_iff_le,Bool.not_true,Bool.not_false,List.length_cons,List.length_nil]
        first|(simp_all[eO,Tl];done)|(simp_all[eO,Tl];omega)
       case true=>
        simp only[↓aX,mX,seval,h0,h1,h2,h3,h4,h5,h6,ge_iff_le,Bool.not_true,Bool.not_false,List.length_cons,List.length_nil];cases h7:decide (6≤a.kind)
        case false=>
         simp only[↓aX,mX,seval,h0,h1,h2,h3,h4,h5,h6,h7,ge_iff_le,Bool.not_true,Bool.not_false,List.length_cons,List.length_nil]
         first|(simp_all[eO,Tl];done)|(simp_all[eO,Tl];omega)
        case true=>
         simp only[↓aX,mX,seval,h0,h1,h2,h3,h4,h5,h6,h7,ge_iff_le,Bool.not_true,Bool.not_false,List.length_cons,List.length_nil]
         first|(simp_all[eO,Tl];done)|(simp_all[eO,Tl];omega)
      case true=>
       simp only[↓aX,mX,seval,h0,h1,h2,h3,h4,h5,ge_iff_le,Bool.not_true,Bool.not_false,List.length_cons,List.length_nil]
       first|(simp_all[eO,Tl];done)|(simp_all[eO,Tl];omega)
    case true=>
     simp only[↓aX,mX,seval,h0,h1,h2,h3,ge_iff_le,Bool.not_true,Bool.not_false,List.length_cons,List.length_nil];cases h5:(a.name==b.name)
     case false=>
      simp only[↓aX,mX,seval,h0,h1,h2,h3,h5,ge_iff_le,Bool.not_true,Bool.not_false,List.length_cons,List.length_nil];cases h6:(a.kind==b.kind)
      case false=>
       simp only[↓aX,mX,seval,h0,h1,h2,h3,h5,h6,ge_iff_le,Bool.not_true,Bool.not_false,List.length_cons,List.length_nil]
       first|(simp_all[eO,Tl];done)|(simp_all[eO,Tl];omega)
      case true=>
       simp only[↓aX,mX,seval,h0,h1,h2,h3,h5,h6,ge_iff_le,Bool.not_true,Bool.not_false,List.length_cons,List.length_nil];cases h7:decide (6≤a.kind)
       case false=>
        simp only[↓aX,mX,seval,h0,h1,h2,h3,h5,h6,h7,ge_iff_le,Bool.not_true,Bool.not_false,List.length_cons,List.length_nil]
        first|(simp_all[eO,Tl];done)|(simp_all[eO,Tl];omega)
       case true=>
        simp only[↓aX,mX,seval,h0,h1,h2,h3,h5,h6,h7,ge_iff_le,Bool.not_true,Bool.not_false,List.length_cons,List.length_nil]
        first|(simp_all[eO,Tl];done)|(simp_all[eO,Tl];omega)
     case true=>
      simp only[↓aX,mX,seval,h0,h1,h2,h3,h5,ge_iff_le,Bool.not_true,Bool.not_false,List.length_cons,List.length_nil]
      first|(simp_all[eO,Tl];done)|(simp_all[eO,Tl];omega)
  case true=>
   simp only[↓aX,mX,seval,h0,h1,ge_iff_le,Bool.not_true,Bool.not_false,List.length_cons,List.length_nil];cases h3:(b.kind==9)
   case false=>
    simp only[↓aX,mX,seval,h0,h1,h3,ge_iff_le,Bool.not_true,Bool.not_false,List.length_cons,List.length_nil];cases h4:(b.kind==10)
    case false=>
     simp only[↓aX,mX,seval,h0,h1,h3,h4,ge_iff_le,Bool.not_true,Bool.not_false,List.length_cons,List.length_nil];cases h6:(a.kind==b.kind)
     case false=>
      simp only[↓aX,mX,seval,h0,h1,h3,h4,h6,ge_iff_le,Bool.not_true,Bool.not_false,List.length_cons,List.length_nil]
      first|(simp_all[eO,Tl];done)|(simp_all[eO,Tl];omega)
     case true=>
      simp only[↓aX,mX,seval,h0,h1,h3,h4,h6,ge_iff_le,Bool.not_true,Bool.not_false,List.length_cons,List.length_nil];cases h7:decide (6≤a.kind)
      case false=>
       simp only[↓aX,mX,seval,h0,h1,h3,h4,h6,h7,ge_iff_le,Bool.not_true,Bool.not_false,List.length_cons,List.length_nil]
       first|(simp_all[eO,Tl];done)|(simp_all[eO,Tl];omega)
      case true=>
       simp only[↓aX,mX,seval,h0,h1,h3,h4,h6,h7,ge_iff_le,Bool.not_true,Bool.not_false,List.length_cons,List.length_nil]
       first|(simp_all[eO,Tl];done)|(simp_all[eO,Tl];omega)
    case true=>
     simp only[↓aX,mX,seval,h0,h1,h3,h4,ge_iff_le,Bool.not_true,Bool.not_false,List.length_cons,List.length_nil];cases h5:(a.name==b.name)
     case false=>
      simp only[↓aX,mX,seval,h0,h1,h3,h4,h5,ge_iff_le,Bool.not_true,Bool.not_false,List.length_cons,List.length_nil];cases h6:(a.kind==b.kind)
      case false=>
       simp only[↓aX,mX,seval,h0,h1,h3,h4,h5,h6,ge_iff_le,Bool.not_true,Bool.not_false,List.length_cons,List.length_nil]
       first|(simp_all[eO,Tl];done)|(simp_all[eO,Tl];omega)
      case true=>
       simp only[↓aX,mX,seval,h0,h1,h3,h4,h5,h6,ge_iff_le,Bool.not_true,Bool.not_false,List.length_cons,List.length_nil];cases h7:decide (6≤a.kind)
       case false=>
        simp only[↓aX,mX,seval,h0,h1,h3,h4,h5,h6,h7,ge_iff_le,Bool.not_true,Bool.not_false,List.length_cons,List.length_nil]
        first|(simp_all[eO,Tl];done)|(simp_all[eO,Tl];omega)
       case true=>
        simp only[↓aX,mX,seval,h0,h1,h3,h4,h5,h6,h7,ge_iff_le,Bool.not_true,Bool.not_false,List.length_cons,List.length_nil]
        first|(simp_all[eO,Tl];done)|(simp_all[eO,Tl];omega)
     case true=>
      simp only[↓aX,mX,seval,h0,h1,h3,h4,h5,ge_iff_le,Bool.not_true,Bool.not_false,List.length_cons,List.length_nil]
      first|(simp_all[eO,Tl];done)|(simp_all[eO,Tl];omega)
   case true=>
    simp only[↓aX,mX,seval,h0,h1,h3,ge_iff_le,Bool.not_true,Bool.not_false,List.length_cons,List.length_nil];cases h5:(a.name==b.name)
    case false=>
     simp only[↓aX,mX,seval,h0,h1,h3,h5,ge_iff_le,Bool.not_true,Bool.not_false,List.length_cons,List.length_nil];cases h6:(a.kind==b.kind)
     case false=>
      simp only[↓aX,mX,seval,h0,h1,h3,h5,h6,ge_iff_le,Bool.not_true,Bool.not_false,List.length_cons,List.length_nil]
      first|(simp_all[eO,Tl];done)|(simp_all[eO,Tl];omega)
     case true=>
      simp only[↓aX,mX,seval,h0,h1,h3,h5,h6,ge_iff_le,Bool.not_true,Bool.not_false,List.length_cons,List.length_nil];cases h7:decide (6≤a.kind)
      case false=>
       simp only[↓aX,mX,seval,h0,h1,h3,h5,h6,h7,ge_iff_le,Bool.not_true,Bool.not_false,List.length_cons,List.length_nil]
       first|(simp_all[eO,Tl];done)|(simp_all[eO,Tl];omega)
      case true=>
       simp only[↓aX,mX,seval,h0,h1,h3,h5,h6,h7,ge_iff_le,Bool.not_true,Bool.not_false,List.length_cons,List.length_nil]
       first|(simp_all[eO,Tl];done)|(simp_all[eO,Tl];omega)
    case true=>
     simp only[↓aX,mX,seval,h0,h1,h3,h5,ge_iff_le,Bool.not_true,Bool.not_false,List.length_cons,List.length_nil]
     first|(simp_all[eO,Tl];done)|(simp_all[eO,Tl];omega)
 case true=>
  simp only[↓aX,mX,seval,h0,ge_iff_le,Bool.not_true,Bool.not_false,List.length_cons,List.length_nil]
  first|(simp_all[eO,Tl];done)|(simp_all[eO,Tl];omega)

def TV (az:List Attr) (o:Op):List Attr:=
 if o.kind=10 then(if TU az o.name then az.take (RT az o.name)++az.drop (RT az o.name+1) else az)
 else if TU az o.name then az.set (RT az o.name) ⟨o.name,o.s⟩ else az.take (RT az o.name)++[⟨o.name,o.s⟩]++az.drop (RT az o.name)
def Bn.attr (b:Bn) (n:Nat) (o:Op):Bn:=match b.nodes[n]? with
 |some x=>b.set n {x with attrs:=TV x.attrs o}
 |none=>b
def ac1 (az:List Attr) (key:Bs):RT az key≤az.length:=by unfold RT;exact(List.takeWhile_sublist _).length_le
def aac {az:List Attr} {key:Bs} (h:TU az key=true):∃a,az[RT az key]?=some a∧a.name=key:=by
 unfold TU at h;split at h
 ·rename_i a ha;exact⟨a,ha,by simpa using h⟩
 cases h
def abC {α:Type} {l:List α} {n:Nat} {v:α} (h:l[n]?=some v):l.set n v=l:=by
 obtain⟨h1,rfl⟩:=bd.1 h;exact List.set_getElem_self h1
def aeL {az:List Attr} {i:Nat} {a:Attr} (h:az[i]?=some a):(aB (cD az))[i]?=some [.str a.name,.str a.val]:=by
 simp[aB,cD,h,Attr.iv,Attr.cs,IV.cells,IV.dQ]
def aeM (az:List Attr) (i:Nat) (a:Attr):(aB (cD az)).set i [.str a.name,.str a.val]=aB (cD (az.set i a)):=by
 simp[aB,cD,Nh,Attr.iv,Attr.cs,IV.cells,IV.dQ]
def ahU (P:Program) (G:Nat→Option (List IV)) (f:Nat):Prop:=∀(xs vs:List Attr) (i:Nat),i≤xs.length→xs.length+vs.length≤B →
 tq P G 2 f [.sl (.par 0) 2 0 xs.length,.int .i64 i,.list (cD vs)] (cD xs) (cD (xs.take i++vs++xs.drop i))
def ahV (P:Program) (G:Nat→Option (List IV)) (f:Nat):Prop:=∀(xs:List Attr) (i:Nat),i<xs.length→xs.length≤B →
 tq P G 2 f [.sl (.par 0) 2 0 xs.length,.int .i64 i,.int .i64 ((i+1:Nat):Int)] (cD xs) (cD (xs.take i++xs.drop (i+1)))
section
variable {P:Program} {G:Nat→Option (List IV)}
def V7 (l5 akK nb WW:Nat):AC:=
(aM [zzX 3 1] (.seq (.VL [MR 7 0,aQ 8 (.dp (.t 7)),ep 9 8 0,fm 10 9,ep 11 3 1,fm 12 11,jL 13 10 12 5,MR 4 13] [[],[0],[1],[2],[],[4],[3,5],[6,0,1,2,3,4,5,6]] [.no,.no,.no,(.rw [(.par 0)] []),.no,.rw [.loc 3] [],.no,.no]) (.seq (.VL [MR 15 4,aQ 16 (.dp (.t 15)),ep 17 16 2,fm 18 17,ep 19 3 3,fm 20 19,aQ 21 (.call l5 [(.t 18),(.t 20),(.c (.fn akK [] []))]),MR 14 21,ox 22 14 0,ox 23 14 1,MR 5 22,MR 6 23] [[],[0],[1],[2],[],[4],[3,5],[6],[7],[7],[8,6,0,1,2,3,4,5,6,7,8],[9,10,0,1,2,3,4,5,6,7,8,9,10]] [.no,.no,.no,(.rw [(.par 1)] []),.no,.rw [.loc 3] [],(.p_ []),.no,.no,.no,.no,.no]) (.block 0 (aM [ep 25 3 0,fm 26 25,eY 27 .eql 26 10,MR 28 27,cU 29 28 6,jT 30 28 29,MR 24 30] (.cond (.t 24) (.cq [MR 31 4,MR 32 4,aQ 33 (.dp (.t 32)),ep 34 33 2,fm 35 34,MR 36 5,MR 37 5,eY 38 .add 37 1,aQ 39 (.call nb [(.t 35),(.t 36),(.t 38)]),aQ 40 (.dp (.t 31)),ep 41 40 2,gg (.store 1 (.t 41) (.t 39))]) (aM [ep 43 3 0,fm 44 43,eY 45 .eql 44 9,MR 46 45,cU 47 46 6,jT 48 46 47,MR 42 48] (.cond (.t 42) (.VL [MR 49 4,aQ 50 (.dp (.t 49)),ep 51 50 2,fm 52 51,MR 53 5,ep 54 3 4,fm 55 54,jL 56 52 53 2,ep 57 56 1,gg (.store 1 (.t 57) (.t 55))] [[],[0],[1],[2],[],[],[5],[3,4,0,1,2,3,4,5,6],[7,0,1,2,3,4,5,6],[8,6,0,1,2,3,4,5,6]] [.no,.no,.no,(.rw [(.par 1)] []),.no,.no,.rw [.loc 3] [],.no,.no,.all]) (aM [ep 59 3 0,fm 60 59,eY 61 .eql 60 9,MR 58 61] (.cond (.t 58) (.VL [MR 62 4,MR 63 4,aQ 64 (.dp (.t 63)),ep 65 64 2,fm 66 65,MR 67 5,ep 68 3 3,fm 69 68,ep 70 3 4,fm 71 70,aQ 72 (.sg [(.str []),(.str [])] [(0,(1,(.t 69))),(1,(1,(.t 71)))]),aQ 73 (.lits 1 2 [(.str []),(.str [])] [(0,(.t 72))]),aQ 74 (.call WW [(.t 66),(.t 67),(.t 73)]),aQ 75 (.dp (.t 62)),ep 76 75 2,gg (.store 1 (.t 76) (.t 74))] [[],[],[1],[2],[3],[],[],[6],[],[8],[7,9],[10],[4,5,11],[0,0,1,2,3,4,5,6,7,8,9,10,11,12],[13,0,1,2,3,4,5,6,7,8,9,10,11,12],[14,12,12,0,1,2,3,4,5,6,7,8,9,10,11,12]] [.no,.no,.no,.no,(.rw [(.par 1)] []),.no,.no,.rw [.loc 3] [],.no,.rw [.loc 3] [],.no,.no,(.p_ []),.no,.no,(.rw [] [(.par 1)])]) .skip))))))))))
set_option maxRecDepth 20000 in
def ahW {eF l5 akK nb WW:Nat} (hF:aw P G eF=some (77,[],(V7 l5 akK nb WW).bare)) (b:Bn) (n:Nat) (hp:n<b.n0) (x:Node) (hx:b.nodes[n]?=some x)
  (o:Op) (ht:o.target=n) (hk:o.kind=9∨o.kind=10) (hb:x.attrs.length+1≤B) (hS:au P G l5 [.list (cD x.attrs),.str o.name,.fn akK [] []] (.gf [.int .i64 (RT x.attrs o.name),.bool (TU x.attrs o.name)]))
  (hI:ahU P G WW) (hD:ahV P G nb) :
  Jg P G eF [.ptr (.par 0) 3 0 0,o.av] (Ut b) (b.but (4+2*n)) fun X R2=>X=(fun _=> .gf [])∧R2=Ut (b.attr n o):=by
 refine VM hF N7 PR ?_;have VB:Oi Lb.par b (Lx (Ut b)):=Xv _;have hU:∀q:Lb,(∀p,p<4+2*b.n0→q≠ .par p)→Lx (Ut b) q= .unused:=fun q hq=>Qa _ fun p hp e=>hq p (OO.1 hp) e.symm;have h3:Lx (Ut b) (.loc 3)= .unused:=hU _ N7;have h39:Lx (Ut b) (.gen 39)= .unused:=hU _ N7;have h74:Lx (Ut b) (.gen 74)= .unused:=hU _ N7;have hlen:n<b.nodes.length:=(List.getElem?_eq_some_iff.1 hx).1;have zo:B=1073741824:=rfl;have hbn:=Va (n0:=b.n0) (lab:=Lb.par) (x:=x) hp;have jY:=VB.get hx;rw[hbn] at jY;have pT:=VB.at' hp hx;unfold V7;simp only[↓aX,mX,seval,Op.av,ht,h3,VB.s,VB.n,hlen,List.length_mapIdx,Int.natCast_nonneg,Int.toNat_natCast,and_self,true_and,Nat.zero_add,jY];refine⟨rfl,rfl,?_⟩;refine ad5 hS (.cons (aby (by rw[aq _ _ N7];exact pT) (nW _) (by simp[bp])) (.cons (.same _) (.cons (.same _) .nil))) rfl ?_;have BS:=ac1 x.attrs o.name;have hw:IntKind.i64.wrap ((RT x.attrs o.name:Int)+1)=((RT x.attrs o.name+1:Nat):Int):=wrap64 tM tM;have zO:IntKind.i64.wrap ((RT x.attrs o.name:Int)+1)=((RT x.attrs o.name+1:Nat):Int):=hw;simp only[↓aX,mX,seval,Op.av,ht,h3,VB.s,VB.n,hlen,List.length_mapIdx,Int.natCast_nonneg,Int.toNat_natCast,and_self,true_and,Nat.zero_add,jY];have aiB:b.attr n o=b.set n {x with attrs:=TV x.attrs o}:=by unfold Bn.attr;rw[hx]
 have HM:Oi Lb.par b (bD (Lx (Ut b)) (.loc 3) (.live ⟨5,[[.int .i64 o.kind,.int .i64 n,.list (dq o.content),.str o.name,.str o.s]]⟩)):=VB.Yr N7;have key:∀(N:Lb) (ys:List Attr),TV x.attrs o=ys→(N= .par (4+2*n)∨N= .gen 39∨N= .gen 74)→∀H2:Hp,H2 (.par 1)= .live ⟨5,(b.nodes.mapIdx (NI b.n0 Lb.par)).set n [.bool x.text,.str x.s,.sl N 2 0 ys.length,.int .i64 x.parent,.sl (.par (5+2*n)) 1 0 x.kids.length]⟩ →
   H2 N= .live ⟨2,aB (cD ys)⟩→(∀q,q≠ .par 1→q≠N→q≠ .par (4+2*n)→q≠ .loc 3→H2 q=Lx (Ut b) q) →
   ∃t:((Nat→Lb)→AV)×uR×(Nat→Lb),(t.1=(fun _=> .gf [])∧t.2.1=Ut (b.attr n o))∧(∀ρ,bJ ρ (t.1 t.2.2)=t.1 fun i=>ρ (t.2.2 i))∧(∀l∈(AV.gf []).an,∃p,t.2.1.ok p∧l=t.2.2 p)∧AV.gf []=t.1 t.2.2∧Ed t.2.2 t.2.1 H2∧∀p'∈b.but (4+2*n),t.2.2 p'= .par p':=by
  intro N ys sn hN H2 e1 e2 e3;refine⟨⟨fun _=> .gf [],Ut (b.attr n o),fun p'=>if p'=4+2*n then N else .par p'⟩,⟨rfl,rfl⟩,fun ρ=>by simp[bJ,bu],PK,rfl,?_,?_⟩
  ·rw[aiB,sn];have hN3:∀p',(if p'=4+2*n then N else Lb.par p')≠ .loc 3:=by
    intro p';split
    ·rcases hN with rfl|rfl|rfl<;>simp
    simp
   have:=Oi.eh (H2:=fun q=>if q= .loc 3 then Lx (Ut b) q else H2 q) VB (N:=N) (ys:=ys) hp hx (by
    rcases hN with rfl|rfl|rfl
    ·exact .inl rfl
    ·exact .inr N7
    ·exact .inr N7) (by simp[e1]) (by rw[if_neg (by rcases hN with rfl|rfl|rfl<;>simp)];exact e2) (by
    intro q g1 g2 g3;by_cases g4:q= .loc 3
    ·simp[g4]
    simp only[g4,if_false];exact e3 q g1 g2 g3 g4)
   refine⟨fun q r hr=> ?_,this.inj⟩;have h1:=this.row q r hr;exact(if_neg (hN3 q)).symm.trans h1
  intro p' BT;exact if_neg (Wp.1 BT).2
 have h14:¬(1:Nat)=4+2*n:=tM
 have aiC:∀P Q:List Attr,(if(9:Int)=10 then P else Q)=Q:=fun _ _=>if_neg Pr;rcases hk with hk|hk
 ·simp only[↓aX,mX,seval,hk,Int.reduceBEq,ht,h3,VB.s,VB.n,hlen,List.length_mapIdx,Int.natCast_nonneg,Int.toNat_natCast,and_self,true_and,Nat.zero_add,jY];refine AU (fun h=> ?_) (fun h=> ?_)
  ·obtain⟨a,ha,hn⟩:=aac h;have MB:RT x.attrs o.name<x.attrs.length:=(List.getElem?_eq_some_iff.1 ha).1;simp only[↓aX,mX,seval,hk,h,Int.reduceBEq,ht,h3,VB.s,VB.n,hlen,List.length_mapIdx,Int.natCast_nonneg,Int.toNat_natCast,and_self,true_and,Nat.zero_add,jY];refine⟨rfl,?_⟩;have aiD:=aeL ha;simp only[↓aX,mX,seval,MB,h3,pT,aiD];rw[lM];refine⟨[],rfl,key (.par (4+2*n)) (x.attrs.set (RT x.attrs o.name) ⟨o.name,o.s⟩) ?_ (.inl rfl) _ ?_ ?_ ?_⟩
   ·simp only[TV,hk,aiC,h,if_true]
   ·rw[List.length_set,abC jY];simp[ae,VB.n,h14]
   ·rw[ae,if_pos rfl,←aeM,hn]
   intro q g1 g2 g3 g4;simp[ae,g3,g4]
  simp only[↓aX,mX,seval,hk,h,Int.reduceBEq,ht,h3,VB.s,VB.n,hlen,List.length_mapIdx,Int.natCast_nonneg,Int.toNat_natCast,and_self,true_and,Nat.zero_add,jY];refine⟨rfl,?_⟩;refine Bg (l:= .par (4+2*n)) (N:= .gen 74) (hI x.attrs [⟨o.name,o.s⟩] (RT x.attrs o.name) BS PJ) rfl (by rw[aq _ _ N7];exact pT) (by rw[aq _ _ N7];exact h74) Qc N7 N7 ?_ ?_
  ·simp only[↓aX,mX,seval,hk,h,Int.reduceBEq,ht,h3,VB.s,VB.n,hlen,List.length_mapIdx,Int.natCast_nonneg,Int.toNat_natCast,and_self,true_and,Nat.zero_add,jY,bp,h14];rw[lM];refine⟨[],rfl,key (.gen 74) (x.attrs.take (RT x.attrs o.name)++[⟨o.name,o.s⟩]++x.attrs.drop (RT x.attrs o.name)) ?_ (.inr (.inr rfl)) _ ?_ ?_ ?_⟩
   ·simp[TV,hk,h]
   ·simp[ae]
   ·simp[ae]
   intro q g1 g2 g3 g4;simp[ae,g1,g2,g3,g4]
  simp only[↓aX,mX,seval,hk,h,Int.reduceBEq,ht,h3,VB.s,VB.n,hlen,List.length_mapIdx,Int.natCast_nonneg,Int.toNat_natCast,and_self,true_and,Nat.zero_add,jY,bp,h14];rw[lM];refine⟨[],rfl,key (.par (4+2*n)) (x.attrs.take (RT x.attrs o.name)++[⟨o.name,o.s⟩]++x.attrs.drop (RT x.attrs o.name)) ?_ (.inl rfl) _ ?_ ?_ ?_⟩
  ·simp[TV,hk,h]
  ·simp[ae]
  ·simp[ae];omega
  intro q g1 g2 g3 g4;simp[ae,g1,g3,g4]
 simp only[↓aX,mX,seval,hk,Int.reduceBEq,ht,h3,VB.s,VB.n,hlen,List.length_mapIdx,Int.natCast_nonneg,Int.toNat_natCast,and_self,true_and,Nat.zero_add,jY];refine AU (fun h=> ?_) (fun h=> ?_)
 ·obtain⟨a,ha,hn⟩:=aac h;have MB:RT x.attrs o.name<x.attrs.length:=(List.getElem?_eq_some_iff.1 ha).1;simp only[↓aX,mX,seval,hw,h,Int.reduceBEq,ht,h3,VB.s,VB.n,hlen,List.length_mapIdx,Int.natCast_nonneg,Int.toNat_natCast,and_self,true_and,Nat.zero_add,jY];refine mI (l:= .par (4+2*n)) (N:= .gen 39) (hD x.attrs (RT x.attrs o.name) MB tM) rfl (by rw[aq _ _ N7];exact pT) (by rw[aq _ _ N7];exact h39) Qc ?_ ?_
  ·simp only[↓aX,mX,seval,hk,h,Int.reduceBEq,ht,h3,VB.s,VB.n,hlen,List.length_mapIdx,Int.natCast_nonneg,Int.toNat_natCast,and_self,true_and,Nat.zero_add,jY,bp,h14];rw[lM];refine⟨[],rfl,key (.gen 39) (x.attrs.take (RT x.attrs o.name)++x.attrs.drop (RT x.attrs o.name+1)) ?_ (.inr (.inl rfl)) _ ?_ ?_ ?_⟩
   ·simp[TV,hk,h]
   ·simp[ae]
   ·simp[ae]
   intro q g1 g2 g3 g4;simp[ae,g1,g2,g3,g4]
  simp only[↓aX,mX,seval,hk,h,Int.reduceBEq,ht,h3,VB.s,VB.n,hlen,List.length_mapIdx,Int.natCast_nonneg,Int.toNat_natCast,and_self,true_and,Nat.zero_add,jY,bp,h14];rw[lM];refine⟨[],rfl,key (.par (4+2*n)) (x.attrs.take (RT x.attrs o.name)++x.attrs.drop (RT x.attrs o.name+1)) ?_ (.inl rfl) _ ?_ ?_ ?_⟩
  ·simp[TV,hk,h]
  ·simp[ae]
  ·simp[ae];omega
  intro q g1 g2 g3 g4;simp[ae,g1,g3,g4]
 simp only[↓aX,mX,seval,hk,h,Int.reduceBEq,ht,h3,VB.s,VB.n,hlen,List.length_mapIdx,Int.natCast_nonneg,Int.toNat_natCast,and_self,true_and,Nat.zero_add,jY];rw[lM];refine⟨[],rfl,key (.par (4+2*n)) x.attrs ?_ (.inl rfl) _ ?_ ?_ ?_⟩
 ·simp[TV,hk,h]
 ·rw[abC jY];simp[ae,VB.n,h14]
 ·simp[ae,pT]
 intro q g1 g2 g3 g4;simp[ae,g4]
end

def afV (az:List Attr) (k v:Bs):List Attr:=az.filter (fun a=>Op.bytesLess a.name k)++⟨k,v⟩::az.filter (fun a=>Op.bytesLess k a.name)
def ac2 (az:List Attr) (k:Bs):List Attr:=az.filter (fun a=>Op.bytesLess a.name k)++az.filter (fun a=>Op.bytesLess k a.name)
theorem ZI:∀{az:List Attr},l_ az=true↔az.Pairwise fun a b=>Op.bytesLess a.name b.name=true
 |[]=>by simp[l_]
 |a::r=>by
  rw[Mu];constructor
  ·intro h;exact⟨ZH h,ZI.1 (vS h)⟩
  rintro⟨h1,h2⟩;cases r with
  |nil=>rfl
  |cons b r=>simp only[l_,de];exact⟨h1 b N7,ZI.2 h2⟩
theorem aaK {key:Bs}:∀{az:List Attr},l_ az=true→az.take (RT az key)=az.filter (fun a=>Op.bytesLess a.name key) ∧
  (TU az key=true→az.drop (RT az key+1)=az.filter (fun a=>Op.bytesLess key a.name))∧(TU az key=false→az.drop (RT az key)=az.filter (fun a=>Op.bytesLess key a.name))
 |[],_=>by simp[RT,TU]
 |a::r,h=>by
  have ht:=vS h;have bI:=ZH h;obtain⟨i1,i2,i3⟩:=aaK (key:=key) ht;cases h1:Op.bytesLess a.name key with
  |true=>
   have hp:RT (a::r) key=RT r key+1:=(by simp[RT,ou,h1]);have hh:TU (a::r) key=TU r key:=(by unfold TU;rw[hp];simp);rw[hp,hh];refine⟨by rw[Cj,i1];simp[zp,h1],fun hq=> ?_,fun hq=> ?_⟩
   ·rw[A7,i2 hq,M3 (by rw[ny h1];simp)]
   rw[A7,i3 hq,M3 (by rw[ny h1];simp)]
  |false=>
  have hp:RT (a::r) key=0:=by simp[RT,ou,h1]
  have qS:∀b∈r,Op.bytesLess b.name key=false:=fun b hb=>by
   cases hq:Op.bytesLess b.name key with
   |false=>rfl
   |true=>rw[rG (bI b hb) hq] at h1;cases h1
  have PS:∀b∈r,Op.bytesLess key b.name=true:=fun b hb=>by
   rcases tl key a.name with h2|h2|h2
   ·exact rG h2 (bI b hb)
   ·rw[h2];exact bI b hb
   rw[h2] at h1;cases h1
  have B7:(a::r).filter (fun a=>Op.bytesLess a.name key)=[]:=by
   rw[mc];intro b hb;rcases dU.1 hb with rfl|hb
   ·rw[h1];simp
   rw[qS b hb];simp
  have FW:r.filter (fun a=>Op.bytesLess key a.name)=r:=OW.2 PS;have hh:TU (a::r) key=(a.name==key):=by unfold TU;rw[hp];simp
  rw[hp,hh];refine⟨by rw[B7];rfl,fun hq=> ?_,fun hq=> ?_⟩
  ·have e:a.name=key:=(by simpa using hq);simp only[zp,e,qq,jy,nX,FW,A7,tn]
  have e:a.name≠key:=by simpa using hq
  have:Op.bytesLess key a.name=true:=by
   rcases tl key a.name with h2|h2|h2
   ·exact h2
   ·exact absurd h2.symm e
   rw[h2] at h1;cases h1
  simp only[zp,this,ku,FW,tn]
def aeN {az:List Attr} (h:l_ az=true) (o:Op):TV az o=if o.kind=10 then ac2 az o.name else afV az o.name o.s:=by
 obtain⟨i1,i2,i3⟩:=aaK (key:=o.name) h;unfold TV ac2 afV;cases hh:TU az o.name with
 |true=>
  obtain⟨a,ha,hn⟩:=aac hh;have bI:=(bd.1 ha).1;have vf:az.set (RT az o.name) ⟨o.name,o.s⟩=az.take (RT az o.name)++⟨o.name,o.s⟩::az.drop (RT az o.name+1):=MX.trans (eE bI);simp only[ku];rw[vf,i1,i2 hh]
 |false=>
 simp only[jy,nX];rw[i1,i3 hh];split
 ·rw[←i1,←i3 hh,tO]
 simp
def aeO {az:List Attr} (h:l_ az=true) (k v:Bs):l_ (afV az k v)=true:=by
 rw[ZI] at h ⊢;unfold afV;rw[jk,Mu];refine⟨h.filter _,⟨fun b hb=> ?_,h.filter _⟩,fun a ha b hb=> ?_⟩
 ·exact(A6.1 hb).2
 have h1:=(A6.1 ha).2;rcases dU.1 hb with rfl|hb
 ·exact h1
 exact rG h1 (A6.1 hb).2
def adA {az:List Attr} (h:l_ az=true) (k:Bs):l_ (ac2 az k)=true:=by
 rw[ZI] at h ⊢;unfold ac2;rw[jk];exact⟨h.filter _,h.filter _,fun a ha b hb=>rG (A6.1 ha).2 (A6.1 hb).2⟩
def adB {az:List Attr} (h:l_ az=true) (o:Op):l_ (TV az o)=true:=by
 rw[aeN h];split
 ·exact adA h _
 exact aeO h _ _
def adC (az:List Attr) (o:Op):(TV az o).length≤az.length+1:=by
 have:=ac1 az o.name;unfold TV;split
 ·split
  ·simp;omega
  omega
 split
 ·simp
 simp;omega

def Pp {S:St} {env:Env} {H:Hp} {q N:Lb} {sq i j sz:Nat} {els:List (List AV)} {cs:List AV} (g1:H q= .live ⟨sq,els⟩) (g0:els[i]?=some cs) (g2:cs[j]?=some .nil0) (g3:H N= .unused) (g4:0<sz) :
  nQ S env H env (bD (bD H N (.live ⟨sz,[]⟩)) q (.live ⟨sq,els.set i (cs.set j (.sl N sz 0 0))⟩)):=by
 intro K β a w IJ hS hr;have hk:=hr.OI N g3 (r:=⟨sz,[]⟩) (Below.refl _ _) none N7 N7 ⟨g4,N7,N7⟩;have TF:q≠N:=by rintro rfl;rw[g1] at g3;cases g3
 have hq:bD H N (.live ⟨sz,[]⟩) q= .live ⟨sq,els⟩:=by rw[aq _ _ TF];exact g1
 have hlen:=(hr.rows q _ g1).2.1;have TG:bD β N none q=β q:=aq _ _ TF;have XV:i<els.length:=(bd.1 g0).1;cases hb:β q with
 |none=>
  have:=(hr.rows q _ g1).2.2;simp only[hb] at this;rw[this] at XV;simp at XV
 |some g=>
 obtain⟨cur,e0,cap,k1,k2,k3,k4,k5⟩:=(hk.rows q _ hq).block (TG.trans hb);have zk:j<cs.length:=(bd.1 g2).1;have vf:=hk.setRow q (r':=⟨sq,els.set i (cs.set j (.sl N sz 0 0))⟩) (cur':=cur) (cap:=cap) hq (TG.trans hb) k1 rfl rfl k2 k3 (by simpa using k4) (by
   intro ds ua;rcases D9 ua with h|rfl
   ·exact hlen ds h
   simpa using hlen cs (dc g0))
  (by
   intro ds ua p hp;rcases D9 ua with h|rfl
   ·exact hk.cH q _ hq ds h p hp
   obtain⟨y,hy,J'⟩:=Px hp;rcases D9 hy with hy|rfl
   ·obtain⟨m,hm⟩:=yl hy;exact hk.cH q _ hq cs (dc g0) p (cW _ _ _ hm p J')
   simp only[AV.an,bY] at J';subst J';simp)
  (by
   intro i' j' ds x0 ed iX;by_cases ei:i'=i
   ·subst ei;simp only at ed;rw[A9 XV] at ed;cases ed;by_cases e:j'=j
    ·subst e;rw[A9 zk] at iX;cases iX;obtain⟨v,q1,q2⟩:=k5 i' j' cs _ g0 g2;simp only[RV] at q2;obtain⟨ad,rfl⟩:=q2;refine⟨_,q1,?_⟩;simp only[RV];exact⟨ad,0,rfl,eM _,by simp[maxLen],N7,fun _=> .inl rfl⟩
    rw[Bd (yd e)] at iX;exact k5 i' j' cs x0 g0 iX
   simp only at ed;rw[Bd (yd ei)] at ed;exact k5 i' j' ds x0 ed iX)
 have j0:w.setRow g cur=w:=setRow_self w g cur e0 (0,0) k1;rw[j0] at vf;exact⟨_,vf⟩

def UR (s:Bs):Tree:= .mk true s [] []
def acs (s:Bs):(UR s).wt=1+s.length:=by simp[UR,Tree.wt,dX,dE]
def Bn.value (b:Bn) (n:Nat) (s:Bs):Bn:=match b.nodes[n]? with
 |some x=>if x.text then b.set n {x with s:=s} else(b.set n {x with kids:=[]}).ins n 0 [UR s]
 |none=>b
def aau (P:Program) (G:Nat→Option (List IV)) (f:Nat):Prop:=∀(b:Bn),b.n0≤b.nodes.length→∀(p pl:Nat),p<b.n0→∀(x:Node),b.nodes[p]?=some x→pl≤x.kids.length →
 ∀(l:List Tree),b.nodes.length+dE l≤B→x.kids.length+l.length≤B →
 Jg P G f [.ptr (.par 0) 3 0 0,.int .i64 p,.int .i64 pl,.list (dq l)] (Ut b) (b.acr 1 (5+2*p)) fun X R2=>X=(fun _=> .gf [])∧R2=Ut (b.ins p pl l)
section
variable {P:Program} {G:Nat→Option (List IV)}
def V2 (ej:Nat):AC:=
(.seq (aM [MR 6 0,aQ 7 (.dp (.t 6)),ep 8 7 0,fm 9 8,MR 10 1,jL 11 9 10 5,ep 12 11 0,fm 13 12] (.cond (.t 13) (aM [MR 14 0,aQ 15 (.dp (.t 14)),ep 16 15 0,fm 17 16,MR 18 1,MR 19 2,jL 20 17 18 5,ep 21 20 1,gg (.store 1 (.t 21) (.t 19))] .ret) .skip)) (aM [MR 22 0,aQ 23 (.dp (.t 22)),ep 24 23 0,fm 25 24,MR 26 1,jL 27 25 26 5,ep 28 27 4,gg (.store 1 (.t 28) (.c .nil0))] (.gh .vk (.cq [MR 29 0,MR 30 1,MR 31 2,aQ 32 (.sg [(.bool false),(.str []),.nil0,.nil0] [(0,(1,(me true))),(1,(1,(.t 31)))]),aQ 33 (.lits 1 4 [(.bool false),(.str []),.nil0,.nil0] [(0,(.t 32))]),aQ 34 (.call ej [(.t 29),(.t 30),(jS 0),(.t 33)])]))))
def ag1 {en ej:Nat} (hF:aw P G en=some (35,[],(V2 ej).bare)) (b:Bn) (hn:b.n0≤b.nodes.length) (n:Nat) (hp:n<b.n0) (x:Node) (hx:b.nodes[n]?=some x) (s:Bs) (hb:b.nodes.length+1+s.length≤B)
  (hI:aau P G ej) :
  Jg P G en [.ptr (.par 0) 3 0 0,.int .i64 n,.str s] (Ut b) (b.acr 1 (5+2*n)) fun X R2=>X=(fun _=> .gf [])∧R2=Ut (b.value n s):=by
 refine VM hF N7 Qk ?_;have VB:Oi Lb.par b (Lx (Ut b)):=Xv _;have hU:∀q:Lb,(∀p,p<4+2*b.n0→q≠ .par p)→Lx (Ut b) q= .unused:=fun q hq=>Qa _ fun p hp e=>hq p (OO.1 hp) e.symm;have hg:Lx (Ut b) (.gen 77)= .unused:=hU _ N7;have hgN:∀l,Lx (Ut b) (NC 9 l)= .unused:=fun l=>hU _ PQ;have hlen:n<b.nodes.length:=tM
 have zo:B=1073741824:=rfl;have hbn:=Va (n0:=b.n0) (lab:=Lb.par) (x:=x) hp;have jY:=VB.get hx;rw[hbn] at jY;unfold V2;simp only[↓aX,mX,seval,VB.s,VB.n,hlen,pz,eG,bX,A5,tk,bM,jY];refine AU (fun h=> ?_) (fun h=> ?_)
 ·simp only[↓aX,mX,seval,VB.s,VB.n,hlen,pz,eG,bX,A5,tk,bM,jY];rw[B_];refine⟨[],rfl,⟨fun _=> .gf [],Ut (b.set n {x with s:=s}),Lb.par⟩,⟨rfl,by unfold Bn.value;rw[hx];simp only[h,ku]⟩,fun ρ=>by simp[bJ,bu],PY,rfl,?_,fun _ _=>rfl⟩;refine Oi.ahO VB hx ?_ (fun q hq=>by rw[aq _ _ hq]);rw[ae,eE rfl,Va hp]
 simp only[↓aX,mX,seval,VB.s,VB.n,hlen,pz,eG,bX,A5,tk,bM,jY,Ox];refine⟨_,_,Pp (q:= .par 1) (N:= .gen 77) (i:=n) (j:=4) (sz:=1) (by rw[ae,eE rfl]) (A9 (by rw[pz];exact hlen)) rfl (by rw[aq _ _ N7];exact hg) Pr,?_⟩;simp only[↓aX,mX,seval];have vf:((b.nodes.mapIdx (NI b.n0 Lb.par)).set n [.bool x.text,.str x.s,.sl (.par (4+2*n)) 2 0 x.attrs.length,.int .i64 x.parent,.nil0]).set n [.bool x.text,.str x.s,.sl (.par (4+2*n)) 2 0 x.attrs.length,.int .i64 x.parent,.sl (.gen 77) 1 0 0] =
   (b.nodes.mapIdx (NI b.n0 Lb.par)).set n [.bool x.text,.str x.s,.sl (.par (4+2*n)) 2 0 x.attrs.length,.int .i64 x.parent,.sl (.gen 77) 1 0 0]:=List.set_set ..
 have hB:∀H2:Hp,H2 (.par 1)= .live ⟨5,(b.nodes.mapIdx (NI b.n0 Lb.par)).set n [.bool x.text,.str x.s,.sl (.par (4+2*n)) 2 0 x.attrs.length,.int .i64 x.parent,.sl (.gen 77) 1 0 0]⟩→H2 (.gen 77)= .live ⟨1,[]⟩ →
   (∀q,q≠ .par 1→q≠ .gen 77→q≠ .par (5+2*n)→H2 q=Lx (Ut b) q)→Oi (fun p=>if p=5+2*n then .gen 77 else Lb.par p) (b.set n {x with kids:=[]}) H2:=fun H2 e1 e2 e3=>
  Oi.afQ VB hp hx (.inr N7) e1 (by rw[e2];rfl) e3
 refine WV (lab:=fun p=>if p=5+2*n then .gen 77 else Lb.par p) (N:=NC 9) (hI (b.set n {x with kids:=[]}) (by simp[Bn.set];exact hn) n 0 hp {x with kids:=[]} (by simp[Bn.set,hlen]) N7 [UR s] (by simp[Bn.set,dE,acs];omega) PJ) ?_ ?_ ?_ (Yo 9) (fun l h=> .inl h) (fun p' BT=>OO.2 (ajq.1 BT).1) ?_
 ·have:¬0=5+2*n:=by omega
  simp[bu,bJ,S1,UR,dq,Tree.iv,cD,this]
 ·refine hB _ ?_ ?_ ?_
  ·simp[ae]
  ·simp[ae]
  intro q g1 g2 g3;simp[ae,g1,g2]
 ·intro l;simp[ae,NC];exact hgN l
 rintro X R2 U9 H2 ⟨rfl,rfl⟩ g1 g2 g3 g4 g5 g6;simp only[↓aX,mX,seval];rw[lM];refine⟨[],rfl,⟨fun _=> .gf [],_,U9⟩,⟨rfl,?_⟩,fun ρ=>by simp[bJ,bu],PY,rfl,g1,?_⟩
 ·have Vi:¬(x.text=true):=by rw[h];decide
  unfold Bn.value;rw[hx];show _=Ut (if x.text=true then _ else _);rw[cY Vi];rfl
 intro p' BT;have h1:=ajq.1 BT;exact(g2 p' (ajq.2 h1)).trans (cY h1.2.2)
end
end Go.Am
