import Derived.Test.YtfinkeaikbmpgaaGreatDoorKT15
import Derived.Test.YtfinkeaikbmpgaaGreatDoorKT66
import Derived.Test.YtfinkeaikbmpgaaGreatDoorKD2
set_option linter.unusedSimpArgs false
set_option linter.unusedVariables false
set_option linter.unnecessarySimpa false
set_option linter.defProp false
/- Changes: what is wrong with one. -/
namespace Go.Am
open Go Go.RowKit
structure Op where
 kind:Int
 target:Int
 content:List Tree
 name:Bs
 s:Bs
def Op.cs (x:Op):List IV:=[.int .i64 x.kind,.int .i64 x.target,.list (eR x.content),.str x.name,.str x.s]
def Op.iv (x:Op):IV:= .agg x.cs
def Op.av (x:Op):AV:= .agg [.int .i64 x.kind,.int .i64 x.target,.list (eR x.content),.str x.name,.str x.s]
def Op.bw (x:Op):x.iv.cells=x.cs:=rfl
def FU (xs:List Op):ko 5 (xs.map Op.iv):=Aq Op.iv 5 (fun _=>rfl) xs
def JL (l:List Op) (i:Nat):(l.map Op.iv)[i]?=(l[i]?).map Op.iv:=adX ..
def Op.uw (x:Op):∀z∈x.cs,∀cs,z≠ .agg cs:=by
 intro z hz cs;simp only[Op.cs,adz,adG,adO] at hz;rcases hz with rfl|rfl|rfl|rfl|rfl<;>simp
def Ul (xs:List Op):Flat (xs.map Op.iv):=Ar _ (fun x=>x.uw) _
def lZ (k:Int) (t:Bool):Int:=if k=3 then 2 else if k=4 then 2 else if k=6 then 3 else if k=7 then(if t then 1 else 4) else if k=5 then 5 else 1
def nt:AC:=
(ay [eX 4 0] (.seq (ay [af 5 0] (.block 0 (.seq (ay [db 7 .eql 5 3,af 6 7] (.cond (.t 6) .skip (.ec [db 8 .eql 5 4,af 6 8]))) (.cond (.t 6) (ay [eX 4 2] .ret) (ay [db 10 .eql 5 6,af 9 10] (.cond (.t 9) (ay [eX 4 3] .ret) (ay [db 12 .eql 5 7,af 11 12] (.cond (.t 11) (ay [af 13 1,uk 14 13] (.cond (.t 14) (ay [eX 4 4] .ret) .skip)) (ay [db 16 .eql 5 5,af 15 16] (.cond (.t 15) (ay [eX 4 5] .ret) .skip)))))))))) (ay [eX 4 1] .ret)))
def Xg {P:Program} {G:Nat→Option (List IV)} {da:Nat} (hF:an P G da=some (17,[(none,4)],nt.bare)) (k:Int) (t:Bool):aw P G da [.int .i64 k,.bool t] (.int .i64 (lZ k t)):=by
 refine aM hF (by simp) (by simp[ah,AV.aB]) (by simp[AV.aB]) ?_;unfold nt;by_cases h3:k=3
 ·subst h3;simp only[↓aX,mX,seval,Int.reduceBEq];rfl
 by_cases h4:k=4
 ·subst h4;simp only[↓aX,mX,seval,Int.reduceBEq];rfl
 by_cases h6:k=6
 ·subst h6;simp only[↓aX,mX,seval,Int.reduceBEq];rfl
 by_cases h7:k=7
 ·subst h7;cases t
  ·simp only[↓aX,mX,seval,Int.reduceBEq,adI];rfl
  simp only[↓aX,mX,seval,Int.reduceBEq,adL];rfl
 by_cases h5:k=5
 ·subst h5;simp only[↓aX,mX,seval,Int.reduceBEq];rfl
 simp only[↓aX,mX,seval,aew.2 h3,aew.2 h4,aew.2 h6,aew.2 h7,aew.2 h5];simp only[lZ,h3,h4,h5,h6,h7,adS]
def dX (k:Int):Bool:=k==9||k==10
def aR (a b:Op):Bool:=a.target==b.target&&((dX a.kind&&dX b.kind&&a.name==b.name)||(a.kind==b.kind&&decide (6≤a.kind)&&decide (a.kind≤8)))
def lI:AC:=
(ay [oN 2 0,oN 3 1,jK 4 false] (.seq (ay [b7 6 2 1,cS 7 6,b7 8 3 1,cS 9 8,eS 10 .neq 7 9] (.cond (.t 10) (ay [jK 4 false] .ret) .skip)) (ay [b7 11 2 0,cS 12 11,db 13 .eql 12 9,af 14 13,j3 15 14 2 0,jP 16 14 15,hQ 17 14 (.bin .eql (.t 16) (ij 10)),nC 18 14 17,af 19 18,iu 20 19 3 0,ir 21 19 20,eP 22 19 (.bin .eql (.t 21) (ij 9)),eJ 23 19 22,j3 24 23 3 0,jP 25 23 24,hQ 26 23 (.bin .eql (.t 25) (ij 10)),eP 27 19 (.pick (.t 23) (vC true) (.t 26)),l7 28 19 27,af 5 28] (ay [af 29 5,af 30 29,iu 31 30 2 3,ir 32 30 31,iu 33 30 3 3,ir 34 30 33,eP 35 30 (.bin .eql (.t 32) (.t 34)),l7 36 30 35,af 37 36,j3 38 37 2 0,jP 39 37 38,j3 40 37 3 0,jP 41 37 40,hQ 42 37 (.bin .eql (.t 39) (.t 41)),gj 43 37 42,iu 44 43 2 0,ir 45 43 44,eP 46 43 (.bin .geq (.t 45) (ij 6)),hQ 47 37 (.pick (.t 43) (.t 46) (vC false)),gj 48 37 47,iu 49 48 2 0,ir 50 48 49,eP 51 48 (.bin .leq (.t 50) (ij 8)),hQ 52 37 (.pick (.t 48) (.t 51) (vC false)),nC 53 37 52,af 4 53] .ret))))
set_option maxHeartbeats 1600000 in
def OU {P:Program} {G:Nat→Option (List IV)} {dY:Nat} (hF:an P G dY=some (54,[(none,4)],lI.bare)) (a b:Op):aw P G dY [a.av,b.av] (.bool (aR a b)):=by
 refine aM hF (by simp) (by simp[ah,AV.aB,Op.av]) (by simp[AV.aB]) ?_;unfold lI;simp only[↓aX,mX,seval,Op.av,List.length_cons,List.length_nil];clear hF;cases h0:(a.target !=b.target)
 case false=>
  simp only[↓aX,mX,seval,h0,ge_iff_le,Bool.not_true,Bool.not_false,List.length_cons,List.length_nil];cases h1:(a.kind==9)
  case false=>
   simp only[↓aX,mX,seval,h0,h1,ge_iff_le,Bool.not_true,Bool.not_false,List.length_cons,List.length_nil];cases h2:(a.kind==10)
   case false=>
    simp only[↓aX,mX,seval,h0,h1,h2,ge_iff_le,Bool.not_true,Bool.not_false,List.length_cons,List.length_nil];cases h6:(a.kind==b.kind)
    case false=>
     simp only[↓aX,mX,seval,h0,h1,h2,h6,ge_iff_le,Bool.not_true,Bool.not_false,List.length_cons,List.length_nil]
     first|(simp_all[aR,dX];done)|(simp_all[aR,dX];omega)
    case true=>
     simp only[↓aX,mX,seval,h0,h1,h2,h6,ge_iff_le,Bool.not_true,Bool.not_false,List.length_cons,List.length_nil];cases h7:decide (6≤a.kind)
     case false=>
      simp only[↓aX,mX,seval,h0,h1,h2,h6,h7,ge_iff_le,Bool.not_true,Bool.not_false,List.length_cons,List.length_nil]
      first|(simp_all[aR,dX];done)|(simp_all[aR,dX];omega)
     case true=>
      simp only[↓aX,mX,seval,h0,h1,h2,h6,h7,ge_iff_le,Bool.not_true,Bool.not_false,List.length_cons,List.length_nil]
      first|(simp_all[aR,dX];done)|(simp_all[aR,dX];omega)
   case true=>
    simp only[↓aX,mX,seval,h0,h1,h2,ge_iff_le,Bool.not_true,Bool.not_false,List.length_cons,List.length_nil];cases h3:(b.kind==9)
    case false=>
     simp only[↓aX,mX,seval,h0,h1,h2,h3,ge_iff_le,Bool.not_true,Bool.not_false,List.length_cons,List.length_nil];cases h4:(b.kind==10)
     case false=>
      simp only[↓aX,mX,seval,h0,h1,h2,h3,h4,ge_iff_le,Bool.not_true,Bool.not_false,List.length_cons,List.length_nil];cases h6:(a.kind==b.kind)
      case false=>
       simp only[↓aX,mX,seval,h0,h1,h2,h3,h4,h6,ge_iff_le,Bool.not_true,Bool.not_false,List.length_cons,List.length_nil]
       first|(simp_all[aR,dX];done)|(simp_all[aR,dX];omega)
      case true=>
       simp only[↓aX,mX,seval,h0,h1,h2,h3,h4,h6,ge_iff_le,Bool.not_true,Bool.not_false,List.length_cons,List.length_nil];cases h7:decide (6≤a.kind)
       case false=>
        simp only[↓aX,mX,seval,h0,h1,h2,h3,h4,h6,h7,ge_iff_le,Bool.not_true,Bool.not_false,List.length_cons,List.length_nil]
        first|(simp_all[aR,dX];done)|(simp_all[aR,dX];omega)
       case true=>
        simp only[↓aX,mX,seval,h0,h1,h2,h3,h4,h6,h7,ge_iff_le,Bool.not_true,Bool.not_false,List.length_cons,List.length_nil]
        first|(simp_all[aR,dX];done)|(simp_all[aR,dX];omega)
     case true=>
      simp only[↓aX,mX,seval,h0,h1,h2,h3,h4,ge_iff_le,Bool.not_true,Bool.not_false,List.length_cons,List.length_nil];cases h5:(a.name==b.name)
      case false=>
       simp only[↓aX,mX,seval,h0,h1,h2,h3,h4,h5,ge_iff_le,Bool.not_true,Bool.not_false,List.length_cons,List.length_nil];cases h6:(a.kind==b.kind)
       case false=>
        simp only[↓aX,mX,seval,h0,h1,h2,h3,h4,h5,h6,ge_iff_le,Bool.not_true,Bool.not_false,List.length_cons,List.length_nil]
        first|(simp_all[aR,dX];done)|(simp_all[aR,dX];omega)
       case true=>
        simp only[↓aX,mX,seval,h0,h1,h2,h3,h4,h5,h6,ge_iff_le,Bool.not_true,Bool.not_false,List.length_cons,List.length_nil];cases h7:decide (6≤a.kind)
        case false=>
         simp only[↓aX,mX,seval,h0,h1,h2,h3,h4,h5,h6,h7,ge_iff_le,Bool.not_true,Bool.not_false,List.length_cons,List.length_nil]
         first|(simp_all[aR,dX];done)|(simp_all[aR,dX];omega)
        case true=>
         simp only[↓aX,mX,seval,h0,h1,h2,h3,h4,h5,h6,h7,ge_iff_le,Bool.not_true,Bool.not_false,List.length_cons,List.length_nil]
         first|(simp_all[aR,dX];done)|(simp_all[aR,dX];omega)
      case true=>
       simp only[↓aX,mX,seval,h0,h1,h2,h3,h4,h5,ge_iff_le,Bool.not_true,Bool.not_false,List.length_cons,List.length_nil]
       first|(simp_all[aR,dX];done)|(simp_all[aR,dX];omega)
    case true=>
     simp only[↓aX,mX,seval,h0,h1,h2,h3,ge_iff_le,Bool.not_true,Bool.not_false,List.length_cons,List.length_nil];cases h5:(a.name==b.name)
     case false=>
      simp only[↓aX,mX,seval,h0,h1,h2,h3,h5,ge_iff_le,Bool.not_true,Bool.not_false,List.length_cons,List.length_nil];cases h6:(a.kind==b.kind)
      case false=>
       simp only[↓aX,mX,seval,h0,h1,h2,h3,h5,h6,ge_iff_le,Bool.not_true,Bool.not_false,List.length_cons,List.length_nil]
       first|(simp_all[aR,dX];done)|(simp_all[aR,dX];omega)
      case true=>
       simp only[↓aX,mX,seval,h0,h1,h2,h3,h5,h6,ge_iff_le,Bool.not_true,Bool.not_false,List.length_cons,List.length_nil];cases h7:decide (6≤a.kind)
       case false=>
        simp only[↓aX,mX,seval,h0,h1,h2,h3,h5,h6,h7,ge_iff_le,Bool.not_true,Bool.not_false,List.length_cons,List.length_nil]
        first|(simp_all[aR,dX];done)|(simp_all[aR,dX];omega)
       case true=>
        simp only[↓aX,mX,seval,h0,h1,h2,h3,h5,h6,h7,ge_iff_le,Bool.not_true,Bool.not_false,List.length_cons,List.length_nil]
        first|(simp_all[aR,dX];done)|(simp_all[aR,dX];omega)
     case true=>
      simp only[↓aX,mX,seval,h0,h1,h2,h3,h5,ge_iff_le,Bool.not_true,Bool.not_false,List.length_cons,List.length_nil]
      first|(simp_all[aR,dX];done)|(simp_all[aR,dX];omega)
  case true=>
   simp only[↓aX,mX,seval,h0,h1,ge_iff_le,Bool.not_true,Bool.not_false,List.length_cons,List.length_nil];cases h3:(b.kind==9)
   case false=>
    simp only[↓aX,mX,seval,h0,h1,h3,ge_iff_le,Bool.not_true,Bool.not_false,List.length_cons,List.length_nil];cases h4:(b.kind==10)
    case false=>
     simp only[↓aX,mX,seval,h0,h1,h3,h4,ge_iff_le,Bool.not_true,Bool.not_false,List.length_cons,List.length_nil];cases h6:(a.kind==b.kind)
     case false=>
      simp only[↓aX,mX,seval,h0,h1,h3,h4,h6,ge_iff_le,Bool.not_true,Bool.not_false,List.length_cons,List.length_nil]
      first|(simp_all[aR,dX];done)|(simp_all[aR,dX];omega)
     case true=>
      simp only[↓aX,mX,seval,h0,h1,h3,h4,h6,ge_iff_le,Bool.not_true,Bool.not_false,List.length_cons,List.length_nil];cases h7:decide (6≤a.kind)
      case false=>
       simp only[↓aX,mX,seval,h0,h1,h3,h4,h6,h7,ge_iff_le,Bool.not_true,Bool.not_false,List.length_cons,List.length_nil]
       first|(simp_all[aR,dX];done)|(simp_all[aR,dX];omega)
      case true=>
       simp only[↓aX,mX,seval,h0,h1,h3,h4,h6,h7,ge_iff_le,Bool.not_true,Bool.not_false,List.length_cons,List.length_nil]
       first|(simp_all[aR,dX];done)|(simp_all[aR,dX];omega)
    case true=>
     simp only[↓aX,mX,seval,h0,h1,h3,h4,ge_iff_le,Bool.not_true,Bool.not_false,List.length_cons,List.length_nil];cases h5:(a.name==b.name)
     case false=>
      simp only[↓aX,mX,seval,h0,h1,h3,h4,h5,ge_iff_le,Bool.not_true,Bool.not_false,List.length_cons,List.length_nil];cases h6:(a.kind==b.kind)
      case false=>
       simp only[↓aX,mX,seval,h0,h1,h3,h4,h5,h6,ge_iff_le,Bool.not_true,Bool.not_false,List.length_cons,List.length_nil]
       first|(simp_all[aR,dX];done)|(simp_all[aR,dX];omega)
      case true=>
       simp only[↓aX,mX,seval,h0,h1,h3,h4,h5,h6,ge_iff_le,Bool.not_true,Bool.not_false,List.length_cons,List.length_nil];cases h7:decide (6≤a.kind)
       case false=>
        simp only[↓aX,mX,seval,h0,h1,h3,h4,h5,h6,h7,ge_iff_le,Bool.not_true,Bool.not_false,List.length_cons,List.length_nil]
        first|(simp_all[aR,dX];done)|(simp_all[aR,dX];omega)
       case true=>
        simp only[↓aX,mX,seval,h0,h1,h3,h4,h5,h6,h7,ge_iff_le,Bool.not_true,Bool.not_false,List.length_cons,List.length_nil]
        first|(simp_all[aR,dX];done)|(simp_all[aR,dX];omega)
     case true=>
      simp only[↓aX,mX,seval,h0,h1,h3,h4,h5,ge_iff_le,Bool.not_true,Bool.not_false,List.length_cons,List.length_nil]
      first|(simp_all[aR,dX];done)|(simp_all[aR,dX];omega)
   case true=>
    simp only[↓aX,mX,seval,h0,h1,h3,ge_iff_le,Bool.not_true,Bool.not_false,List.length_cons,List.length_nil];cases h5:(a.name==b.name)
    case false=>
     simp only[↓aX,mX,seval,h0,h1,h3,h5,ge_iff_le,Bool.not_true,Bool.not_false,List.length_cons,List.length_nil];cases h6:(a.kind==b.kind)
     case false=>
      simp only[↓aX,mX,seval,h0,h1,h3,h5,h6,ge_iff_le,Bool.not_true,Bool.not_false,List.length_cons,List.length_nil]
      first|(simp_all[aR,dX];done)|(simp_all[aR,dX];omega)
     case true=>
      simp only[↓aX,mX,seval,h0,h1,h3,h5,h6,ge_iff_le,Bool.not_true,Bool.not_false,List.length_cons,List.length_nil];cases h7:decide (6≤a.kind)
      case false=>
       simp only[↓aX,mX,seval,h0,h1,h3,h5,h6,h7,ge_iff_le,Bool.not_true,Bool.not_false,List.length_cons,List.length_nil]
       first|(simp_all[aR,dX];done)|(simp_all[aR,dX];omega)
      case true=>
       simp only[↓aX,mX,seval,h0,h1,h3,h5,h6,h7,ge_iff_le,Bool.not_true,Bool.not_false,List.length_cons,List.length_nil]
       first|(simp_all[aR,dX];done)|(simp_all[aR,dX];omega)
    case true=>
     simp only[↓aX,mX,seval,h0,h1,h3,h5,ge_iff_le,Bool.not_true,Bool.not_false,List.length_cons,List.length_nil]
     first|(simp_all[aR,dX];done)|(simp_all[aR,dX];omega)
 case true=>
  simp only[↓aX,mX,seval,h0,ge_iff_le,Bool.not_true,Bool.not_false,List.length_cons,List.length_nil]
  first|(simp_all[aR,dX];done)|(simp_all[aR,dX];omega)

def lS (as:List Attr) (o:Op):List Attr:=
 if o.kind=10 then(if tV as o.name then as.take (iU as o.name)++as.drop (iU as o.name+1) else as)
 else if tV as o.name then as.set (iU as o.name) ⟨o.name,o.s⟩ else as.take (iU as o.name)++[⟨o.name,o.s⟩]++as.drop (iU as o.name)
def Bn.attr (b:Bn) (n:Nat) (o:Op):Bn:=match b.nodes[n]? with
 |some x=>b.set n {x with attrs:=lS x.attrs o}
 |none=>b
def JM (as:List Attr) (key:Bs):iU as key≤as.length:=by unfold iU;exact(List.takeWhile_sublist _).length_le
def Bf {as:List Attr} {key:Bs} (h:tV as key=true):∃a,as[iU as key]?=some a∧a.name=key:=by
 unfold tV at h;split at h
 ·rename_i a ha;exact⟨a,ha,by simpa using h⟩
 cases h
def FV {α:Type} {l:List α} {n:Nat} {v:α} (h:l[n]?=some v):l.set n v=l:=by
 obtain⟨h1,rfl⟩:=ag6.1 h;exact List.set_getElem_self h1
def OV {as:List Attr} {i:Nat} {a:Attr} (h:as[i]?=some a):(ar (dA as))[i]?=some [.str a.name,.str a.val]:=by
 simp[ar,dA,h,Attr.iv,Attr.cs,IV.cells,IV.gK]
def OW (as:List Attr) (i:Nat) (a:Attr):(ar (dA as)).set i [.str a.name,.str a.val]=ar (dA (as.set i a)):=by
 simp[ar,dA,af2,Attr.iv,Attr.cs,IV.cells,IV.gK]
def aaG (P:Program) (G:Nat→Option (List IV)) (f:Nat):Prop:=∀(xs vs:List Attr) (i:Nat),i≤xs.length→xs.length+vs.length≤B →
 va P G 2 f [.sl (.par 0) 2 0 xs.length,.int .i64 i,.list (dA vs)] (dA xs) (dA (xs.take i++vs++xs.drop i))
def aaH (P:Program) (G:Nat→Option (List IV)) (f:Nat):Prop:=∀(xs:List Attr) (i:Nat),i<xs.length→xs.length≤B →
 va P G 2 f [.sl (.par 0) 2 0 xs.length,.int .i64 i,.int .i64 ((i+1:Nat):Int)] (dA xs) (dA (xs.take i++xs.drop (i+1)))
section
variable {P:Program} {G:Nat→Option (List IV)}
def jO (aO cd bj bm:Nat):AC:=
(ay [oN 3 1] (.seq (.fg [af 7 0,aE 8 (.dc (.t 7)),b7 9 8 0,cS 10 9,b7 11 3 1,cS 12 11,ig 13 10 12 5,af 4 13] [[],[0],[1],[2],[],[4],[3,5],[6,0,1,2,3,4,5,6]] [.no,.no,.no,(.rw [(.par 0)] []),.no,.rw [.loc 3] [],.no,.no]) (.seq (.fg [af 15 4,aE 16 (.dc (.t 15)),b7 17 16 2,cS 18 17,b7 19 3 3,cS 20 19,aE 21 (.call aO [(.t 18),(.t 20),(.c (.fn cd [] []))]),af 14 21,gQ 22 14 0,gQ 23 14 1,af 5 22,af 6 23] [[],[0],[1],[2],[],[4],[3,5],[6],[7],[7],[8,6,0,1,2,3,4,5,6,7,8],[9,10,0,1,2,3,4,5,6,7,8,9,10]] [.no,.no,.no,(.rw [(.par 1)] []),.no,.rw [.loc 3] [],(.vj []),.no,.no,.no,.no,.no]) (.block 0 (ay [b7 25 3 0,cS 26 25,db 27 .eql 26 10,af 28 27,eJ 29 28 6,l7 30 28 29,af 24 30] (.cond (.t 24) (.ec [af 31 4,af 32 4,aE 33 (.dc (.t 32)),b7 34 33 2,cS 35 34,af 36 5,af 37 5,db 38 .add 37 1,aE 39 (.call bj [(.t 35),(.t 36),(.t 38)]),aE 40 (.dc (.t 31)),b7 41 40 2,dT (.store 1 (.t 41) (.t 39))]) (ay [b7 43 3 0,cS 44 43,db 45 .eql 44 9,af 46 45,eJ 47 46 6,l7 48 46 47,af 42 48] (.cond (.t 42) (.fg [af 49 4,aE 50 (.dc (.t 49)),b7 51 50 2,cS 52 51,af 53 5,b7 54 3 4,cS 55 54,ig 56 52 53 2,b7 57 56 1,dT (.store 1 (.t 57) (.t 55))] [[],[0],[1],[2],[],[],[5],[3,4,0,1,2,3,4,5,6],[7,0,1,2,3,4,5,6],[8,6,0,1,2,3,4,5,6]] [.no,.no,.no,(.rw [(.par 1)] []),.no,.no,.rw [.loc 3] [],.no,.no,.all]) (ay [b7 59 3 0,cS 60 59,db 61 .eql 60 9,af 58 61] (.cond (.t 58) (.fg [af 62 4,af 63 4,aE 64 (.dc (.t 63)),b7 65 64 2,cS 66 65,af 67 5,b7 68 3 3,cS 69 68,b7 70 3 4,cS 71 70,aE 72 (.oa [(.str []),(.str [])] [(0,(1,(.t 69))),(1,(1,(.t 71)))]),aE 73 (.lits 1 2 [(.str []),(.str [])] [(0,(.t 72))]),aE 74 (.call bm [(.t 66),(.t 67),(.t 73)]),aE 75 (.dc (.t 62)),b7 76 75 2,dT (.store 1 (.t 76) (.t 74))] [[],[],[1],[2],[3],[],[],[6],[],[8],[7,9],[10],[4,5,11],[0,0,1,2,3,4,5,6,7,8,9,10,11,12],[13,0,1,2,3,4,5,6,7,8,9,10,11,12],[14,12,12,0,1,2,3,4,5,6,7,8,9,10,11,12]] [.no,.no,.no,.no,(.rw [(.par 1)] []),.no,.no,.rw [.loc 3] [],.no,.rw [.loc 3] [],.no,.no,(.vj []),.no,.no,(.rw [] [(.par 1)])]) .skip))))))))))
set_option maxRecDepth 20000 in
def aaI {aG aO cd bj bm:Nat} (hF:an P G aG=some (77,[],(jO aO cd bj bm).bare)) (b:Bn) (n:Nat) (hp:n<b.n0) (x:Node) (hx:b.nodes[n]?=some x)
  (o:Op) (ht:o.target=n) (hk:o.kind=9∨o.kind=10) (hb:x.attrs.length+1≤B) (hS:aw P G aO [.list (dA x.attrs),.str o.name,.fn cd [] []] (.dM [.int .i64 (iU x.attrs o.name),.bool (tV x.attrs o.name)]))
  (hI:aaG P G bm) (hD:aaH P G bj) :
  uO P G aG [.ptr (.par 0) 3 0 0,o.av] (dP b) (b.Mz (4+2*n)) fun X R2=>X=(fun _=> .dM [])∧R2=dP (b.attr n o):=by
 refine gY hF (by simp) (by simp[ah,AV.aB,bd,Op.av];omega) ?_;have gz:cR Lb.par b (je (dP b)):=jg _;have hU:∀q:Lb,(∀p,p<4+2*b.n0→q≠ .par p)→je (dP b) q= .unused:=fun q hq=>gx _ fun p hp e=>hq p (bd.1 hp) e.symm;have h3:je (dP b) (.loc 3)= .unused:=hU _ (by simp);have h39:je (dP b) (.gen 39)= .unused:=hU _ (by simp);have h74:je (dP b) (.gen 74)= .unused:=hU _ (by simp);have hlen:n<b.nodes.length:=(List.getElem?_eq_some_iff.1 hx).1;have nM:B=1073741824:=rfl;have vz:=eO (n0:=b.n0) (lab:=Lb.par) (x:=x) hp;have dO:=gz.get hx;rw[vz] at dO;have qC:=gz.at' hp hx;unfold jO;simp only[↓aX,mX,seval,Op.av,ht,h3,gz.s,gz.n,hlen,List.length_mapIdx,Int.natCast_nonneg,Int.toNat_natCast,and_self,true_and,Nat.zero_add,dO];refine⟨rfl,rfl,?_⟩;refine NJ hS (.cons (FQ (by rw[ax _ _ (by simp)];exact qC) (ri _) (by simp[bQ])) (.cons (.same _) (.cons (.same _) .nil))) rfl ?_;have EA:=JM x.attrs o.name;have hw:IntKind.i64.wrap ((iU x.attrs o.name:Int)+1)=((iU x.attrs o.name+1:Nat):Int):=wrap64 (by omega) (by omega);have GK:IntKind.i64.wrap ((iU x.attrs o.name:Int)+1)=((iU x.attrs o.name+1:Nat):Int):=hw;simp only[↓aX,mX,seval,Op.av,ht,h3,gz.s,gz.n,hlen,List.length_mapIdx,Int.natCast_nonneg,Int.toNat_natCast,and_self,true_and,Nat.zero_add,dO];have acu:b.attr n o=b.set n {x with attrs:=lS x.attrs o}:=by unfold Bn.attr;rw[hx]
 have hb3:cR Lb.par b (bF (je (dP b)) (.loc 3) (.live ⟨5,[[.int .i64 o.kind,.int .i64 n,.list (eR o.content),.str o.name,.str o.s]]⟩)):=gz.n6 (by simp);have key:∀(N:Lb) (ys:List Attr),lS x.attrs o=ys→(N= .par (4+2*n)∨N= .gen 39∨N= .gen 74)→∀H2:Hp,H2 (.par 1)= .live ⟨5,(b.nodes.mapIdx (dN b.n0 Lb.par)).set n [.bool x.text,.str x.s,.sl N 2 0 ys.length,.int .i64 x.parent,.sl (.par (5+2*n)) 1 0 x.kids.length]⟩ →
   H2 N= .live ⟨2,ar (dA ys)⟩→(∀q,q≠ .par 1→q≠N→q≠ .par (4+2*n)→q≠ .loc 3→H2 q=je (dP b) q) →
   ∃t:((Nat→Lb)→AV)×qx×(Nat→Lb),(t.1=(fun _=> .dM [])∧t.2.1=dP (b.attr n o))∧(∀ρ,e7 ρ (t.1 t.2.2)=t.1 fun i=>ρ (t.2.2 i))∧(∀l∈(AV.dM []).aB,∃p,t.2.1.ok p∧l=t.2.2 p)∧AV.dM []=t.1 t.2.2∧nZ t.2.2 t.2.1 H2∧∀p'∈b.Mz (4+2*n),t.2.2 p'= .par p':=by
  intro N ys zf hN H2 e1 e2 e3;refine⟨⟨fun _=> .dM [],dP (b.attr n o),fun p'=>if p'=4+2*n then N else .par p'⟩,⟨rfl,rfl⟩,fun ρ=>by simp[e7,aY],by simp[AV.aB,ah],rfl,?_,?_⟩
  ·rw[acu,zf];have hN3:∀p',(if p'=4+2*n then N else Lb.par p')≠ .loc 3:=by
    intro p';split
    ·rcases hN with rfl|rfl|rfl<;>simp
    simp
   have:=cR.mU (H2:=fun q=>if q= .loc 3 then je (dP b) q else H2 q) gz (N:=N) (ys:=ys) hp hx (by
    rcases hN with rfl|rfl|rfl
    ·exact .inl rfl
    ·exact .inr (by simp)
    ·exact .inr (by simp)) (by simp[e1]) (by rw[if_neg (by rcases hN with rfl|rfl|rfl<;>simp)];exact e2) (by
    intro q g1 g2 g3;by_cases g4:q= .loc 3
    ·simp[g4]
    simp only[g4,if_false];exact e3 q g1 g2 g3 g4)
   refine⟨fun q r hr=> ?_,this.inj⟩;have h1:=this.row q r hr;exact(if_neg (hN3 q)).symm.trans h1
  intro p' iJ;exact if_neg (kJ.1 iJ).2
 have Yz:¬(1:Nat)=4+2*n:=by omega
 have acv:∀P Q:List Attr,(if(9:Int)=10 then P else Q)=Q:=fun _ _=>if_neg (by decide);rcases hk with hk|hk
 ·simp only[↓aX,mX,seval,hk,Int.reduceBEq,ht,h3,gz.s,gz.n,hlen,List.length_mapIdx,Int.natCast_nonneg,Int.toNat_natCast,and_self,true_and,Nat.zero_add,dO];refine qG (fun h=> ?_) (fun h=> ?_)
  ·obtain⟨a,ha,hn⟩:=Bf h;have W4:iU x.attrs o.name<x.attrs.length:=(List.getElem?_eq_some_iff.1 ha).1;simp only[↓aX,mX,seval,hk,h,Int.reduceBEq,ht,h3,gz.s,gz.n,hlen,List.length_mapIdx,Int.natCast_nonneg,Int.toNat_natCast,and_self,true_and,Nat.zero_add,dO];refine⟨rfl,?_⟩;have acw:=OV ha;simp only[↓aX,mX,seval,W4,h3,qC,acw];rw[iM];refine⟨[],rfl,key (.par (4+2*n)) (x.attrs.set (iU x.attrs o.name) ⟨o.name,o.s⟩) ?_ (.inl rfl) _ ?_ ?_ ?_⟩
   ·simp only[lS,hk,acv,h,if_true]
   ·rw[List.length_set,FV dO];simp[ae,gz.n,Yz]
   ·rw[ae,if_pos rfl,←OW,hn]
   intro q g1 g2 g3 g4;simp[ae,g3,g4]
  simp only[↓aX,mX,seval,hk,h,Int.reduceBEq,ht,h3,gz.s,gz.n,hlen,List.length_mapIdx,Int.natCast_nonneg,Int.toNat_natCast,and_self,true_and,Nat.zero_add,dO];refine⟨rfl,?_⟩;refine w9 (l:= .par (4+2*n)) (N:= .gen 74) (hI x.attrs [⟨o.name,o.s⟩] (iU x.attrs o.name) EA (by simp;omega)) rfl (by rw[ax _ _ (by simp)];exact qC) (by rw[ax _ _ (by simp)];exact h74) (by simp[Lb.fresh]) (by simp) (by simp) ?_ ?_
  ·simp only[↓aX,mX,seval,hk,h,Int.reduceBEq,ht,h3,gz.s,gz.n,hlen,List.length_mapIdx,Int.natCast_nonneg,Int.toNat_natCast,and_self,true_and,Nat.zero_add,dO,bQ,Yz];rw[iM];refine⟨[],rfl,key (.gen 74) (x.attrs.take (iU x.attrs o.name)++[⟨o.name,o.s⟩]++x.attrs.drop (iU x.attrs o.name)) ?_ (.inr (.inr rfl)) _ ?_ ?_ ?_⟩
   ·simp[lS,hk,h]
   ·simp[ae]
   ·simp[ae]
   intro q g1 g2 g3 g4;simp[ae,g1,g2,g3,g4]
  simp only[↓aX,mX,seval,hk,h,Int.reduceBEq,ht,h3,gz.s,gz.n,hlen,List.length_mapIdx,Int.natCast_nonneg,Int.toNat_natCast,and_self,true_and,Nat.zero_add,dO,bQ,Yz];rw[iM];refine⟨[],rfl,key (.par (4+2*n)) (x.attrs.take (iU x.attrs o.name)++[⟨o.name,o.s⟩]++x.attrs.drop (iU x.attrs o.name)) ?_ (.inl rfl) _ ?_ ?_ ?_⟩
  ·simp[lS,hk,h]
  ·simp[ae]
  ·simp[ae];omega
  intro q g1 g2 g3 g4;simp[ae,g1,g3,g4]
 simp only[↓aX,mX,seval,hk,Int.reduceBEq,ht,h3,gz.s,gz.n,hlen,List.length_mapIdx,Int.natCast_nonneg,Int.toNat_natCast,and_self,true_and,Nat.zero_add,dO];refine qG (fun h=> ?_) (fun h=> ?_)
 ·obtain⟨a,ha,hn⟩:=Bf h;have W4:iU x.attrs o.name<x.attrs.length:=(List.getElem?_eq_some_iff.1 ha).1;simp only[↓aX,mX,seval,hw,h,Int.reduceBEq,ht,h3,gz.s,gz.n,hlen,List.length_mapIdx,Int.natCast_nonneg,Int.toNat_natCast,and_self,true_and,Nat.zero_add,dO];refine uM (l:= .par (4+2*n)) (N:= .gen 39) (hD x.attrs (iU x.attrs o.name) W4 (by omega)) rfl (by rw[ax _ _ (by simp)];exact qC) (by rw[ax _ _ (by simp)];exact h39) (by simp[Lb.fresh]) ?_ ?_
  ·simp only[↓aX,mX,seval,hk,h,Int.reduceBEq,ht,h3,gz.s,gz.n,hlen,List.length_mapIdx,Int.natCast_nonneg,Int.toNat_natCast,and_self,true_and,Nat.zero_add,dO,bQ,Yz];rw[iM];refine⟨[],rfl,key (.gen 39) (x.attrs.take (iU x.attrs o.name)++x.attrs.drop (iU x.attrs o.name+1)) ?_ (.inr (.inl rfl)) _ ?_ ?_ ?_⟩
   ·simp[lS,hk,h]
   ·simp[ae]
   ·simp[ae]
   intro q g1 g2 g3 g4;simp[ae,g1,g2,g3,g4]
  simp only[↓aX,mX,seval,hk,h,Int.reduceBEq,ht,h3,gz.s,gz.n,hlen,List.length_mapIdx,Int.natCast_nonneg,Int.toNat_natCast,and_self,true_and,Nat.zero_add,dO,bQ,Yz];rw[iM];refine⟨[],rfl,key (.par (4+2*n)) (x.attrs.take (iU x.attrs o.name)++x.attrs.drop (iU x.attrs o.name+1)) ?_ (.inl rfl) _ ?_ ?_ ?_⟩
  ·simp[lS,hk,h]
  ·simp[ae]
  ·simp[ae];omega
  intro q g1 g2 g3 g4;simp[ae,g1,g3,g4]
 simp only[↓aX,mX,seval,hk,h,Int.reduceBEq,ht,h3,gz.s,gz.n,hlen,List.length_mapIdx,Int.natCast_nonneg,Int.toNat_natCast,and_self,true_and,Nat.zero_add,dO];rw[iM];refine⟨[],rfl,key (.par (4+2*n)) x.attrs ?_ (.inl rfl) _ ?_ ?_ ?_⟩
 ·simp[lS,hk,h]
 ·rw[FV dO];simp[ae,gz.n,Yz]
 ·simp[ae,qC]
 intro q g1 g2 g3 g4;simp[ae,g4]
end

def LC (as:List Attr) (k v:Bs):List Attr:=as.filter (fun a=>Op.bytesLess a.name k)++⟨k,v⟩::as.filter (fun a=>Op.bytesLess k a.name)
def CY (as:List Attr) (k:Bs):List Attr:=as.filter (fun a=>Op.bytesLess a.name k)++as.filter (fun a=>Op.bytesLess k a.name)
theorem zI:∀{as:List Attr},j5 as=true↔as.Pairwise fun a b=>Op.bytesLess a.name b.name=true
 |[]=>by simp[j5]
 |a::r=>by
  rw[afh];constructor
  ·intro h;exact⟨rX h,zI.1 (pr h)⟩
  rintro⟨h1,h2⟩;cases r with
  |nil=>rfl
  |cons b r=>simp only[j5,ady];exact⟨h1 b (by simp),zI.2 h2⟩
theorem CZ {key:Bs}:∀{as:List Attr},j5 as=true→as.take (iU as key)=as.filter (fun a=>Op.bytesLess a.name key) ∧
  (tV as key=true→as.drop (iU as key+1)=as.filter (fun a=>Op.bytesLess key a.name))∧(tV as key=false→as.drop (iU as key)=as.filter (fun a=>Op.bytesLess key a.name))
 |[],_=>by simp[iU,tV]
 |a::r,h=>by
  have ht:=pr h;have bO:=rX h;obtain⟨i1,i2,i3⟩:=CZ (key:=key) ht;cases h1:Op.bytesLess a.name key with
  |true=>
   have hp:iU (a::r) key=iU r key+1:=(by simp[iU,afW,h1]);have hh:tV (a::r) key=tV r key:=(by unfold tV;rw[hp];simp);rw[hp,hh];refine⟨by rw[aeF,i1];simp[aeo,h1],fun hq=> ?_,fun hq=> ?_⟩
   ·rw[aet,i2 hq,afI (by rw[zE h1];simp)]
   rw[aet,i3 hq,afI (by rw[zE h1];simp)]
  |false=>
  have hp:iU (a::r) key=0:=by simp[iU,afW,h1]
  have xy:∀b∈r,Op.bytesLess b.name key=false:=fun b hb=>by
   cases hq:Op.bytesLess b.name key with
   |false=>rfl
   |true=>rw[sR (bO b hb) hq] at h1;cases h1
  have B7:∀b∈r,Op.bytesLess key b.name=true:=fun b hb=>by
   rcases AN key a.name with h2|h2|h2
   ·exact sR h2 (bO b hb)
   ·rw[h2];exact bO b hb
   rw[h2] at h1;cases h1
  have Yj:(a::r).filter (fun a=>Op.bytesLess a.name key)=[]:=by
   rw[aeI];intro b hb;rcases adz.1 hb with rfl|hb
   ·rw[h1];simp
   rw[xy b hb];simp
  have GJ:r.filter (fun a=>Op.bytesLess key a.name)=r:=agX.2 B7;have hh:tV (a::r) key=(a.name==key):=by unfold tV;rw[hp];simp
  rw[hp,hh];refine⟨by rw[Yj];rfl,fun hq=> ?_,fun hq=> ?_⟩
  ·have e:a.name=key:=(by simpa using hq);simp only[aeo,e,vW,adQ,adS,GJ,aet,ad1]
  have e:a.name≠key:=by simpa using hq
  have:Op.bytesLess key a.name=true:=by
   rcases AN key a.name with h2|h2|h2
   ·exact h2
   ·exact absurd h2.symm e
   rw[h2] at h1;cases h1
  simp only[aeo,this,adH,GJ,ad1]
def tX {as:List Attr} (h:j5 as=true) (o:Op):lS as o=if o.kind=10 then CY as o.name else LC as o.name o.s:=by
 obtain⟨i1,i2,i3⟩:=CZ (key:=o.name) h;unfold lS CY LC;cases hh:tV as o.name with
 |true=>
  obtain⟨a,ha,hn⟩:=Bf hh;have bO:=(ag6.1 ha).1;have oV:as.set (iU as o.name) ⟨o.name,o.s⟩=as.take (iU as o.name)++⟨o.name,o.s⟩::as.drop (iU as o.name+1):=afE.trans (adv bO);simp only[adH];rw[oV,i1,i2 hh]
 |false=>
 simp only[adQ,adS];rw[i1,i3 hh];split
 ·rw[←i1,←i3 hh,ad0]
 simp
def OX {as:List Attr} (h:j5 as=true) (k v:Bs):j5 (LC as k v)=true:=by
 rw[zI] at h ⊢;unfold LC;rw[ae4,afh];refine⟨h.filter _,⟨fun b hb=> ?_,h.filter _⟩,fun a ha b hb=> ?_⟩
 ·exact(aey.1 hb).2
 have h1:=(aey.1 ha).2;rcases adz.1 hb with rfl|hb
 ·exact h1
 exact sR h1 (aey.1 hb).2
def LD {as:List Attr} (h:j5 as=true) (k:Bs):j5 (CY as k)=true:=by
 rw[zI] at h ⊢;unfold CY;rw[ae4];exact⟨h.filter _,h.filter _,fun a ha b hb=>sR (aey.1 ha).2 (aey.1 hb).2⟩
def n7 {as:List Attr} (h:j5 as=true) (o:Op):j5 (lS as o)=true:=by
 rw[tX h];split
 ·exact LD h _
 exact OX h _ _
def LF (as:List Attr) (o:Op):(lS as o).length≤as.length+1:=by
 have:=JM as o.name;unfold lS;split
 ·split
  ·simp;omega
  omega
 split
 ·simp
 simp;omega

def yW {S:St} {env:Env} {H:Hp} {q N:Lb} {sq i j sz:Nat} {els:List (List AV)} {cs:List AV} (g1:H q= .live ⟨sq,els⟩) (g0:els[i]?=some cs) (g2:cs[j]?=some .nil0) (g3:H N= .unused) (g4:0<sz) :
  nb S env H env (bF (bF H N (.live ⟨sz,[]⟩)) q (.live ⟨sq,els.set i (cs.set j (.sl N sz 0 0))⟩)):=by
 intro K β a w Zp hS hr;have hk:=hr.s9 N g3 (r:=⟨sz,[]⟩) (Below.refl _ _) none (by simp) (by simp) ⟨g4,by simp,by simp⟩;have Wv:q≠N:=by rintro rfl;rw[g1] at g3;cases g3
 have hq:bF H N (.live ⟨sz,[]⟩) q= .live ⟨sq,els⟩:=by rw[ax _ _ Wv];exact g1
 have hlen:=(hr.rows q _ g1).2.1;have ZX:bF β N none q=β q:=ax _ _ Wv;have qV:i<els.length:=(ag6.1 g0).1;cases hb:β q with
 |none=>
  have:=(hr.rows q _ g1).2.2;simp only[hb] at this;rw[this] at qV;simp at qV
 |some g=>
 obtain⟨cur,e0,cap,k1,k2,k3,k4,k5⟩:=(hk.rows q _ hq).block (ZX.trans hb);have wu:j<cs.length:=(ag6.1 g2).1;have oV:=hk.setRow q (r':=⟨sq,els.set i (cs.set j (.sl N sz 0 0))⟩) (cur':=cur) (cap:=cap) hq (ZX.trans hb) k1 rfl rfl k2 k3 (by simpa using k4) (by
   intro ds ED;rcases aeY ED with h|rfl
   ·exact hlen ds h
   simpa using hlen cs (adu g0))
  (by
   intro ds ED p hp;rcases aeY ED with h|rfl
   ·exact hk.fk q _ hq ds h p hp
   obtain⟨y,hy,Qs⟩:=Az hp;rcases aeY hy with hy|rfl
   ·obtain⟨m,hm⟩:=aeh hy;exact hk.fk q _ hq cs (adu g0) p (gL _ _ _ hm p Qs)
   simp only[AV.aB,adr] at Qs;subst Qs;simp)
  (by
   intro i' j' ds x0 jz oO;by_cases ei:i'=i
   ·subst ei;simp only at jz;rw[aeA qV] at jz;cases jz;by_cases e:j'=j
    ·subst e;rw[aeA wu] at oO;cases oO;obtain⟨v,q1,q2⟩:=k5 i' j' cs _ g0 g2;simp only[RV] at q2;obtain⟨ad,rfl⟩:=q2;refine⟨_,q1,?_⟩;simp only[RV];exact⟨ad,0,rfl,adw _,by simp[maxLen],by simp,fun _=> .inl rfl⟩
    rw[aeH (aef e)] at oO;exact k5 i' j' cs x0 g0 oO
   simp only at jz;rw[aeH (aef ei)] at jz;exact k5 i' j' ds x0 jz oO)
 have fH:w.setRow g cur=w:=setRow_self w g cur e0 (0,0) k1;rw[fH] at oV;exact⟨_,oV⟩

def LG (s:Bs):Tree:= .mk true s [] []
def H5 (s:Bs):(LG s).wt=1+s.length:=by simp[LG,Tree.wt,j0,er]
def Bn.value (b:Bn) (n:Nat) (s:Bs):Bn:=match b.nodes[n]? with
 |some x=>if x.text then b.set n {x with s:=s} else(b.set n {x with kids:=[]}).ins n 0 [LG s]
 |none=>b
def BX (P:Program) (G:Nat→Option (List IV)) (f:Nat):Prop:=∀(b:Bn),b.n0≤b.nodes.length→∀(p pl:Nat),p<b.n0→∀(x:Node),b.nodes[p]?=some x→pl≤x.kids.length →
 ∀(l:List Tree),b.nodes.length+er l≤B→x.kids.length+l.length≤B →
 uO P G f [.ptr (.par 0) 3 0 0,.int .i64 p,.int .i64 pl,.list (eR l)] (dP b) (b.H4 1 (5+2*p)) fun X R2=>X=(fun _=> .dM [])∧R2=dP (b.ins p pl l)
section
variable {P:Program} {G:Nat→Option (List IV)}
def jy (ak:Nat):AC:=
(.seq (ay [af 6 0,aE 7 (.dc (.t 6)),b7 8 7 0,cS 9 8,af 10 1,ig 11 9 10 5,b7 12 11 0,cS 13 12] (.cond (.t 13) (ay [af 14 0,aE 15 (.dc (.t 14)),b7 16 15 0,cS 17 16,af 18 1,af 19 2,ig 20 17 18 5,b7 21 20 1,dT (.store 1 (.t 21) (.t 19))] .ret) .skip)) (ay [af 22 0,aE 23 (.dc (.t 22)),b7 24 23 0,cS 25 24,af 26 1,ig 27 25 26 5,b7 28 27 4,dT (.store 1 (.t 28) (.c .nil0))] (.gh .xD (.ec [af 29 0,af 30 1,af 31 2,aE 32 (.oa [(.bool false),(.str []),.nil0,.nil0] [(0,(1,(vC true))),(1,(1,(.t 31)))]),aE 33 (.lits 1 4 [(.bool false),(.str []),.nil0,.nil0] [(0,(.t 32))]),aE 34 (.call ak [(.t 29),(.t 30),(ij 0),(.t 33)])]))))
def Xh {aD ak:Nat} (hF:an P G aD=some (35,[],(jy ak).bare)) (b:Bn) (hn:b.n0≤b.nodes.length) (n:Nat) (hp:n<b.n0) (x:Node) (hx:b.nodes[n]?=some x) (s:Bs) (hb:b.nodes.length+1+s.length≤B)
  (hI:BX P G ak) :
  uO P G aD [.ptr (.par 0) 3 0 0,.int .i64 n,.str s] (dP b) (b.H4 1 (5+2*n)) fun X R2=>X=(fun _=> .dM [])∧R2=dP (b.value n s):=by
 refine gY hF (by simp) (by simp[ah,AV.aB,bd,Tree.av];omega) ?_;have gz:cR Lb.par b (je (dP b)):=jg _;have hU:∀q:Lb,(∀p,p<4+2*b.n0→q≠ .par p)→je (dP b) q= .unused:=fun q hq=>gx _ fun p hp e=>hq p (bd.1 hp) e.symm;have hg:je (dP b) (.gen 77)= .unused:=hU _ (by simp);have hgN:∀l,je (dP b) (NC 9 l)= .unused:=fun l=>hU _ (by simp[NC]);have hlen:n<b.nodes.length:=by omega
 have nM:B=1073741824:=rfl;have vz:=eO (n0:=b.n0) (lab:=Lb.par) (x:=x) hp;have dO:=gz.get hx;rw[vz] at dO;unfold jy;simp only[↓aX,mX,seval,gz.s,gz.n,hlen,adZ,adt,ag9,ad8,adF,adC,dO];refine qG (fun h=> ?_) (fun h=> ?_)
 ·simp only[↓aX,mX,seval,gz.s,gz.n,hlen,adZ,adt,ag9,ad8,adF,adC,dO];rw[Cj];refine⟨[],rfl,⟨fun _=> .dM [],dP (b.set n {x with s:=s}),Lb.par⟩,⟨rfl,by unfold Bn.value;rw[hx];simp only[h,adH]⟩,fun ρ=>by simp[e7,aY],by simp[jf,AV.aB,ah],rfl,?_,fun _ _=>rfl⟩;refine cR.aas gz hx ?_ (fun q hq=>by rw[ax _ _ hq]);rw[ae,adv rfl,eO hp]
 simp only[↓aX,mX,seval,gz.s,gz.n,hlen,adZ,adt,ag9,ad8,adF,adC,dO,rS];refine⟨_,_,yW (q:= .par 1) (N:= .gen 77) (i:=n) (j:=4) (sz:=1) (by rw[ae,adv rfl]) (aeA (by rw[adZ];exact hlen)) rfl (by rw[ax _ _ (by simp)];exact hg) (by decide),?_⟩;simp only[↓aX,mX,seval];have oV:((b.nodes.mapIdx (dN b.n0 Lb.par)).set n [.bool x.text,.str x.s,.sl (.par (4+2*n)) 2 0 x.attrs.length,.int .i64 x.parent,.nil0]).set n [.bool x.text,.str x.s,.sl (.par (4+2*n)) 2 0 x.attrs.length,.int .i64 x.parent,.sl (.gen 77) 1 0 0] =
   (b.nodes.mapIdx (dN b.n0 Lb.par)).set n [.bool x.text,.str x.s,.sl (.par (4+2*n)) 2 0 x.attrs.length,.int .i64 x.parent,.sl (.gen 77) 1 0 0]:=List.set_set ..
 have hB:∀H2:Hp,H2 (.par 1)= .live ⟨5,(b.nodes.mapIdx (dN b.n0 Lb.par)).set n [.bool x.text,.str x.s,.sl (.par (4+2*n)) 2 0 x.attrs.length,.int .i64 x.parent,.sl (.gen 77) 1 0 0]⟩→H2 (.gen 77)= .live ⟨1,[]⟩ →
   (∀q,q≠ .par 1→q≠ .gen 77→q≠ .par (5+2*n)→H2 q=je (dP b) q)→cR (fun p=>if p=5+2*n then .gen 77 else Lb.par p) (b.set n {x with kids:=[]}) H2:=fun H2 e1 e2 e3=>
  cR.Sl gz hp hx (.inr (by simp)) e1 (by rw[e2];rfl) e3
 refine lk (lab:=fun p=>if p=5+2*n then .gen 77 else Lb.par p) (N:=NC 9) (hI (b.set n {x with kids:=[]}) (by simp[Bn.set];exact hn) n 0 hp {x with kids:=[]} (by simp[Bn.set,hlen]) (by simp) [LG s] (by simp[Bn.set,er,H5];omega) (by simp;omega)) ?_ ?_ ?_ (tM 9) (fun l h=> .inl h) (fun p' iJ=>bd.2 (mi.1 iJ).1) ?_
 ·have:¬0=5+2*n:=by omega
  simp[aY,e7,A6,LG,eR,Tree.iv,dA,this]
 ·refine hB _ ?_ ?_ ?_
  ·simp[ae]
  ·simp[ae]
  intro q g1 g2 g3;simp[ae,g1,g2]
 ·intro l;simp[ae,NC];exact hgN l
 rintro X R2 et H2 ⟨rfl,rfl⟩ g1 g2 g3 g4 g5 g6;simp only[↓aX,mX,seval];rw[iM];refine⟨[],rfl,⟨fun _=> .dM [],_,et⟩,⟨rfl,?_⟩,fun ρ=>by simp[e7,aY],by simp[jf,AV.aB,ah],rfl,g1,?_⟩
 ·have ff:¬(x.text=true):=by rw[h];decide
  unfold Bn.value;rw[hx];show _=dP (if x.text=true then _ else _);rw[ag8 ff];rfl
 intro p' iJ;have h1:=mi.1 iJ;exact(g2 p' (mi.2 h1)).trans (ag8 h1.2.2)
end
end Go.Am
