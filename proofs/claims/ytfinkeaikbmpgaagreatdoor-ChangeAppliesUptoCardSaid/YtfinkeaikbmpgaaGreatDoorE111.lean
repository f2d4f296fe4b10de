import Derived.Test.YtfinkeaikbmpgaaGreatDoorE109
import Derived.Test.YtfinkeaikbmpgaaGreatDoorE110
import Derived.Test.YtfinkeaikbmpgaaGreatDoorE106
import Derived.Test.YtfinkeaikbmpgaaGreatDoorKT94
import Derived.Test.YtfinkeaikbmpgaaGreatDoorKT164
set_option linter.unusedSimpArgs false
set_option linter.unusedVariables false
set_option linter.unnecessarySimpa false
set_option linter.defProp false
/- The law ChangeApplies in this seat. -/
namespace Go.Proofs.YtfinkeaikbmpgaaGreatDoor
open Go Go.Am Go.ChangeShapes
set_option maxRecDepth 100000
variable {mm:Int}
noncomputable def tyO:TyO Tryz.prog Ln where
 tI:=3
 tO:=61
 tOs:=54
 fO:=rz Tryz.prog 61
 uI:=by kernel_rfl
 uO:=by kernel_rfl
 uOs:=by kernel_rfl
 sO:=by kernel_rfl
def agk:List TypeId:=[54,61,45,47,44,89,4,9,3,28,26,85,64]
def aim:∀t∈agk,DF Tryz.prog agk t=true:=by
 intro t ht;simp only[agk,bb,b5,b7] at ht;rcases ht with rfl|rfl|rfl|rfl|rfl|rfl|rfl|rfl|rfl|rfl|rfl|rfl|rfl<;>kernel_rfl
def agl:aw Tryz.prog (gN mm) 154=some (9,[(none,4)],(W2 174).bare):=by kernel_rfl
def aho:aw Tryz.prog (gN mm) 153=some (7,[(none,3)],(WN 154).bare):=by kernel_rfl
def ain:aw Tryz.prog (gN mm) 110=some (124,[(none,4)],(Xb 77 153 134 79 131).bare):=by kernel_rfl
def aat:aw Tryz.prog (gN mm) 111=some (54,[(none,4)],Wj.bare):=by kernel_rfl
def ad0:aw Tryz.prog (gN mm) 70=some (49,[(none,4)],(Wn 77 110 111).bare):=by kernel_rfl
def aio:aw Tryz.prog (gN mm) 31=some (22,[(none,2)],(Xh 64).bare):=by kernel_rfl
def ad1:aw Tryz.prog (gN mm) 36=some (43,[(none,0)],(Wz 32).bare):=by kernel_rfl
def hOf:aw Tryz.prog (gN mm) 113=some (40,[(none,6),(none,7),((some (some 5)),8)],(ajr 64).bare):=by kernel_rfl
def akx:aw Tryz.prog (gN mm) 73=some (235,[(none,6)],(ai_ 113 73).bare):=by kernel_rfl
def akj:aw Tryz.prog (gN mm) 33=some (30,[((some (some 1)),4),(none,5)],(ajd 70 73 72 71).bare):=by kernel_rfl
def aky:aw Tryz.prog (gN mm) 35=some (38,[(none,4)],(ajp 75).bare):=by kernel_rfl
def ajO:aw Tryz.prog (gN mm) 6=some (60,[(none,4)],(aja 30 31 32 33 34 35 36).bare):=by kernel_rfl
def akk:aw Tryz.prog (gN mm) 72=some (86,[(none,2)],(ajb 72).bare):=by kernel_rfl
def agm {l:List Am.Op} {m:Nat} (h1:l.length≤m) (h2:∀x∈l,dE x.content+x.name.length+x.s.length≤m) (hm:m≤2^22):ahb l:=⟨by omega,fun o ho=>by have:=h2 o ho;omega⟩
def ahp:acD Tryz.prog (gN mm) 32:=chF.ahe
def agH (d:Doc) (hd:zn d≤2^22) (o:Am.Op) (ho:dE o.content≤2^22∧o.name.length≤2^22∧o.s.length≤2^22):au Tryz.prog (gN mm) 110 [Doc.av d,o.av] (.int .i64 (U5 d o)):=
 have h22:(2:Nat)^22=4194304:=by decide
 have hB:B=1073741824:=rfl
 aij ain d o (aeE d (by omega)) (by kernel_rfl) (fun m c hm=>ahi aho m c (agi agl m c (To Tryz.SC (m:=mm) rfl m c (by omega))))
  (QW _ (by omega)) (ajV _ (by omega)) (rI _ (by omega))
def ajP (d:Doc) (l:List Am.Op) (hd:zn d≤2^22) (hl:ahb l):au Tryz.prog (gN mm) 6 [Doc.av d,.list (l.map Am.Op.iv)] (.bool true):=by
 have h22:(2:Nat)^22=4194304:=by decide
 have hB:B=1073741824:=rfl;have hA:=ahp (mm:=mm) d l hd hl;obtain⟨hl1,II⟩:=hl;have hR:au Tryz.prog (gN mm) 33 [Doc.av d,.list (l.map Am.Op.iv)] (.gf [Doc.av (XU d l).1,.int .i64 (XU d l).2]):=
  aj9 akj akx hOf (fun l h=>tp h) (fun l h=>akd akk l h) aeC d l
   (adY ad0 d l (by omega) (aeE d (by omega)) (fun o ho=>agH d hd o (II o ho)) fun a b=>aas aat a b)
 refine ajN ajO d l (by omega) (ael aeD d (by omega)) (ail aio l (by omega) fun o ho=>tp (by have:=II o ho;omega)) hA hR ?_ ?_ (adZ ad1 ahp)
 ·intro e he;have hS:=abr (mm:=mm) e e (by
   have:=aj8 hd l;rcases he with rfl|rfl<;>omega)
  rw[Oh] at hS;exact hS
 intro o ho;have hS:=PE (mm:=mm) o.content o.content (by have:=II o ho;omega);rw[Oh] at hS;exact akw aky o hS
end Go.Proofs.YtfinkeaikbmpgaaGreatDoor
