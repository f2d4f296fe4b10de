import Derived.Test.YtfinkeaikbmpgaaDoorE98
import Derived.Test.YtfinkeaikbmpgaaDoorE90
import Derived.Test.YtfinkeaikbmpgaaDoorE99
import Derived.Test.YtfinkeaikbmpgaaDoorE100
import Derived.Test.YtfinkeaikbmpgaaDoorKT94
set_option linter.unusedSimpArgs false
set_option linter.unusedVariables false
set_option linter.unnecessarySimpa false
set_option linter.defProp false
/- The law ChangeChecks in this seat. -/
namespace Go.Proofs.YtfinkeaikbmpgaaDoor
open Go Go.Am Go.ChangeShapes
set_option maxRecDepth 100000
variable {mm:Int}
noncomputable def tyO:TyO Tryd.prog Ln where
 tI:=3
 tO:=61
 tOs:=58
 fO:=rz Tryd.prog 61
 uI:=by kernel_rfl
 uO:=by kernel_rfl
 uOs:=by kernel_rfl
 sO:=by kernel_rfl
def agk:List TypeId:=[58,61,23,25,22,85,4,9,3,39,37,71,67]
def aim:∀t∈agk,DF Tryd.prog agk t=true:=by
 intro t ht;simp only[agk,bb,b5,b7] at ht;rcases ht with rfl|rfl|rfl|rfl|rfl|rfl|rfl|rfl|rfl|rfl|rfl|rfl|rfl<;>kernel_rfl
def agl:aw Tryd.prog (gL mm) 98=some (9,[(none,4)],(W2 134).bare):=by kernel_rfl
def aho:aw Tryd.prog (gL mm) 97=some (7,[(none,3)],(WN 98).bare):=by kernel_rfl
def ain:aw Tryd.prog (gL mm) 63=some (124,[(none,4)],(Xb 42 97 30 21 23).bare):=by kernel_rfl
def aat:aw Tryd.prog (gL mm) 65=some (54,[(none,4)],Wj.bare):=by kernel_rfl
def ad0:aw Tryd.prog (gL mm) 67=some (49,[(none,4)],(Wn 42 63 65).bare):=by kernel_rfl
def aio:aw Tryd.prog (gL mm) 61=some (22,[(none,2)],(Xh 29).bare):=by kernel_rfl
def ad1:aw Tryd.prog (gL mm) 68=some (43,[(none,0)],(Wz 101).bare):=by kernel_rfl
def aaw:aw Tryd.prog (gL mm) 11=some (59,[(none,4)],(VZ 38 61 62 63 64 65 66 67 36 68).bare):=by kernel_rfl
def agm {l:List Am.Op} {m:Nat} (h1:l.length≤m) (h2:∀x∈l,dE x.content+x.name.length+x.s.length≤m) (hm:m≤2^22):ahb l:=⟨by omega,fun o ho=>by have:=h2 o ho;omega⟩
def ahp:acD Tryd.prog (gL mm) 101:=chF.ahe
def ad3:au Tryd.prog (gL mm) 68 [] (.bool true):=adZ ad1 ahp
def agH (d:Doc) (hd:zn d≤2^22) (o:Am.Op) (ho:dE o.content≤2^22∧o.name.length≤2^22∧o.s.length≤2^22):au Tryd.prog (gL mm) 63 [Doc.av d,o.av] (.int .i64 (U5 d o)):=
 have h22:(2:Nat)^22=4194304:=by decide
 have hB:B=1073741824:=rfl
 aij ain d o (aeE d (by omega)) (by kernel_rfl) (fun m c hm=>ahi aho m c (agi agl m c (To Tryd.SC (m:=mm) rfl m c (by omega))))
  (QW _ (by omega)) (uP _ (by omega)) (rI _ (by omega))
def aax (d:Doc) (l:List Am.Op) (hd:zn d≤2^22) (hl:ahb l):au Tryd.prog (gL mm) 11 [Doc.av d,.list (l.map Am.Op.iv)] (.bool true):=by
 have h22:(2:Nat)^22=4194304:=by decide
 have hB:B=1073741824:=rfl;obtain⟨hl1,II⟩:=hl;have J2:∀o∈l,dE o.content≤B∧o.name.length≤B∧o.s.length≤B:=fun o ho=>by have:=II o ho;omega
 have hS:=abr (mm:=mm) d d (by omega);rw[Oh] at hS;exact aav aaw d l (by omega) (ael aeD d (by omega)) (ail aio l (by omega) fun o ho=>tp (by have:=II o ho;omega))
  (fun o ho=>chF.xW d (by omega) o (J2 o ho)) (fun o ho=>agH d hd o (II o ho)) (fun a b=>abB aar a b) (fun a b=>aas aat a b)
  (chF.afp d (by omega) l (by omega) J2) (adY ad0 d l (by omega) (aeE d (by omega)) (fun o ho=>agH d hd o (II o ho)) fun a b=>aas aat a b)
  hS ad3
end Go.Proofs.YtfinkeaikbmpgaaDoor
