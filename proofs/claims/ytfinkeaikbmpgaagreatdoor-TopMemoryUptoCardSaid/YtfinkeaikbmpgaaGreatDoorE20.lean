import Derived.Test.YtfinkeaikbmpgaaGreatDoorCards
import Derived.Test.YtfinkeaikbmpgaaGreatDoorKAm24
import Derived.Test.YtfinkeaikbmpgaaGreatDoorKT16
import Derived.Lib.ItoaNum
import Derived.KernelRfl
set_option linter.unusedSimpArgs false
set_option linter.unusedVariables false
set_option linter.unnecessarySimpa false
set_option linter.defProp false
/- The types of this seat's data; how bulk is measured. -/
namespace Go.Proofs.YtfinkeaikbmpgaaGreatDoor
open Go Go.Am Go.ChangeShapes
def Po {p:Prop} (h:p:=by kernel_rfl):p:=h
def rz (P:Program) (t:TypeId):Array Field:=match P.underlying t with
 |some (.struct fs)=>fs
 |_=>#[]
noncomputable def Ln:Ci Tryz.prog where
 tB:=4
 tS:=9
 tA:=89
 EZ:=44
 tT:=47
 HB:=45
 fA:=rz Tryz.prog 89
 fT:=rz Tryz.prog 47
 uB:=Po
 uS:=Po
 I3:=Po
 Kg:=Po
 uA:=Po
 uT:=Po
 sA:=Po
 sT:=Po
def laid:laidOutB Tryz.prog=true:=Po
theorem x_ {H:Type}:∀d:DataW H,1≤Rows.uptoBulk d
 | .lit (.string bytes)=>by simp[Rows.uptoBulk]
 | .lit (.bool _)| .lit (.int _ _)| .lit (.float _ _)| .lit .nil=>by simp[Rows.uptoBulk]
 | .nil=>by simp[Rows.uptoBulk]
 | .ptr d=>by simp[Rows.uptoBulk]
 | .slice a b=>by simp[Rows.uptoBulk]
 | .agg a=>by simp[Rows.uptoBulk]
 | .iface _ d=>by simp[Rows.uptoBulk]
 | .map e=>by simp[Rows.uptoBulk]
 | .held _=>by simp[Rows.uptoBulk]
theorem ajG {H:Type}:∀ds:List (DataW H),Rows.uptoBulkAll ds=(ds.map Rows.uptoBulk).sum
 |[]=>by simp[Rows.uptoBulkAll]
 |d::r=>by simp[Rows.uptoBulkAll,ajG r]
def bk (H:Type):Bk H where
 bk:=Rows.uptoBulk
 one:=x_
 str l:=by simp[Rows.uptoBulk]
 sl es sp:=by simp[Rows.uptoBulk,ajG]
 ag ps:=by simp[Rows.uptoBulk,ajG]
def tf {H:Type} {ds gs:List (DataW H)} (h:Rows.uptoSmall H (ds++gs)=true):(ds.map (bk H).bk).sum≤1048576:=by
 simp only[Rows.uptoSmall,dj,ajG,BG,List.sum_append] at h;show(ds.map Rows.uptoBulk).sum≤_;omega
def own:ownKnob Tryz.prog.godebug=none:=Po
def tyB:TypeId:=4
def HC:List TypeId:=[45,47,44,89,4,9,3,28,26,85,64,116,63,31,22,29,61,54]
def I5:∀t∈HC,DF Tryz.prog HC t=true:=by
 intro t ht;simp only[HC,dU,e7,kt] at ht;rcases ht with rfl|rfl|rfl|rfl|rfl|rfl|rfl|rfl|rfl|rfl|rfl|rfl|rfl|rfl|rfl|rfl|rfl|rfl<;>kernel_rfl
end Go.Proofs.YtfinkeaikbmpgaaGreatDoor
