import Derived.Test.YtfinkeaikbmpgaaGreatDoorCards
import Derived.Test.YtfinkeaikbmpgaaGreatDoorKAm25
import Derived.Test.YtfinkeaikbmpgaaGreatDoorKT15
import Derived.Lib.ItoaNum
import Derived.KernelRfl
set_option linter.unusedSimpArgs false
set_option linter.unusedVariables false
set_option linter.unnecessarySimpa false
set_option linter.defProp false
/- The types of this seat's data; how bulk is measured. -/
namespace Go.Proofs.YtfinkeaikbmpgaaGreatDoor
open Go Go.Am Go.ChangeShapes
def AH (P:Program) (t:TypeId):Array Field:=match P.underlying t with
 |some (.struct fs)=>fs
 |_=>#[]
noncomputable def tyT:Ht Tryz.prog where
 tB:=4
 tS:=9
 tA:=89
 Z2:=44
 tT:=47
 tTs:=45
 fA:=AH Tryz.prog 89
 fT:=AH Tryz.prog 47
 uB:=by kernel_rfl
 uS:=by kernel_rfl
 uAs:=by kernel_rfl
 uTs:=by kernel_rfl
 uA:=by kernel_rfl
 uT:=by kernel_rfl
 sA:=by kernel_rfl
 sT:=by kernel_rfl
def laid:laidOutB Tryz.prog=true:=by kernel_rfl
theorem N1 {H:Type}:∀d:DataW H,1≤Rows.uptoBulk d
 | .lit (.string bytes)=>by simp[Rows.uptoBulk]
 | .lit (.bool _)| .lit (.int _ _)| .lit (.float _ _)| .lit .nil=>by simp[Rows.uptoBulk]
 | .nil=>by simp[Rows.uptoBulk]
 | .ptr d=>by simp[Rows.uptoBulk]
 | .slice a b=>by simp[Rows.uptoBulk]
 | .agg a=>by simp[Rows.uptoBulk]
 | .iface _ d=>by simp[Rows.uptoBulk]
 | .map e=>by simp[Rows.uptoBulk]
 | .held _=>by simp[Rows.uptoBulk]
theorem wP {H:Type}:∀ds:List (DataW H),Rows.uptoBulkAll ds=(ds.map Rows.uptoBulk).sum
 |[]=>by simp[Rows.uptoBulkAll]
 |d::r=>by simp[Rows.uptoBulkAll,wP r]
def bk (H:Type):Bk H where
 bk:=Rows.uptoBulk
 one:=N1
 str l:=by simp[Rows.uptoBulk]
 sl es sp:=by simp[Rows.uptoBulk,wP]
 ag ps:=by simp[Rows.uptoBulk,wP]
def lf {H:Type} {ds gs:List (DataW H)} (h:Rows.uptoSmall H (ds++gs)=true):(ds.map (bk H).bk).sum≤1048576:=by
 simp only[Rows.uptoSmall,adM,wP,aeQ,List.sum_append] at h;show(ds.map Rows.uptoBulk).sum≤_;omega
def own:ownKnob Tryz.prog.godebug=none:=by kernel_rfl
def T7:TypeId:=4
def N2:List TypeId:=[45,47,44,89,4,9,3,28,26,85,64,116,63,31,22,29,61,54]
def Fe:∀t∈N2,VX Tryz.prog N2 t=true:=by
 intro t ht;simp only[N2,adz,adG,adO] at ht;rcases ht with rfl|rfl|rfl|rfl|rfl|rfl|rfl|rfl|rfl|rfl|rfl|rfl|rfl|rfl|rfl|rfl|rfl|rfl<;>kernel_rfl
end Go.Proofs.YtfinkeaikbmpgaaGreatDoor
