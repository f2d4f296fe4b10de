import Derived.Test.YtfinkeaikbmpgaaGreatDoorCards
import Derived.Test.YtfinkeaikbmpgaaGreatDoorKAm25
import Derived.Lib.ItoaNum
import Derived.KernelRfl
set_option linter.unusedSimpArgs false
set_option linter.unusedVariables false
set_option linter.unnecessarySimpa false
set_option linter.defProp false
/- The types of this seat's data; how bulk is measured. -/
namespace Go.Proofs.YtfinkeaikbmpgaaGreatDoor
open Go Go.Am Go.ChangeShapes
def fv (P:Program) (t:TypeId):Array Field:=match P.underlying t with
 |some (.struct fs)=>fs
 |_=>#[]
noncomputable def wR:kq Tryz.prog where
 tB:=4
 tS:=9
 tA:=89
 sE:=44
 tT:=47
 uK:=45
 fA:=fv Tryz.prog 89
 fT:=fv Tryz.prog 47
 uB:=by kernel_rfl
 uS:=by kernel_rfl
 vp:=by kernel_rfl
 wN:=by kernel_rfl
 uA:=by kernel_rfl
 uT:=by kernel_rfl
 sA:=by kernel_rfl
 sT:=by kernel_rfl
theorem laid:laidOutB Tryz.prog=true:=by kernel_rfl
theorem lZ {H:Type}:∀d:DataW H,1≤Rows.uptoBulk d
 | .lit (.string bytes)=>by simp[Rows.uptoBulk]
 | .lit (.bool _)| .lit (.int _ _)| .lit (.float _ _)| .lit .nil=>by simp[Rows.uptoBulk]
 | .nil=>by simp[Rows.uptoBulk]
 | .ptr d=>by simp[Rows.uptoBulk]
 | .slice a b=>by simp[Rows.uptoBulk]
 | .agg a=>by simp[Rows.uptoBulk]
 | .iface _ d=>by simp[Rows.uptoBulk]
 | .map e=>by simp[Rows.uptoBulk]
 | .held _=>by simp[Rows.uptoBulk]
theorem eo {H:Type}:∀ds:List (DataW H),Rows.uptoBulkAll ds=(ds.map Rows.uptoBulk).sum
 |[]=>by simp[Rows.uptoBulkAll]
 |d::r=>by simp[Rows.uptoBulkAll,eo r]
def bk (H:Type):Bk H where
 bk:=Rows.uptoBulk
 one:=lZ
 str l:=by simp[Rows.uptoBulk]
 sl es sp:=by simp[Rows.uptoBulk,eo]
 ag ps:=by simp[Rows.uptoBulk,eo]
theorem iY {H:Type} {ds gs:List (DataW H)} (h:Rows.uptoSmall H (ds++gs)=true):(ds.map (bk H).bk).sum≤1048576:=by
 simp only[Rows.uptoSmall,decide_eq_true_eq,eo,List.map_append,List.sum_append] at h;show(ds.map Rows.uptoBulk).sum≤_;omega
theorem own:ownKnob Tryz.prog.godebug=none:=by kernel_rfl
def wS:TypeId:=4
def tf:List TypeId:=[45,47,44,89,4,9,3,28,26,85,64,116,63,31,22,29,61,54]
theorem uO:∀t∈tf,qj Tryz.prog tf t=true:=by
 intro t ht;simp only[tf,List.mem_cons,List.not_mem_nil,or_false] at ht;rcases ht with rfl|rfl|rfl|rfl|rfl|rfl|rfl|rfl|rfl|rfl|rfl|rfl|rfl|rfl|rfl|rfl|rfl|rfl<;>kernel_rfl
end Go.Proofs.YtfinkeaikbmpgaaGreatDoor
