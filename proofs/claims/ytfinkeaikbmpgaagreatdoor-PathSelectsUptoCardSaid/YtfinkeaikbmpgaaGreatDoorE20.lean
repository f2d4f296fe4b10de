import Derived.Test.YtfinkeaikbmpgaaGreatDoorCards
import Derived.Test.YtfinkeaikbmpgaaGreatDoorKAm25
import Derived.Test.YtfinkeaikbmpgaaGreatDoorKT3
import Derived.Lib.ItoaNum
import Derived.KernelRfl
set_option linter.unusedSimpArgs false
set_option linter.unusedVariables false
set_option linter.unnecessarySimpa false
set_option linter.defProp false
/- The types of this seat's data; how bulk is measured. -/
namespace Go.Proofs.YtfinkeaikbmpgaaGreatDoor
open Go Go.Am Go.ChangeShapes
def kl (P:Program) (t:TypeId):Array Field:=match P.underlying t with
 |some (.struct fs)=>fs
 |_=>#[]
noncomputable def JP:wz Tryz.prog where
 tB:=4
 tS:=9
 tA:=89
 E':=44
 tT:=47
 Ht:=45
 fA:=kl Tryz.prog 89
 fT:=kl Tryz.prog 47
 uB:=by kernel_rfl
 uS:=by kernel_rfl
 IL:=by kernel_rfl
 JL:=by kernel_rfl
 uA:=by kernel_rfl
 uT:=by kernel_rfl
 sA:=by kernel_rfl
 sT:=by kernel_rfl
noncomputable def KZ:Gx Tryz.prog JP where
 tI:=3
 Hu:=64
 tN:=85
 Hv:=26
 tD:=28
 fN:=kl Tryz.prog 85
 fD:=kl Tryz.prog 28
 uI:=by kernel_rfl
 JM:=by kernel_rfl
 uN:=by kernel_rfl
 JN:=by kernel_rfl
 uD:=by kernel_rfl
 sN:=by kernel_rfl
 sD:=by kernel_rfl
theorem laid:laidOutB Tryz.prog=true:=by kernel_rfl
theorem yL {H:Type}:∀d:DataW H,1≤Rows.uptoBulk d
 | .lit (.string bytes)=>by simp[Rows.uptoBulk]
 | .lit (.bool _)| .lit (.int _ _)| .lit (.float _ _)| .lit .nil=>by simp[Rows.uptoBulk]
 | .nil=>by simp[Rows.uptoBulk]
 | .ptr d=>by simp[Rows.uptoBulk]
 | .slice a b=>by simp[Rows.uptoBulk]
 | .agg a=>by simp[Rows.uptoBulk]
 | .iface _ d=>by simp[Rows.uptoBulk]
 | .map e=>by simp[Rows.uptoBulk]
 | .held _=>by simp[Rows.uptoBulk]
theorem ma {H:Type}:∀ds:List (DataW H),Rows.uptoBulkAll ds=(ds.map Rows.uptoBulk).sum
 |[]=>by simp[Rows.uptoBulkAll]
 |d::r=>by simp[Rows.uptoBulkAll,ma r]
def bk (H:Type):Bk H where
 bk:=Rows.uptoBulk
 one:=yL
 str l:=by simp[Rows.uptoBulk]
 sl es sp:=by simp[Rows.uptoBulk,ma]
 ag ps:=by simp[Rows.uptoBulk,ma]
theorem tX {H:Type} {ds gs:List (DataW H)} (h:Rows.uptoSmall H (ds++gs)=true):(ds.map (bk H).bk).sum≤1048576:=by
 simp only[Rows.uptoSmall,decide_eq_true_eq,ma,List.map_append,List.sum_append] at h;show(ds.map Rows.uptoBulk).sum≤_;omega
theorem own:ownKnob Tryz.prog.godebug=none:=by kernel_rfl
def K0:TypeId:=4
noncomputable def K1:Hw Tryz.prog JP where
 tI:=3
 tP:=116
 IM:=63
 fP:=kl Tryz.prog 116
 uI:=by kernel_rfl
 uP:=by kernel_rfl
 JO:=by kernel_rfl
 sP:=by kernel_rfl
def Hx:List TypeId:=[45,47,44,89,4,9,3,28,26,85,64,116,63,31,22,29,61,54]
theorem IN:∀t∈Hx,DR Tryz.prog Hx t=true:=by
 intro t ht;simp only[Hx,List.mem_cons,List.not_mem_nil,or_false] at ht;rcases ht with rfl|rfl|rfl|rfl|rfl|rfl|rfl|rfl|rfl|rfl|rfl|rfl|rfl|rfl|rfl|rfl|rfl|rfl<;>kernel_rfl
def gZ (t1 t2:Nat):Nat→Option (List IV):=fun g=>if g=3 then some [.ifc t1] else if g=4 then some [.ifc t2] else if g=7 then some (Lib.pow10Tab.map fun z=>IV.int .u64 z) else none
end Go.Proofs.YtfinkeaikbmpgaaGreatDoor
