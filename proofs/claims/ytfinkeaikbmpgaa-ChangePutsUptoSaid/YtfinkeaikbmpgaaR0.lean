import Derived.Test.YtfinkeaikbmpgaaRows
import Derived.Test.YtfinkeaikbmpgaaKAm25
import Derived.KernelRfl
set_option linter.unusedSimpArgs false
set_option linter.unusedVariables false
set_option linter.unnecessarySimpa false
set_option linter.defProp false
/- The types of this seat's data; how bulk is measured. -/
namespace Go.Proofs.Ytfinkeaikbmpgaa
open Go Go.Am Go.ChangeShapes
def ox (P:Program) (t:TypeId):Array Field:=match P.underlying t with
 |some (.struct fs)=>fs
 |_=>#[]
noncomputable def P1:za Try.prog where
 tB:=4
 tS:=9
 tA:=60
 Ky:=27
 tT:=29
 I8:=23
 fA:=ox Try.prog 60
 fT:=ox Try.prog 29
 uB:=by kernel_rfl
 uS:=by kernel_rfl
 Ol:=by kernel_rfl
 Om:=by kernel_rfl
 uA:=by kernel_rfl
 uT:=by kernel_rfl
 sA:=by kernel_rfl
 sT:=by kernel_rfl
theorem laid:laidOutB Try.prog=true:=by kernel_rfl
theorem Cl {H:Type}:∀d:DataW H,1≤Rows.uptoBulk d
 | .lit (.string bytes)=>by simp[Rows.uptoBulk]
 | .lit (.bool _)| .lit (.int _ _)| .lit (.float _ _)| .lit .nil=>by simp[Rows.uptoBulk]
 | .nil=>by simp[Rows.uptoBulk]
 | .ptr d=>by simp[Rows.uptoBulk]
 | .slice a b=>by simp[Rows.uptoBulk]
 | .agg a=>by simp[Rows.uptoBulk]
 | .iface _ d=>by simp[Rows.uptoBulk]
 | .map e=>by simp[Rows.uptoBulk]
 | .held _=>by simp[Rows.uptoBulk]
theorem oy {H:Type}:∀ds:List (DataW H),Rows.uptoBulkAll ds=(ds.map Rows.uptoBulk).sum
 |[]=>by simp[Rows.uptoBulkAll]
 |d::r=>by simp[Rows.uptoBulkAll,oy r]
def bk (H:Type):Bk H where
 bk:=Rows.uptoBulk
 one:=Cl
 str l:=by simp[Rows.uptoBulk]
 sl es sp:=by simp[Rows.uptoBulk,oy]
 ag ps:=by simp[Rows.uptoBulk,oy]
theorem xN {H:Type} {ds gs:List (DataW H)} (h:Rows.uptoSmall H (ds++gs)=true):(ds.map (bk H).bk).sum≤1048576:=by
 simp only[Rows.uptoSmall,decide_eq_true_eq,oy,List.map_append,List.sum_append] at h;show(ds.map Rows.uptoBulk).sum≤_;omega
theorem own:ownKnob Try.prog.godebug=none:=by kernel_rfl
def Q4:TypeId:=4
def Nq:List TypeId:=[23,29,27,60,4,9,3,33,31,49,47,50,53]
theorem Oo:∀t∈Nq,I4 Try.prog Nq t=true:=by
 intro t ht;simp only[Nq,List.mem_cons,List.not_mem_nil,or_false] at ht;rcases ht with rfl|rfl|rfl|rfl|rfl|rfl|rfl|rfl|rfl|rfl|rfl|rfl|rfl<;>kernel_rfl
end Go.Proofs.Ytfinkeaikbmpgaa
