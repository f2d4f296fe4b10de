import Derived.Test.YtfeijflhfhkbnaaGreatDoorCards
import Derived.Test.YtfeijflhfhkbnaaGreatDoorKAm25
import Derived.Test.YtfeijflhfhkbnaaGreatDoorKAm34
import Derived.Lib.ItoaNum
import Derived.KernelRfl
set_option linter.all false
/- The types of this seat's data; how bulk is measured. -/
namespace Go.Proofs.YtfeijflhfhkbnaaGreatDoor
open Go Go.Am Go.ChangeShapes
def Yn {p:Prop} (h:p:=by kernel_rfl):p:=h
def rz (P:Program) (t:TypeId):Array Field:=match P.underlying t with
 |some (.struct fs)=>fs
 |_=>#[]
noncomputable def Ln:Ci Tryz.prog where
 tB:=4
 tS:=9
 tA:=96
 EZ:=73
 tT:=75
 HB:=22
 fA:=rz Tryz.prog 96
 fT:=rz Tryz.prog 75
 uB:=Yn
 uS:=Yn
 I3:=Yn
 Kg:=Yn
 uA:=Yn
 uT:=Yn
 sA:=Yn
 sT:=Yn
def laid:laidOutB Tryz.prog=true:=Yn
theorem x_ {H:Type}:∀d:DataW H,1<=Rows.uptoBulk d
 | .lit (.string bytes)=>by simp[Rows.uptoBulk]
 | .lit (.bool _)| .lit (.int _ _)| .lit (.float _ _)| .lit .nil=>by simp[Rows.uptoBulk]
 | .nil=>by simp[Rows.uptoBulk]
 | .ptr d=>by simp[Rows.uptoBulk]
 | .slice a b=>by simp[Rows.uptoBulk]
 | .agg a=>by simp[Rows.uptoBulk]
 | .iface _ d=>by simp[Rows.uptoBulk]
 | .map e=>by simp[Rows.uptoBulk]
 | .held _=>by simp[Rows.uptoBulk]
theorem ajG {H:Type}:∀ds:List (DataW H),Rows.uptoBulkAll ds=(ds.map Rows.uptoBulk).sum
 |[]=>by simp[Rows.uptoBulkAll]
 |d::r=>by simp[Rows.uptoBulkAll,ajG r]
def bk (H:Type):Bk H where
 bk:=Rows.uptoBulk
 one:=x_
 str l:=by simp[Rows.uptoBulk]
 sl es sp:=by simp[Rows.uptoBulk,ajG]
 ag ps:=by simp[Rows.uptoBulk,ajG]
def tf {H:Type} {ds gs:List (DataW H)} (h:Rows.uptoSmall H (ds++gs)=true):(ds.map (bk H).bk).sum<=1048576:=by
 simp only[Rows.uptoSmall,dj,ajG,BG,List.sum_append] at h;show(ds.map Rows.uptoBulk).sum<=_;omega
def own:ownKnob Tryz.prog.godebug=none:=Yn
def tyB:TypeId:=4
def HC:List TypeId:=[22,75,73,96,4,9,3,47,45,80,78,70,25,43,33,41,24,88]
def I5:∀t∈HC,DF Tryz.prog HC t=true:=by
 intro t ht;simp only[HC,PY,QN,QV] at ht;rcases ht with rfl|rfl|rfl|rfl|rfl|rfl|rfl|rfl|rfl|rfl|rfl|rfl|rfl|rfl|rfl|rfl|rfl|rfl<;>kernel_rfl
end Go.Proofs.YtfeijflhfhkbnaaGreatDoor
