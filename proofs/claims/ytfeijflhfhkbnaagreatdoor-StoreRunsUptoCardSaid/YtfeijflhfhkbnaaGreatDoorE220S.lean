import Derived.Test.YtfeijflhfhkbnaaGreatDoorCards
import Derived.Test.YtfeijflhfhkbnaaGreatDoorKAc0S
import Derived.Test.YtfeijflhfhkbnaaGreatDoorKT9S
import Derived.Lib.ItoaNum
import Derived.KernelRfl
set_option linter.all false
/- The types of this seat's data; how bulk is measured. -/
namespace Go.Proofs.YtfeijflhfhkbnaaGreatDoor
open Go Go.Am Go.ChangeShapes
def ajQ {p:Prop} (h:p:=by kernel_rfl):p:=h
def akp {p:Prop} (h:p:=by unfold Func.isWrapper;first|(rw[agc (by decide +kernel)];kernel_rfl)|(rw[af8 (by decide +kernel)];exact⟨rfl,rfl⟩)):p:=h
def zP (P:Program) (t:TypeId):Array Field:=match P.underlying t with
 |some (.struct fs)=>fs
 |_=>#[]
noncomputable def tyT:Ho Tryz.prog where
 tB:=4
 tS:=9
 tA:=96
 tAs:=73
 tT:=75
 tTs:=22
 fA:=zP Tryz.prog 96
 fT:=zP Tryz.prog 75
 uB:=ajQ
 uS:=ajQ
 uAs:=ajQ
 uTs:=ajQ
 uA:=ajQ
 uT:=ajQ
 sA:=ajQ
 sT:=ajQ
def laid:laidOutB Tryz.prog=true:=ajQ
theorem Pr {H:Type}:∀d:DataW H,1<=Rows.uptoBulk d
 | .lit (.string bytes)=>by simp[Rows.uptoBulk]
 | .lit (.bool _)| .lit (.int _ _)| .lit (.float _ _)| .lit .nil=>by simp[Rows.uptoBulk]
 | .nil=>by simp[Rows.uptoBulk]
 | .ptr d=>by simp[Rows.uptoBulk]
 | .slice a b=>by simp[Rows.uptoBulk]
 | .agg a=>by simp[Rows.uptoBulk]
 | .iface _ d=>by simp[Rows.uptoBulk]
 | .map e=>by simp[Rows.uptoBulk]
 | .held _=>by simp[Rows.uptoBulk]
theorem vi {H:Type}:∀ds:List (DataW H),Rows.uptoBulkAll ds=(ds.map Rows.uptoBulk).sum
 |[]=>by simp[Rows.uptoBulkAll]
 |d::r=>by simp[Rows.uptoBulkAll,vi r]
def bk (H:Type):Bk H where
 bk:=Rows.uptoBulk
 one:=Pr
 str l:=by simp[Rows.uptoBulk]
 sl es sp:=by simp[Rows.uptoBulk,vi]
 ag ps:=by simp[Rows.uptoBulk,vi]
def zQ {H:Type} {ds gs:List (DataW H)} (h:Rows.uptoSmall H (ds++gs)=true):(ds.map (bk H).bk).sum<=1048576:=by
 simp only[Rows.uptoSmall,agv,vi,ag2,List.sum_append] at h;show(ds.map Rows.uptoBulk).sum<=_;omega
def own:ownKnob Tryz.prog.godebug=none:=ajQ
def tyB:TypeId:=4
def tys:List TypeId:=[22,75,73,96,4,9,3,47,45,80,78,70,25,43,33,41,24,88]
def abQ:∀t∈tys,XR Tryz.prog tys t=true:=by
 intro t ht;simp only[tys,aga,agf,agI] at ht;rcases ht with rfl|rfl|rfl|rfl|rfl|rfl|rfl|rfl|rfl|rfl|rfl|rfl|rfl|rfl|rfl|rfl|rfl|rfl<;>kernel_rfl
end Go.Proofs.YtfeijflhfhkbnaaGreatDoor
