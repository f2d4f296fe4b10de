import Derived.Test.YtfinkeaikbmpgaaGreatDoorE28
set_option linter.unusedSimpArgs false
set_option linter.unusedVariables false
set_option linter.unnecessarySimpa false
set_option linter.defProp false
/- What is known of the package variables for the law ChangeApplies; a world that holds it. -/
namespace Go.Proofs.YtfinkeaikbmpgaaGreatDoor
open Go Go.Am Go.ChangeShapes Go.WideShapes Go.ChangeAt Go.RowKit
def gN (m:Int):Nat→Option (List IV):=fun g=>if g=2 then some [.int .i64 m] else none
def Gz:Tryz.prog.globalNamed "internal/bytealg.MaxLen"=some 2:=by kernel_rfl
set_option maxRecDepth 100000 in
def maxLen {W:World} (h:W.ShapedOpen Tryz.prog):∃m:Int,2<W.heap.size∧da W (fun _=>True) [.int .i64 m] 2:=by
 obtain⟨cs,hh,hs,hr⟩:=h.1 2 #[.int .i64 0] 3 (of_decide_eq_true (by kernel_rfl)) (by kernel_rfl)
 obtain⟨ts,EV,_,dN⟩:=hr (by kernel_rfl);rw[show Tryz.prog.cellTypes Tryz.prog.depth 3=some [3] by kernel_rfl] at EV;cases EV;have I7:cs.size=1:=hs;obtain⟨u,DG,j4⟩:=dN 0 cs[0] (by simp[I7]);have:u=3:=by simpa using DG.symm
 subst this;have hi:∃m:Int,cs[0]= .int .i64 m:=by
  unfold Cell.ok at j4;rw[show Tryz.prog.underlying 3=some (.int .i64) by kernel_rfl] at j4;cases hv:cs[0]<;>rw[hv] at j4<;>simp at j4;exact⟨_,by rw[j4.1]⟩
 obtain⟨m,hm⟩:=hi;have bV:cs=#[.int .i64 m]:=by
  apply Array.ext
  ·simpa using I7
  intro i h1 h2;have:i=0:=by omega
  subst this;simpa using hm
 have hv:W.var? Tryz.prog "internal/bytealg.MaxLen"=some cs:=by
  unfold World.var?;rw[Gz];simp[hh]
 subst bV;exact⟨m,pk Gz hv rfl fun i x hx=>by
  match i,hx with
  |0,hx=>cases hx;exact⟨_,rfl,by simp[NN]⟩⟩
def akB {W:World} (hs:W.ShapedOpen Tryz.prog):∃m,qn Tryz.prog (gN m) W:=by
 obtain⟨m,h1⟩:=maxLen hs;refine⟨m,fun g cs hg=> ?_⟩;unfold gN at hg;split at hg
 ·rename_i e;subst e;cases hg;exact h1
 cases hg
set_option maxRecDepth 100000 in
def ake (os:Os) (args:Array Value):laidMetH Tryz.prog Rows.changeAppliesUptoRow.laid ((f_ os).forCall (fun _ _=>0) ⟨#[],args,[]⟩).memory:=
 laidMetH_of_parts3 (fuel:=8) (laidMet_of_run' 8 (by kernel_rfl) (by kernel_rfl)) (by kernel_rfl) (by kernel_rfl)
end Go.Proofs.YtfinkeaikbmpgaaGreatDoor
