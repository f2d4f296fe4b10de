import Derived.Test.YtfinkeaikbmpgaaDoorE5
import Derived.Test.YtfinkeaikbmpgaaDoorKAm48
import Derived.Test.YtfinkeaikbmpgaaDoorTie
set_option linter.unusedSimpArgs false
set_option linter.unusedVariables false
set_option linter.unnecessarySimpa false
set_option linter.defProp false
/- What is known of the package variables for the law MarkPrints; a world that holds it. -/
namespace Go.Proofs.YtfinkeaikbmpgaaDoor
open Go Go.Am Go.ChangeShapes Go.WideShapes Go.ChangeAt Go.RowKit
def Gz:Tryd.prog.globalNamed "internal/bytealg.MaxLen"=some 1:=by kernel_rfl
set_option maxRecDepth 100000 in
def maxLen {W:World} (h:W.ShapedOpen Tryd.prog):∃m:Int,1<W.heap.size∧da W (fun _=>True) [.int .i64 m] 1:=by
 obtain⟨cs,hh,hs,hr⟩:=h.1 1 #[.int .i64 0] 3 (of_decide_eq_true (by kernel_rfl)) (by kernel_rfl)
 obtain⟨ts,EV,_,dN⟩:=hr (by kernel_rfl);rw[show Tryd.prog.cellTypes Tryd.prog.depth 3=some [3] by kernel_rfl] at EV;cases EV;have I7:cs.size=1:=hs;obtain⟨u,DG,j4⟩:=dN 0 cs[0] (by simp[I7]);have:u=3:=by simpa using DG.symm
 subst this;have hi:∃m:Int,cs[0]= .int .i64 m:=by
  unfold Cell.ok at j4;rw[show Tryd.prog.underlying 3=some (.int .i64) by kernel_rfl] at j4;cases hv:cs[0]<;>rw[hv] at j4<;>simp at j4;exact⟨_,by rw[j4.1]⟩
 obtain⟨m,hm⟩:=hi;have bV:cs=#[.int .i64 m]:=by
  apply Array.ext
  ·simpa using I7
  intro i h1 h2;have:i=0:=by omega
  subst this;simpa using hm
 have hv:W.var? Tryd.prog "internal/bytealg.MaxLen"=some cs:=by
  unfold World.var?;rw[Gz];simp[hh]
 subst bV;exact⟨m,pk Gz hv rfl fun i x hx=>by
  match i,hx with
  |0,hx=>cases hx;exact⟨_,rfl,by simp[NN]⟩⟩
end Go.Proofs.YtfinkeaikbmpgaaDoor
