import Derived.Test.YtfeijflhfhkbnaaGreatDoorE228S
set_option linter.all false
/- What is known of the package variables for the law ChangeApplies; a world that holds it. -/
namespace Go.Proofs.YtfeijflhfhkbnaaGreatDoor
open Go Go.Am Go.ChangeShapes Go.WideShapes Go.ChangeAt Go.RowKit
def ac8:Tryz.prog.globalNamed "internal/bytealg.MaxLen"=some 2:=ajQ
set_option maxRecDepth 100000 in
theorem maxLen {W:World} (h:W.ShapedOpen Tryz.prog):∃m:Int,2<W.heap.size/\dD W (λ_=>True) [.int .i64 m] 2:=by
 obtain⟨cs,hh,hs,hr⟩:=h.1 2 #[.int .i64 0] 3 (of_decide_eq_true ajQ) ajQ
 obtain⟨ts,Z_,_,bV⟩:=hr ajQ;rw[show Tryz.prog.cellTypes Tryz.prog.depth 3=some [3] by kernel_rfl] at Z_;cases Z_;have hs1:cs.size=1:=hs;obtain⟨u,XT,kn⟩:=bV 0 cs[0] (by simp[hs1]);have:u=3:=by simpa using XT.symm
 subst this;have hi:∃m:Int,cs[0]= .int .i64 m:=by
  unfold Cell.ok at kn;rw[show Tryz.prog.underlying 3=some (.int .i64) by kernel_rfl] at kn;cases hv:cs[0]<;>rw[hv] at kn<;>simp at kn;exact⟨_,by rw[kn.1]⟩
 obtain⟨m,hm⟩:=hi;have aZ:cs=#[.int .i64 m]:=by
  apply Array.ext
  ·simpa using hs1
  intro i h1 h2;have:i=0:=ajK
  subst this;simpa using hm
 have hv:W.var? Tryz.prog "internal/bytealg.MaxLen"=some cs:=by
  unfold World.var?;rw[ac8];simp[hh]
 subst aZ;exact⟨m,rP ac8 hv rfl λi x hx=>by
  match i,hx with
  |0,hx=>cases hx;exact⟨_,rfl,by simp[iM]⟩⟩
end Go.Proofs.YtfeijflhfhkbnaaGreatDoor
