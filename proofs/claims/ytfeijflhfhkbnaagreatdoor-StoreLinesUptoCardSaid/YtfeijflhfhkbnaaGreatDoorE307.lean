import Derived.Test.YtfeijflhfhkbnaaGreatDoorE228
set_option linter.all false
/- What is known of the package variables for the law ChangeApplies; a world that holds it. -/
namespace Go.Proofs.YtfeijflhfhkbnaaGreatDoor
open Go Go.Am Go.ChangeShapes Go.WideShapes Go.ChangeAt Go.RowKit
def Gz:Tryz.prog.globalNamed "internal/bytealg.MaxLen"=some 2:=Yn
set_option maxRecDepth 100000 in
def maxLen {W:World} (h:W.ShapedOpen Tryz.prog):∃m:Int,2<W.heap.size/\da W (λ_=>True) [.int .i64 m] 2:=by
 obtain⟨cs,hh,hs,hr⟩:=h.1 2 #[.int .i64 0] 3 (of_decide_eq_true Yn) Yn
 obtain⟨ts,EV,_,dN⟩:=hr Yn;rw[show Tryz.prog.cellTypes Tryz.prog.depth 3=some [3] by kernel_rfl] at EV;cases EV;have I7:cs.size=1:=hs;obtain⟨u,DG,j4⟩:=dN 0 cs[0] (by simp[I7]);have:u=3:=by simpa using DG.symm
 subst this;have hi:∃m:Int,cs[0]= .int .i64 m:=by
  unfold Cell.ok at j4;rw[show Tryz.prog.underlying 3=some (.int .i64) by kernel_rfl] at j4;cases hv:cs[0]<;>rw[hv] at j4<;>simp at j4;exact⟨_,by rw[j4.1]⟩
 obtain⟨m,hm⟩:=hi;have bV:cs=#[.int .i64 m]:=by
  apply Array.ext
  ·simpa using I7
  intro i h1 h2;have:i=0:=sf
  subst this;simpa using hm
 have hv:W.var? Tryz.prog "internal/bytealg.MaxLen"=some cs:=by
  unfold World.var?;rw[Gz];simp[hh]
 subst bV;exact⟨m,pk Gz hv rfl λi x hx=>by
  match i,hx with
  |0,hx=>cases hx;exact⟨_,rfl,by simp[NN]⟩⟩
def aaU {p:Prop} (h:p:=by simp[maxLen]):p:=h
def abg {p:Prop} (h:p:=by simp only[maxLen];omega):p:=h
end Go.Proofs.YtfeijflhfhkbnaaGreatDoor
