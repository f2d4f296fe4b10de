import Derived.Test.YtfinkeaikbmpgaaDoorE5
import Derived.Test.YtfinkeaikbmpgaaDoorKAm48
import Derived.Test.YtfinkeaikbmpgaaDoorTie
set_option linter.unusedSimpArgs false
set_option linter.unusedVariables false
set_option linter.unnecessarySimpa false
set_option linter.defProp false
/- What is known of the package variables for the law MarkPrints; a world that holds it. -/
namespace Go.Proofs.YtfinkeaikbmpgaaDoor
open Go Go.Am Go.ChangeShapes Go.WideShapes Go.ChangeAt Go.RowKit
def Gy:List (List UInt8):=[[38,108,116,59],[38,103,116,59],[38,97,109,112,59],[38,113,117,111,116,59]]
def gM (m:Int):Nat→Option (List IV):=fun g=>if g=0 then some (Gy.map IV.str) else if g=1 then some [.int .i64 m] else none
def I6:Tryd.prog.globalNamed "topiary/mark.entities"=some 0:=by kernel_rfl
def Gz:Tryd.prog.globalNamed "internal/bytealg.MaxLen"=some 1:=by kernel_rfl
set_option maxRecDepth 100000 in
def maxLen {W:World} (h:W.ShapedOpen Tryd.prog):∃m:Int,1<W.heap.size∧da W (fun _=>True) [.int .i64 m] 1:=by
 obtain⟨cs,hh,hs,hr⟩:=h.1 1 #[.int .i64 0] 3 (of_decide_eq_true (by kernel_rfl)) (by kernel_rfl)
 obtain⟨ts,EV,_,dN⟩:=hr (by kernel_rfl);rw[show Tryd.prog.cellTypes Tryd.prog.depth 3=some [3] by kernel_rfl] at EV;cases EV;have I7:cs.size=1:=hs;obtain⟨u,DG,j4⟩:=dN 0 cs[0] (by simp[I7]);have:u=3:=by simpa using DG.symm
 subst this;have hi:∃m:Int,cs[0]= .int .i64 m:=by
  unfold Cell.ok at j4;rw[show Tryd.prog.underlying 3=some (.int .i64) by kernel_rfl] at j4;cases hv:cs[0]<;>rw[hv] at j4<;>simp at j4;exact⟨_,by rw[j4.1]⟩
 obtain⟨m,hm⟩:=hi;have bV:cs=#[.int .i64 m]:=by
  apply Array.ext
  ·simpa using I7
  intro i h1 h2;have:i=0:=by omega
  subst this;simpa using hm
 have hv:W.var? Tryd.prog "internal/bytealg.MaxLen"=some cs:=by
  unfold World.var?;rw[Gz];simp[hh]
 subst bV;exact⟨m,pk Gz hv rfl fun i x hx=>by
  match i,hx with
  |0,hx=>cases hx;exact⟨_,rfl,by simp[NN]⟩⟩
set_option maxRecDepth 100000 in
def GA {W:World} (h:laidMetH Tryd.prog Rows.markPrintsUptoRow.laid W) (hs:W.ShapedOpen Tryd.prog):∃m,qn Tryd.prog (gM m) W:=by
 obtain⟨m,h1⟩:=maxLen hs;rw[MakeChecks.laidMetH_plain _ _ _ (by kernel_rfl)] at h;obtain⟨ps,⟨_,_,_,_,_,_,_,_,_,_,hq,_⟩,_,_⟩:=h;obtain⟨g0,t0,wy,f0,p0,q0,Kj,sk,Gc,Lq,hq,_⟩:=hq;obtain rfl:=Option.some.inj (I6.symm.trans Kj);have Kk:((Tryd.prog.globals[0]?).map (·.type)).bind Tryd.prog.underlying=some (.array 4 9):=by kernel_rfl
 have BZ:((Tryd.prog.globals[0]?).map (·.type)).map Tryd.prog.cellsOf=some 4:=by kernel_rfl
 rw[sk] at Kk BZ;simp only[Option.map_some,Option.some.injEq] at BZ;have h0:=D4 Kj Gc (oR (zs:=Gy) (e:=9) Kk (by kernel_rfl) (by kernel_rfl) BZ Lq);refine⟨m,fun g cs hg=> ?_⟩;unfold gM at hg;split at hg
 ·rename_i e;subst e;cases hg;exact h0
 split at hg
 ·rename_i e;subst e;cases hg;exact h1
 cases hg
set_option maxRecDepth 100000 in
def vL (os:Os) (args:Array Value):laidMetH Tryd.prog Rows.markPrintsUptoRow.laid ((f_ os).forCall (fun _ _=>0) ⟨#[],args,[]⟩).memory:=
 laidMetH_of_parts3 (fuel:=8) (laidMet_of_run' 8 (by kernel_rfl) (by kernel_rfl)) (by kernel_rfl) (by kernel_rfl)
end Go.Proofs.YtfinkeaikbmpgaaDoor
