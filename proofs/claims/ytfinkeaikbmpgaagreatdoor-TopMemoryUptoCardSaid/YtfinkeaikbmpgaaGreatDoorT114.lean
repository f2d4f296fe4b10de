import Derived.Test.YtfinkeaikbmpgaaGreatDoorKT110
set_option linter.unusedSimpArgs false
set_option linter.unusedVariables false
set_option linter.unnecessarySimpa false
set_option linter.defProp false
/- What a line's path can be. -/
namespace Go.Am
open Go Go.RowKit
def aoc {s:Bs} {l:List Step} (h:ami s=some l):l.length≤5∧∀x∈l,x.name.length≤8:=by
 have hg:ak6 l=true:=by
  unfold ami at h;split at h
  ·cases hs:zc (Z_ 47 (s.drop 1)) with
   |none=>rw[hs] at h;cases h
   |some q=>
    rw[hs] at h;simp only[eQ] at h;split at h
    ·rename_i hq;cases h;exact hq
    cases h
  cases h
 simp only[ak6,de,yq,dj] at hg;refine⟨hg.2.2,fun x hx=> ?_⟩;have:=hg.1 x hx;simp only[al1,de,Be,yt] at this;rcases this.1 with h|h|h
 ·rw[h];simp
 ·rw[h];simp
 simp only[named,de,dj] at h;have:=h.2.2;omega
def ank (s:Bs):(ak8 s).2.1.length≤5∧∀x∈(ak8 s).2.1,x.name.length≤8:=by
 have h0:([]:List Step).length≤5∧∀x∈([]:List Step),x.name.length≤8:=⟨N7,N7⟩;unfold ak8;simp only;split
 ·exact h0
 split
 ·exact h0
 rename_i l hl;have hp:=aoc hl;split
 ·exact h0
 split
 ·exact hp
 split
 ·split
  ·split
   ·exact hp
   exact h0
  exact h0
 split
 ·split
  ·exact hp
  exact h0
 split
 ·exact hp
 split
 ·exact hp
 exact h0
def apA (s:Bs):(jD s).1.wt≤2^22:=by
 by_cases h:(jD s).2=0
 ·have:=af6 (ani h);omega
 unfold jD lh at h ⊢;split
 ·simp[Bv,Tree.wt,dX,dE]
 split
 ·split
  ·rename_i hg;have:=af6 hg;simp only;omega
  simp[Bv,Tree.wt,dX,dE]
 simp[Bv,Tree.wt,dX,dE]
end Go.Am
