import Derived.Test.YtfinkeaikbmpgaaGreatDoorKT109
set_option linter.unusedSimpArgs false
set_option linter.unusedVariables false
set_option linter.unnecessarySimpa false
set_option linter.defProp false
/- What a line's path can be. -/
namespace Go.Am
open Go Go.RowKit
def Gx {s:Bs} {l:List Step} (h:tH s=some l):l.length≤5∧∀x∈l,x.name.length≤8:=by
 have hg:gN l=true:=by
  unfold tH at h;split at h
  ·cases hs:iT (ej 47 (s.drop 1)) with
   |none=>rw[hs] at h;cases h
   |some q=>
    rw[hs] at h;simp only[adA] at h;split at h
    ·rename_i hq;cases h;exact hq
    cases h
  cases h
 simp only[gN,ady,aeg,adM] at hg;refine⟨hg.2.2,fun x hx=> ?_⟩;have:=hg.1 x hx;simp only[qH,ady,aeJ,aep] at this;rcases this.1 with h|h|h
 ·rw[h];simp
 ·rw[h];simp
 simp only[named,ady,adM] at h;have:=h.2.2;omega
def BA (s:Bs):(cQ s).2.1.length≤5∧∀x∈(cQ s).2.1,x.name.length≤8:=by
 have h0:([]:List Step).length≤5∧∀x∈([]:List Step),x.name.length≤8:=⟨by simp,by simp⟩;unfold cQ;simp only;split
 ·exact h0
 split
 ·exact h0
 rename_i l hl;have hp:=Gx hl;split
 ·exact h0
 split
 ·exact hp
 split
 ·split
  ·split
   ·exact hp
   exact h0
  exact h0
 split
 ·split
  ·exact hp
  exact h0
 split
 ·exact hp
 split
 ·exact hp
 exact h0
def Qa (s:Bs):(dQ s).1.wt≤2^22:=by
 by_cases h:(dQ s).2=0
 ·have:=qy (qb h);omega
 unfold dQ sw at h ⊢;split
 ·simp[MA,Tree.wt,j0,er]
 split
 ·split
  ·rename_i hg;have:=qy hg;simp only;omega
  simp[MA,Tree.wt,j0,er]
 simp[MA,Tree.wt,j0,er]
end Go.Am
