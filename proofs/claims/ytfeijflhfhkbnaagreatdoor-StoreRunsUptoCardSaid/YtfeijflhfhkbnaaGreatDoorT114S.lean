import Derived.Test.YtfeijflhfhkbnaaGreatDoorKAc0S
import Derived.Test.YtfeijflhfhkbnaaGreatDoorKAm53S
set_option linter.all false
/- What a line's path can be. -/
namespace Go.Am
open Go Go.RowKit
def AY {s:Bs} {l:List Step} (h:lM s=some l):bm l=true:=by
 unfold lM at h;split at h
 ·cases hs:eo (bF 47 (s.drop 1)) with
  |none=>grind
  |some q=>
   grind
 grind
theorem GX {s:Bs} {l:List Step} (h:lM s=some l):l.length<=5/\∀x∈l,x.name.length<=8:=by
 have hg:=AY h
 grind [bm,dZ,named]
def Nf (s:Bs):(bM s).2.2=0->bm (bM s).2.1=true:=by
 unfold bM;simp only
 repeat' split
 all_goals first|exactλ_=>AY amT|exactλh=>absurd h ajV
def ub (s:Bs):(bM s).2.1.length<=5/\∀x∈(bM s).2.1,x.name.length<=8:=by
 grind [Step,bM,GX]
def GY (s:Bs):(cj s).1.wt<=2^22:=by
 grind [cj,vL,AX,ot,GU,Tree.wt,fm,bH]
end Go.Am
