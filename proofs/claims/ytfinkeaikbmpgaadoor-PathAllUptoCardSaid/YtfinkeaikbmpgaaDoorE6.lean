import Derived.Test.YtfinkeaikbmpgaaDoorE4
import Derived.Test.YtfinkeaikbmpgaaDoorT44
set_option linter.unusedSimpArgs false
set_option linter.unusedVariables false
set_option linter.unnecessarySimpa false
set_option linter.defProp false
/- Functions of this seat, read: PathAll. -/
namespace Go.Proofs.YtfinkeaikbmpgaaDoor
open Go Go.Am Go.ChangeShapes
theorem hPathAll : compF Tryd.prog noG 15 = some (104, [(none, 4)], (c_topiarykeep_PathAll 41 71 72 70).bare) := by kernel_rfl
theorem dPathAll (d : Doc) (h : wtN d ≤ B) (k : Int) : PureC Tryd.prog noG 15 [Doc.av d, .int .i64 k] (.bool true) :=
  pPathAll hPathAll d h k (dDocGood d h) dPaths (pPick hPick k 5 (by decide) (by decide)) fun l hi hg hn hl => by
    have hB : l.length ≤ B := by unfold B; omega
    have hNm : ∀ x ∈ l, PureC Tryd.prog noG 20 [.str x.name] (.bool (named x.name)) := fun x hx => dNamed _ (by have := hn x hx; unfold B; omega)
    exact pSelectR hSelect d h l hB hi hg (dDocGood d h) (pPathGoodR hPathGood l hB hNm) (fun s hs ks h1 h2 => pChosen hChosen d h s ks h1 h2 (fun x _ => pFits hFits x s))
end Go.Proofs.YtfinkeaikbmpgaaDoor
