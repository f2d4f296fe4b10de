import Derived.Test.YtfinkeaikbmpgaaDoorKT13
import Derived.Test.YtfinkeaikbmpgaaDoorKAm33
import Derived.Test.YtfinkeaikbmpgaaDoorKAm25
import Derived.Test.YtfinkeaikbmpgaaDoorKT5
import Derived.Test.YtfinkeaikbmpgaaDoorKT16
set_option linter.unusedSimpArgs false
set_option linter.unusedVariables false
set_option linter.unnecessarySimpa false
set_option linter.defProp false
/- The size of a tree, level by level; what is a tree, what is content. -/
namespace Go.Am
open Go Go.RowKit
/-- Many elements more. -/
theorem app_locs (sz b d k : Nat) (xs ys : List IV) {n : Nat} {H : Hp} (hl : H (.loc k) = .live ⟨sz, immE xs⟩) (hn : xs.length = n) (he : Elsz sz ys) (hf : Flat ys) (hb : (n + ys.length) * b ≤ 140737488355328) (h0 : 0 < b)
    (hne : k ≠ d) (hu : H (.loc d) = .unused) :
    appV sz b d (.sl (.loc k) sz 0 n) (.list ys) H = some (.sl (.loc d) sz 0 (n + ys.length), upd (upd H (.loc k) .dead) (.loc d) (.live ⟨sz, immE (xs ++ ys)⟩)) := by
  have h1 : (immE xs).length = n := by rw [immE_len, hn]
  rw [app_sl (l := .loc k) (els := immE xs) hl (by omega) he hf hb h0 (by simpa [Lb.app, Lb.fresh] using hne) (by simpa [Lb.app, Lb.fresh] using hu)]
  simp only [Lb.app, Lb.fresh, if_true]
  rw [List.take_of_length_le (by omega), immE_app]
end Go.Am

/- THE ABSTRACT MACHINE, part 37: many rows become data at once. -/
namespace Go.Am
open Go Go.RowKit
section
variable {K : Kx} {β : Lb → Option Nat} {env : Env} {H : Hp} {a : Act} {w : World} {X : Lb → Option (Nat × List IV)}
end
theorem Weaker.trans {S : St} {env env2 env3 : Env} {H H2 H3 : Hp} (h1 : Weaker S env H env2 H2) (h2 : Weaker S env2 H2 env3 H3) : Weaker S env H env3 H3 := fun K β a w e hf hr => by
  obtain ⟨β', hr'⟩ := h1 K β a w e hf hr
  exact h2 K β' a w e hf hr'
end Go.Am

/- Documents alike, copied; the tree at a place, by parents. -/
namespace Go.Am
open Go Go.RowKit
theorem intIV_cs (n : Int) : (intIV n).cells = [.int .i64 n] := rfl
end Go.Am

/- A document made of a tree, by those that wait. -/
namespace Go.Am
open Go Go.RowKit
/-- What holds at the head. -/
structure MdS (x : Tree) where
  d : List Node
  l : List (Tree × Int)
  hw : whole d l = docOf x
  hp : ∀ y ∈ l, y.2 < (d.length : Int)
  hc : d.length + cntT (l.map Prod.fst) = x.cnt
  hb : wtT (l.map Prod.fst) ≤ B
  hk : ∀ y ∈ d, y.kids.length ≤ d.length
end Go.Am
