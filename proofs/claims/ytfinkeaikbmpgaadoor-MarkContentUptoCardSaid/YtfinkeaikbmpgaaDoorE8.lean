import Derived.Test.YtfinkeaikbmpgaaDoorE5
import Derived.Test.YtfinkeaikbmpgaaDoorE7
set_option linter.unusedSimpArgs false
set_option linter.unusedVariables false
set_option linter.unnecessarySimpa false
set_option linter.defProp false
/- The table of entities, out of what a row lays; a world that holds the mark laws' tables. -/
namespace Go.Proofs.YtfinkeaikbmpgaaDoor
open Go Go.Am Go.ChangeShapes Go.WideShapes Go.ChangeAt Go.RowKit
def entZ : List (List UInt8) := [[38, 108, 116, 59], [38, 103, 116, 59], [38, 97, 109, 112, 59], [38, 113, 117, 111, 116, 59]]
theorem uStr9 : Tryd.prog.underlying 9 = some .string := by kernel_rfl
set_option maxRecDepth 100000 in
theorem globE {W : World} (h : laidMetH Tryd.prog Rows.markBackUptoRow.laid W) : GlobOk Tryd.prog gE W := by
  rw [MakeChecks.laidMetH_plain _ _ _ (by kernel_rfl)] at h
  obtain ⟨ps, ⟨_, _, _, _, _, q1, _, _, _, _, hq, _⟩, _, _⟩ := h
  obtain ⟨g, t, cs, fuel, p, q, hg, ht, hv, hd, _, _⟩ := hq
  obtain rfl := Option.some.inj ((show Tryd.prog.globalNamed "topiary/mark.entities" = some 0 by kernel_rfl).symm.trans hg)
  have hu : ((Tryd.prog.globals[0]?).map (·.type)).bind Tryd.prog.underlying = some (.array 4 9) := by kernel_rfl
  rw [ht] at hu
  obtain ⟨xs, m, _, ex, _, hl, hel⟩ := DataW.trod_array hu hd
  have c9 : Tryd.prog.cellsOf 9 = 1 := by kernel_rfl
  have e3 : xs.map (·.1) = entZ.map fun s => (.lit (.string s) : DataW Unit) := (DataW.agg.inj (Prod.mk.inj ex).1).symm
  have cell : ∀ (i : Nat) (s : List UInt8), i < 4 → entZ[i]? = some s → W.cell? ⟨0, i, none⟩ = some (.string ⟨s.toArray⟩) := by
    intro i s hi hs
    have hE := hel i hi
    rw [c9, Nat.mul_one, List.getElem?_eq_getElem (by omega)] at hE
    obtain ⟨z, e1, e2, _⟩ := DataW.trod_string uStr9 hE
    have e4 : (xs.map (·.1))[i]? = (entZ.map fun s => (.lit (.string s) : DataW Unit))[i]? := by rw [e3]
    rw [List.getElem?_map, List.getElem?_map, List.getElem?_eq_getElem (by omega : i < xs.length), hs, e2] at e4
    simp only [Option.map_some, Option.some.injEq, DataW.lit.injEq, Lit.string.injEq] at e4
    have hz : z = ⟨s.toArray⟩ := by
      cases z with
      | mk a => simp only at e4; subst e4; simp
    rw [World.var?_cell hg hv i, ← hz]
    have h0 : ((cs.toList.drop i).take 1)[0]? = some (.string z) := by rw [e1]; rfl
    simpa using h0
  intro g' cs' hg'
  unfold gE at hg'
  split at hg'
  · rename_i h0
    subst h0
    cases hg'
    refine ⟨?_, ?_⟩
    · unfold World.var? at hv
      rw [hg] at hv
      simp only [Option.bind_some] at hv
      by_cases hlt : 0 < W.heap.size
      · exact hlt
      · rw [Array.getElem?_eq_none (by omega)] at hv; cases hv
    · simp only [CellsR, IVR]
      exact ⟨⟨_, cell 0 _ (by decide) rfl, rfl⟩, ⟨_, cell 1 _ (by decide) rfl, rfl⟩, ⟨_, cell 2 _ (by decide) rfl, rfl⟩, ⟨_, cell 3 _ (by decide) rfl, rfl⟩, trivial⟩
  · cases hg'
set_option maxRecDepth 100000 in
theorem laid_metM (os : Os) (args : Array Value) : laidMetH Tryd.prog Rows.markBackUptoRow.laid ((laidWorldP os).forCall (fun _ _ => 0) ⟨#[], args, []⟩).memory :=
  laidMetH_of_parts3 (fuel := 8) (laidMet_of_run' 8 (by kernel_rfl) (by kernel_rfl)) (by kernel_rfl) (by kernel_rfl)
end Go.Proofs.YtfinkeaikbmpgaaDoor
