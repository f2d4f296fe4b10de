/-
  DERIVED. GIVEN WITH THE SEED: THE CARDS: each row of YtfinkeaikbmpgaaDoorRows.lean that lists a variable, with what it lists TIED to the program's text (the seventh form; the later family's looks); each row that meets fmt, with fmt's text TOLD by the authors' own Lean function (tested against real Go, not proved from fmt's source: count such statements apart). THE CARD IS WHAT COUNTS. Prove the row's statement (the work); the ties are given (YtfinkeaikbmpgaaDoorTie.lean); close each card by the builder's one call (the guide's Derived/Test/ToyasCard.lean, 'card_holds'). Laid BY PROGRAM, IN A SANDBOX (cutbox-door.mjs). By AI agents, Wed Nov 11 2026. No macro, syntax, notation, axiom, sorry.
-/
import Derived.Test.YtfinkeaikbmpgaaDoorRows
import GoSem.ClaimSeven
namespace Go.Proofs.YtfinkeaikbmpgaaDoor
namespace Rows

/-- THE TIED CARD OF 'topiarylaw.TreeTells'. -/
def treeTellsCard : Claim7 := { stood := { row := treeTellsRow, standIns := [], harness := (true, "2b9a7d6033a89739c771e537ad33024e69defe286ca02fbe6d1f6c7a5b86f020"), looks := true }, kinds := [], alts := [], laidByText := true, laidKinds := [.data, .pinned], laidTests := true, laidLooks := .later }
def TreeTellsCardSaid : Prop := Claim7.holds Tryd.pinned (.plain (OpenSpec.ofChange treeTellsSpec)) treeTellsCard

/-- THE TIED CARD OF 'topiarylaw.DocMakes'. -/
def docMakesCard : Claim7 := { stood := { row := docMakesRow, standIns := [], harness := (true, "2b9a7d6033a89739c771e537ad33024e69defe286ca02fbe6d1f6c7a5b86f020"), looks := true }, kinds := [], alts := [], laidByText := true, laidKinds := [.data, .pinned], laidTests := true, laidLooks := .later }
def DocMakesCardSaid : Prop := Claim7.holds Tryd.pinned (.plain (OpenSpec.ofChange docMakesSpec)) docMakesCard

/-- THE TIED CARD OF 'topiarylaw.DocTells'. -/
def docTellsCard : Claim7 := { stood := { row := docTellsRow, standIns := [], harness := (true, "2b9a7d6033a89739c771e537ad33024e69defe286ca02fbe6d1f6c7a5b86f020"), looks := true }, kinds := [], alts := [], laidByText := true, laidKinds := [.data, .pinned], laidTests := true, laidLooks := .later }
def DocTellsCardSaid : Prop := Claim7.holds Tryd.pinned (.plain (OpenSpec.ofChange docTellsSpec)) docTellsCard

/-- THE TIED CARD OF 'topiarykeep.MarkBack'. -/
def markBackCard : Claim7 := { stood := { row := markBackRow, standIns := [], harness := (true, "2b9a7d6033a89739c771e537ad33024e69defe286ca02fbe6d1f6c7a5b86f020"), looks := true }, kinds := [], alts := [], laidByText := true, laidKinds := [.data, .widerDeep, .pinned], laidTests := true, laidLooks := .later }
def MarkBackCardSaid : Prop := Claim7.holds Tryd.pinned (.plain (OpenSpec.ofChange markBackSpec)) markBackCard

/-- THE TIED CARD OF 'topiarykeep.MarkOnce'. -/
def markOnceCard : Claim7 := { stood := { row := markOnceRow, standIns := [], harness := (true, "2b9a7d6033a89739c771e537ad33024e69defe286ca02fbe6d1f6c7a5b86f020"), looks := true }, kinds := [], alts := [], laidByText := true, laidKinds := [.data, .widerDeep, .pinned], laidTests := true, laidLooks := .later }
def MarkOnceCardSaid : Prop := Claim7.holds Tryd.pinned (.plain (OpenSpec.ofChange markOnceSpec)) markOnceCard

/-- THE TIED CARD OF 'topiarykeep.MarkContent'. -/
def markContentCard : Claim7 := { stood := { row := markContentRow, standIns := [], harness := (true, "2b9a7d6033a89739c771e537ad33024e69defe286ca02fbe6d1f6c7a5b86f020"), looks := true }, kinds := [], alts := [], laidByText := true, laidKinds := [.data, .widerDeep, .pinned], laidTests := true, laidLooks := .later }
def MarkContentCardSaid : Prop := Claim7.holds Tryd.pinned (.plain (OpenSpec.ofChange markContentSpec)) markContentCard

/-- THE TIED CARD OF 'topiarylaw.MarkParses'. -/
def markParsesCard : Claim7 := { stood := { row := markParsesRow, standIns := [], harness := (true, "2b9a7d6033a89739c771e537ad33024e69defe286ca02fbe6d1f6c7a5b86f020"), looks := true }, kinds := [], alts := [], laidByText := true, laidKinds := [.data, .widerDeep, .pinned], laidTests := true, laidLooks := .later }
def MarkParsesCardSaid : Prop := Claim7.holds Tryd.pinned (.plain (OpenSpec.ofChange markParsesSpec)) markParsesCard

/-- THE TIED CARD OF 'topiarylaw.MarkParts'. -/
def markPartsCard : Claim7 := { stood := { row := markPartsRow, standIns := [], harness := (true, "2b9a7d6033a89739c771e537ad33024e69defe286ca02fbe6d1f6c7a5b86f020"), looks := true }, kinds := [], alts := [], laidByText := true, laidKinds := [.data, .widerDeep, .pinned], laidTests := true, laidLooks := .later }
def MarkPartsCardSaid : Prop := Claim7.holds Tryd.pinned (.plain (OpenSpec.ofChange markPartsSpec)) markPartsCard

/-- THE TIED CARD OF 'topiarylaw.ChangeChecks'. -/
def changeChecksCard : Claim7 := { stood := { row := changeChecksRow, standIns := [], harness := (true, "2b9a7d6033a89739c771e537ad33024e69defe286ca02fbe6d1f6c7a5b86f020"), looks := true }, kinds := [], alts := [], laidByText := true, laidKinds := [.data, .pinned], laidTests := true, laidLooks := .later }
def ChangeChecksCardSaid : Prop := Claim7.holds Tryd.pinned (.plain (OpenSpec.ofChange changeChecksSpec)) changeChecksCard

/-- THE TIED CARD OF 'topiarylaw.MarkPrints'. -/
def markPrintsCard : Claim7 := { stood := { row := markPrintsRow, standIns := [], harness := (true, "2b9a7d6033a89739c771e537ad33024e69defe286ca02fbe6d1f6c7a5b86f020"), looks := true }, kinds := [], alts := [], laidByText := true, laidKinds := [.data, .widerDeep, .pinned], laidTests := true, laidLooks := .later }
def MarkPrintsCardSaid : Prop := Claim7.holds Tryd.pinned (.plain (OpenSpec.ofChange markPrintsSpec)) markPrintsCard

/-- THE TIED CARD OF 'topiarykeep.PathRises'. -/
def pathRisesCard : Claim7 := { stood := { row := pathRisesRow, standIns := [], harness := (true, "2b9a7d6033a89739c771e537ad33024e69defe286ca02fbe6d1f6c7a5b86f020"), looks := true }, kinds := [], alts := [], laidByText := true, laidKinds := [.data, .data, .data, .data, .sentinel, .sentinel, .pinned], laidTests := true, laidLooks := .later }
def PathRisesCardSaid : Prop := Claim7.holds Tryd.pinned (.plain (OpenSpec.ofChange pathRisesSpec)) pathRisesCard

/-- THE TIED CARD OF 'topiarykeep.PathPicks'. -/
def pathPicksCard : Claim7 := { stood := { row := pathPicksRow, standIns := [], harness := (true, "2b9a7d6033a89739c771e537ad33024e69defe286ca02fbe6d1f6c7a5b86f020"), looks := true }, kinds := [], alts := [], laidByText := true, laidKinds := [.data, .data, .data, .data, .sentinel, .sentinel, .pinned], laidTests := true, laidLooks := .later }
def PathPicksCardSaid : Prop := Claim7.holds Tryd.pinned (.plain (OpenSpec.ofChange pathPicksSpec)) pathPicksCard

/-- THE TIED CARD OF 'topiarykeep.PathAll'. -/
def pathAllCard : Claim7 := { stood := { row := pathAllRow, standIns := [], harness := (true, "2b9a7d6033a89739c771e537ad33024e69defe286ca02fbe6d1f6c7a5b86f020"), looks := true }, kinds := [], alts := [], laidByText := true, laidKinds := [.data, .data, .data, .data, .sentinel, .sentinel, .pinned], laidTests := true, laidLooks := .later }
def PathAllCardSaid : Prop := Claim7.holds Tryd.pinned (.plain (OpenSpec.ofChange pathAllSpec)) pathAllCard

/-- THE TIED CARD OF 'topiarylaw.PathParses'. -/
def pathParsesCard : Claim7 := { stood := { row := pathParsesRow, standIns := [], harness := (true, "2b9a7d6033a89739c771e537ad33024e69defe286ca02fbe6d1f6c7a5b86f020"), looks := true }, kinds := [], alts := [], laidByText := true, laidKinds := [.data, .data, .data, .data, .sentinel, .sentinel, .pinned], laidTests := true, laidLooks := .later }
def PathParsesCardSaid : Prop := Claim7.holds Tryd.pinned (.plain (OpenSpec.ofChange pathParsesSpec)) pathParsesCard

/-- THE SECOND FORM's CARD OF 'topiarylaw.TreeTells'. -/
def treeTellsUptoCard : Claim7 := { stood := { row := treeTellsUptoRow, standIns := [], harness := (true, "2b9a7d6033a89739c771e537ad33024e69defe286ca02fbe6d1f6c7a5b86f020"), looks := true }, kinds := [], alts := [], laidByText := true, laidKinds := [.data, .pinned], laidTests := true, laidLooks := .later }
def TreeTellsUptoCardSaid : Prop := Claim7.holds Tryd.pinned (.plain (OpenSpec.upto treeTellsSpec)) treeTellsUptoCard

/-- THE SECOND FORM's CARD OF 'topiarylaw.DocMakes'. -/
def docMakesUptoCard : Claim7 := { stood := { row := docMakesUptoRow, standIns := [], harness := (true, "2b9a7d6033a89739c771e537ad33024e69defe286ca02fbe6d1f6c7a5b86f020"), looks := true }, kinds := [], alts := [], laidByText := true, laidKinds := [.data, .pinned], laidTests := true, laidLooks := .later }
def DocMakesUptoCardSaid : Prop := Claim7.holds Tryd.pinned (.plain (OpenSpec.upto docMakesSpec)) docMakesUptoCard

/-- THE SECOND FORM's CARD OF 'topiarylaw.DocTells'. -/
def docTellsUptoCard : Claim7 := { stood := { row := docTellsUptoRow, standIns := [], harness := (true, "2b9a7d6033a89739c771e537ad33024e69defe286ca02fbe6d1f6c7a5b86f020"), looks := true }, kinds := [], alts := [], laidByText := true, laidKinds := [.data, .pinned], laidTests := true, laidLooks := .later }
def DocTellsUptoCardSaid : Prop := Claim7.holds Tryd.pinned (.plain (OpenSpec.upto docTellsSpec)) docTellsUptoCard

/-- THE SECOND FORM's CARD OF 'topiarykeep.MarkBack'. -/
def markBackUptoCard : Claim7 := { stood := { row := markBackUptoRow, standIns := [], harness := (true, "2b9a7d6033a89739c771e537ad33024e69defe286ca02fbe6d1f6c7a5b86f020"), looks := true }, kinds := [], alts := [], laidByText := true, laidKinds := [.data, .widerDeep, .pinned], laidTests := true, laidLooks := .later }
def MarkBackUptoCardSaid : Prop := Claim7.holds Tryd.pinned (.plain (OpenSpec.upto markBackSpec)) markBackUptoCard

/-- THE SECOND FORM's CARD OF 'topiarykeep.MarkOnce'. -/
def markOnceUptoCard : Claim7 := { stood := { row := markOnceUptoRow, standIns := [], harness := (true, "2b9a7d6033a89739c771e537ad33024e69defe286ca02fbe6d1f6c7a5b86f020"), looks := true }, kinds := [], alts := [], laidByText := true, laidKinds := [.data, .widerDeep, .pinned], laidTests := true, laidLooks := .later }
def MarkOnceUptoCardSaid : Prop := Claim7.holds Tryd.pinned (.plain (OpenSpec.upto markOnceSpec)) markOnceUptoCard

/-- THE SECOND FORM's CARD OF 'topiarykeep.MarkContent'. -/
def markContentUptoCard : Claim7 := { stood := { row := markContentUptoRow, standIns := [], harness := (true, "2b9a7d6033a89739c771e537ad33024e69defe286ca02fbe6d1f6c7a5b86f020"), looks := true }, kinds := [], alts := [], laidByText := true, laidKinds := [.data, .widerDeep, .pinned], laidTests := true, laidLooks := .later }
def MarkContentUptoCardSaid : Prop := Claim7.holds Tryd.pinned (.plain (OpenSpec.upto markContentSpec)) markContentUptoCard

/-- THE SECOND FORM's CARD OF 'topiarylaw.MarkParses'. -/
def markParsesUptoCard : Claim7 := { stood := { row := markParsesUptoRow, standIns := [], harness := (true, "2b9a7d6033a89739c771e537ad33024e69defe286ca02fbe6d1f6c7a5b86f020"), looks := true }, kinds := [], alts := [], laidByText := true, laidKinds := [.data, .widerDeep, .pinned], laidTests := true, laidLooks := .later }
def MarkParsesUptoCardSaid : Prop := Claim7.holds Tryd.pinned (.plain (OpenSpec.upto markParsesSpec)) markParsesUptoCard

/-- THE SECOND FORM's CARD OF 'topiarylaw.MarkParts'. -/
def markPartsUptoCard : Claim7 := { stood := { row := markPartsUptoRow, standIns := [], harness := (true, "2b9a7d6033a89739c771e537ad33024e69defe286ca02fbe6d1f6c7a5b86f020"), looks := true }, kinds := [], alts := [], laidByText := true, laidKinds := [.data, .widerDeep, .pinned], laidTests := true, laidLooks := .later }
def MarkPartsUptoCardSaid : Prop := Claim7.holds Tryd.pinned (.plain (OpenSpec.upto markPartsSpec)) markPartsUptoCard

/-- THE SECOND FORM's CARD OF 'topiarylaw.ChangeChecks'. -/
def changeChecksUptoCard : Claim7 := { stood := { row := changeChecksUptoRow, standIns := [], harness := (true, "2b9a7d6033a89739c771e537ad33024e69defe286ca02fbe6d1f6c7a5b86f020"), looks := true }, kinds := [], alts := [], laidByText := true, laidKinds := [.data, .pinned], laidTests := true, laidLooks := .later }
def ChangeChecksUptoCardSaid : Prop := Claim7.holds Tryd.pinned (.plain (OpenSpec.upto changeChecksSpec)) changeChecksUptoCard

/-- THE SECOND FORM's CARD OF 'topiarylaw.MarkPrints'. -/
def markPrintsUptoCard : Claim7 := { stood := { row := markPrintsUptoRow, standIns := [], harness := (true, "2b9a7d6033a89739c771e537ad33024e69defe286ca02fbe6d1f6c7a5b86f020"), looks := true }, kinds := [], alts := [], laidByText := true, laidKinds := [.data, .widerDeep, .pinned], laidTests := true, laidLooks := .later }
def MarkPrintsUptoCardSaid : Prop := Claim7.holds Tryd.pinned (.plain (OpenSpec.upto markPrintsSpec)) markPrintsUptoCard

/-- THE SECOND FORM's CARD OF 'topiarykeep.PathRises'. -/
def pathRisesUptoCard : Claim7 := { stood := { row := pathRisesUptoRow, standIns := [], harness := (true, "2b9a7d6033a89739c771e537ad33024e69defe286ca02fbe6d1f6c7a5b86f020"), looks := true }, kinds := [], alts := [], laidByText := true, laidKinds := [.data, .data, .data, .data, .sentinel, .sentinel, .pinned], laidTests := true, laidLooks := .later }
def PathRisesUptoCardSaid : Prop := Claim7.holds Tryd.pinned (.plain (OpenSpec.upto pathRisesSpec)) pathRisesUptoCard

/-- THE SECOND FORM's CARD OF 'topiarykeep.PathPicks'. -/
def pathPicksUptoCard : Claim7 := { stood := { row := pathPicksUptoRow, standIns := [], harness := (true, "2b9a7d6033a89739c771e537ad33024e69defe286ca02fbe6d1f6c7a5b86f020"), looks := true }, kinds := [], alts := [], laidByText := true, laidKinds := [.data, .data, .data, .data, .sentinel, .sentinel, .pinned], laidTests := true, laidLooks := .later }
def PathPicksUptoCardSaid : Prop := Claim7.holds Tryd.pinned (.plain (OpenSpec.upto pathPicksSpec)) pathPicksUptoCard

/-- THE SECOND FORM's CARD OF 'topiarykeep.PathAll'. -/
def pathAllUptoCard : Claim7 := { stood := { row := pathAllUptoRow, standIns := [], harness := (true, "2b9a7d6033a89739c771e537ad33024e69defe286ca02fbe6d1f6c7a5b86f020"), looks := true }, kinds := [], alts := [], laidByText := true, laidKinds := [.data, .data, .data, .data, .sentinel, .sentinel, .pinned], laidTests := true, laidLooks := .later }
def PathAllUptoCardSaid : Prop := Claim7.holds Tryd.pinned (.plain (OpenSpec.upto pathAllSpec)) pathAllUptoCard

/-- THE SECOND FORM's CARD OF 'topiarylaw.PathParses'. -/
def pathParsesUptoCard : Claim7 := { stood := { row := pathParsesUptoRow, standIns := [], harness := (true, "2b9a7d6033a89739c771e537ad33024e69defe286ca02fbe6d1f6c7a5b86f020"), looks := true }, kinds := [], alts := [], laidByText := true, laidKinds := [.data, .data, .data, .data, .sentinel, .sentinel, .pinned], laidTests := true, laidLooks := .later }
def PathParsesUptoCardSaid : Prop := Claim7.holds Tryd.pinned (.plain (OpenSpec.upto pathParsesSpec)) pathParsesUptoCard
end Rows
end Go.Proofs.YtfinkeaikbmpgaaDoor
