/-
  DERIVED. GIVEN WITH THE SEED: THE CARDS: each row of YtfeijflhfhkbnaaGreatDoorRows.lean that lists a variable, with what it lists TIED to the program's text (the seventh form; the later family's looks); each row that meets fmt, with fmt's text TOLD by the authors' own Lean function (tested against real Go, not proved from fmt's source: count such statements apart). THE CARD IS WHAT COUNTS. Prove the row's statement (the work); the ties are given (YtfeijflhfhkbnaaGreatDoorTie.lean); close each card by the builder's one call (the guide's Derived/Test/ToyasCard.lean, 'card_holds'). Laid BY PROGRAM, IN A SANDBOX (cutbox-door.mjs). By AI agents, Wed Nov 11 2026. No macro, syntax, notation, axiom, sorry.
-/
import Derived.Test.YtfeijflhfhkbnaaGreatDoorRows
import GoSem.ClaimSeven
namespace Go.Proofs.YtfeijflhfhkbnaaGreatDoor
namespace Rows

/-- THE TIED CARD OF 'topiarylaw.StoreLines'. -/
def storeLinesCard : Claim7 := { stood := { row := storeLinesRow, standIns := [], harness := (true, "d9b0996d28aaa74aad0eccd354b968f80c7e713d7c092c355e8c65a8a0aaac04"), looks := true }, kinds := [], alts := [], laidByText := true, laidKinds := [.data, .data, .data, .data, .sentinel, .sentinel, .widerDeep, .widerDeep, .pinned], laidTests := true, laidLooks := .later }
def StoreLinesCardSaid : Prop := Claim7.holds Tryz.pinned (.plain (OpenSpec.ofChange storeLinesSpec)) storeLinesCard

/-- THE TIED CARD OF 'topiarylaw.StorePlays'. -/
def storePlaysCard : Claim7 := { stood := { row := storePlaysRow, standIns := [], harness := (true, "d9b0996d28aaa74aad0eccd354b968f80c7e713d7c092c355e8c65a8a0aaac04"), looks := true }, kinds := [], alts := [], laidByText := true, laidKinds := [.data, .data, .data, .data, .sentinel, .sentinel, .widerDeep, .widerDeep, .pinned], laidTests := true, laidLooks := .later }
def StorePlaysCardSaid : Prop := Claim7.holds Tryz.pinned (.plain (OpenSpec.ofChange storePlaysSpec)) storePlaysCard

/-- THE TIED CARD OF 'topiarylaw.StoreRuns'. -/
def storeRunsCard : Claim7 := { stood := { row := storeRunsRow, standIns := [], harness := (true, "d9b0996d28aaa74aad0eccd354b968f80c7e713d7c092c355e8c65a8a0aaac04"), looks := true }, kinds := [], alts := [], laidByText := true, laidKinds := [.data, .data, .data, .data, .sentinel, .sentinel, .widerDeep, .widerDeep, .pinned], laidTests := true, laidLooks := .later }
def StoreRunsCardSaid : Prop := Claim7.holds Tryz.pinned (.plain (OpenSpec.ofChange storeRunsSpec)) storeRunsCard

/-- THE SECOND FORM's CARD OF 'topiarylaw.StoreLines'. -/
def storeLinesUptoCard : Claim7 := { stood := { row := storeLinesUptoRow, standIns := [], harness := (true, "d9b0996d28aaa74aad0eccd354b968f80c7e713d7c092c355e8c65a8a0aaac04"), looks := true }, kinds := [], alts := [], laidByText := true, laidKinds := [.data, .data, .data, .data, .sentinel, .sentinel, .widerDeep, .widerDeep, .pinned], laidTests := true, laidLooks := .later }
def StoreLinesUptoCardSaid : Prop := Claim7.holds Tryz.pinned (.plain (OpenSpec.upto storeLinesSpec)) storeLinesUptoCard

/-- THE SECOND FORM's CARD OF 'topiarylaw.StorePlays'. -/
def storePlaysUptoCard : Claim7 := { stood := { row := storePlaysUptoRow, standIns := [], harness := (true, "d9b0996d28aaa74aad0eccd354b968f80c7e713d7c092c355e8c65a8a0aaac04"), looks := true }, kinds := [], alts := [], laidByText := true, laidKinds := [.data, .data, .data, .data, .sentinel, .sentinel, .widerDeep, .widerDeep, .pinned], laidTests := true, laidLooks := .later }
def StorePlaysUptoCardSaid : Prop := Claim7.holds Tryz.pinned (.plain (OpenSpec.upto storePlaysSpec)) storePlaysUptoCard

/-- THE SECOND FORM's CARD OF 'topiarylaw.StoreRuns'. -/
def storeRunsUptoCard : Claim7 := { stood := { row := storeRunsUptoRow, standIns := [], harness := (true, "d9b0996d28aaa74aad0eccd354b968f80c7e713d7c092c355e8c65a8a0aaac04"), looks := true }, kinds := [], alts := [], laidByText := true, laidKinds := [.data, .data, .data, .data, .sentinel, .sentinel, .widerDeep, .widerDeep, .pinned], laidTests := true, laidLooks := .later }
def StoreRunsUptoCardSaid : Prop := Claim7.holds Tryz.pinned (.plain (OpenSpec.upto storeRunsSpec)) storeRunsUptoCard
end Rows
end Go.Proofs.YtfeijflhfhkbnaaGreatDoor
