/-
  DERIVED. GIVEN WITH THE SEED: THE CARDS: each row of YtbbgebpgpadclaaGreatDoorRows.lean that lists a variable, with what it lists TIED to the program's text (the seventh form; the later family's looks); each row that meets fmt, with fmt's text TOLD by the authors' own Lean function (tested against real Go, not proved from fmt's source: count such statements apart). THE CARD IS WHAT COUNTS. Prove the row's statement (the work); the ties are given (YtbbgebpgpadclaaGreatDoorTie.lean); close each card by the builder's one call (the guide's Derived/Test/ToyasCard.lean, 'card_holds'). Laid BY PROGRAM, IN A SANDBOX (cutbox-door.mjs). By AI agents, Wed Nov 11 2026. No macro, syntax, notation, axiom, sorry.
-/
import Derived.Test.YtbbgebpgpadclaaGreatDoorRows
import GoSem.ClaimSeven
namespace Go.Proofs.YtbbgebpgpadclaaGreatDoor
namespace Rows

/-- THE TIED CARD OF 'tintlaw1.StoreTextReads'. -/
def storeTextReadsCard : Claim7 := { stood := { row := storeTextReadsRow, standIns := [], harness := (true, "674fa8d0a4671fa3c34d66d4ace92a3998dfd21d5addc25450f42a347babb67a"), looks := true }, kinds := [], alts := [], laidByText := true, laidKinds := [.data, .data, .data, .data, .sentinel, .sentinel, .pinned], laidTests := true, laidLooks := .later }
def StoreTextReadsCardSaid : Prop := Claim7.holds Tryz.pinned (.plain (OpenSpec.ofChange storeTextReadsSpec)) storeTextReadsCard

/-- THE TIED CARD OF 'tintkeep1.StoreCarried'. -/
def storeCarriedCard : Claim7 := { stood := { row := storeCarriedRow, standIns := [], harness := (true, "674fa8d0a4671fa3c34d66d4ace92a3998dfd21d5addc25450f42a347babb67a"), looks := true }, kinds := [], alts := [], laidByText := true, laidKinds := [.data, .data, .data, .data, .sentinel, .sentinel, .pinned], laidTests := true, laidLooks := .later }
def StoreCarriedCardSaid : Prop := Claim7.holds Tryz.pinned (.plain (OpenSpec.ofChange storeCarriedSpec)) storeCarriedCard

/-- THE SECOND FORM's CARD OF 'tintlaw1.StoreTextReads'. -/
def storeTextReadsUptoCard : Claim7 := { stood := { row := storeTextReadsUptoRow, standIns := [], harness := (true, "674fa8d0a4671fa3c34d66d4ace92a3998dfd21d5addc25450f42a347babb67a"), looks := true }, kinds := [], alts := [], laidByText := true, laidKinds := [.data, .data, .data, .data, .sentinel, .sentinel, .pinned], laidTests := true, laidLooks := .later }
def StoreTextReadsUptoCardSaid : Prop := Claim7.holds Tryz.pinned (.plain (OpenSpec.upto storeTextReadsSpec)) storeTextReadsUptoCard

/-- THE SECOND FORM's CARD OF 'tintkeep1.StoreCarried'. -/
def storeCarriedUptoCard : Claim7 := { stood := { row := storeCarriedUptoRow, standIns := [], harness := (true, "674fa8d0a4671fa3c34d66d4ace92a3998dfd21d5addc25450f42a347babb67a"), looks := true }, kinds := [], alts := [], laidByText := true, laidKinds := [.data, .data, .data, .data, .sentinel, .sentinel, .pinned], laidTests := true, laidLooks := .later }
def StoreCarriedUptoCardSaid : Prop := Claim7.holds Tryz.pinned (.plain (OpenSpec.upto storeCarriedSpec)) storeCarriedUptoCard
end Rows
end Go.Proofs.YtbbgebpgpadclaaGreatDoor
