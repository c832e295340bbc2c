/-
  DERIVED. GIVEN WITH THE SEED: THE CARDS: each row of YthdiccdnggloiaaDoorRows.lean that lists a variable, with what it lists TIED to the program's text (the seventh form; the later family's looks); each row that meets fmt, with fmt's text TOLD by the authors' own Lean function (tested against real Go, not proved from fmt's source: count such statements apart). THE CARD IS WHAT COUNTS. Prove the row's statement (the work); the ties are given (YthdiccdnggloiaaDoorTie.lean); close each card by the builder's one call (the guide's Derived/Test/ToyasCard.lean, 'card_holds'). Laid BY PROGRAM, IN A SANDBOX (cutbox-door.mjs). By AI agents, Wed Nov 11 2026. No macro, syntax, notation, axiom, sorry.
-/
import Derived.Test.YthdiccdnggloiaaDoorRows
import GoSem.ClaimSeven
namespace Go.Proofs.YthdiccdnggloiaaDoor
namespace Rows

/-- THE TIED CARD OF 'tintlaw1.StoreReads'. -/
def storeReadsCard : Claim7 := { stood := { row := storeReadsRow, standIns := [], harness := (true, "70d174ddcad3f970700e4c0f8c99ca7d6e765c1a9773daf5e9b2ec8dbbfe0c03"), looks := false }, kinds := [], alts := [], laidByText := true, laidKinds := [.data, .pinned], laidTests := true, laidLooks := .later }
def StoreReadsCardSaid : Prop := Claim7.holds Tryd.pinned (.plain (OpenSpec.ofChange storeReadsSpec)) storeReadsCard

/-- THE TIED CARD OF 'tintlaw1.StoreTexts'. -/
def storeTextsCard : Claim7 := { stood := { row := storeTextsRow, standIns := [], harness := (true, "70d174ddcad3f970700e4c0f8c99ca7d6e765c1a9773daf5e9b2ec8dbbfe0c03"), looks := false }, kinds := [], alts := [], laidByText := true, laidKinds := [.data, .data, .data, .data, .pinned], laidTests := true, laidLooks := .later }
def StoreTextsCardSaid : Prop := Claim7.holds Tryd.pinned (.plain (OpenSpec.ofChange storeTextsSpec)) storeTextsCard

/-- THE SECOND FORM's CARD OF 'tintlaw1.StoreReads'. -/
def storeReadsUptoCard : Claim7 := { stood := { row := storeReadsUptoRow, standIns := [], harness := (true, "70d174ddcad3f970700e4c0f8c99ca7d6e765c1a9773daf5e9b2ec8dbbfe0c03"), looks := false }, kinds := [], alts := [], laidByText := true, laidKinds := [.data, .pinned], laidTests := true, laidLooks := .later }
def StoreReadsUptoCardSaid : Prop := Claim7.holds Tryd.pinned (.plain (OpenSpec.upto storeReadsSpec)) storeReadsUptoCard

/-- THE SECOND FORM's CARD OF 'tintlaw1.StoreTexts'. -/
def storeTextsUptoCard : Claim7 := { stood := { row := storeTextsUptoRow, standIns := [], harness := (true, "70d174ddcad3f970700e4c0f8c99ca7d6e765c1a9773daf5e9b2ec8dbbfe0c03"), looks := false }, kinds := [], alts := [], laidByText := true, laidKinds := [.data, .data, .data, .data, .pinned], laidTests := true, laidLooks := .later }
def StoreTextsUptoCardSaid : Prop := Claim7.holds Tryd.pinned (.plain (OpenSpec.upto storeTextsSpec)) storeTextsUptoCard
end Rows
end Go.Proofs.YthdiccdnggloiaaDoor
