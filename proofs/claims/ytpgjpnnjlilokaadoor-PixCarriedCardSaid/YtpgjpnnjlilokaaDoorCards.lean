/-
  DERIVED. GIVEN WITH THE SEED: THE CARDS: each row of YtpgjpnnjlilokaaDoorRows.lean that lists a variable, with what it lists TIED to the program's text (the seventh form; the later family's looks); each row that meets fmt, with fmt's text TOLD by the authors' own Lean function (tested against real Go, not proved from fmt's source: count such statements apart). THE CARD IS WHAT COUNTS. Prove the row's statement (the work); the ties are given (YtpgjpnnjlilokaaDoorTie.lean); close each card by the builder's one call (the guide's Derived/Test/ToyasCard.lean, 'card_holds'). Laid BY PROGRAM, IN A SANDBOX (cutbox-door.mjs). By AI agents, Wed Nov 11 2026. No macro, syntax, notation, axiom, sorry.
-/
import Derived.Test.YtpgjpnnjlilokaaDoorRows
import GoSem.ClaimSeven
namespace Go.Proofs.YtpgjpnnjlilokaaDoor
namespace Rows

/-- THE TIED CARD OF 'tintlaw1.PixTexts'. -/
def pixTextsCard : Claim7 := { stood := { row := pixTextsRow, standIns := [], harness := (true, "f78525c7e48f1ca176586b8855f6bc4bfbb33a7e2f27aaafd62c2ca1a3acc19b"), looks := true }, kinds := [], alts := [], laidByText := true, laidKinds := [.data, .data, .data], laidTests := true, laidLooks := .later }
def PixTextsCardSaid : Prop := Claim7.holds Tryd.pinned (.plain (OpenSpec.ofChange pixTextsSpec)) pixTextsCard

/-- THE TIED CARD OF 'tintlaw1.PixReads'. -/
def pixReadsCard : Claim7 := { stood := { row := pixReadsRow, standIns := [], harness := (true, "f78525c7e48f1ca176586b8855f6bc4bfbb33a7e2f27aaafd62c2ca1a3acc19b"), looks := true }, kinds := [], alts := [], laidByText := true, laidKinds := [.data, .data, .data, .data, .sentinel, .sentinel, .pinned], laidTests := true, laidLooks := .later }
def PixReadsCardSaid : Prop := Claim7.holds Tryd.pinned (.plain (OpenSpec.ofChange pixReadsSpec)) pixReadsCard

/-- THE TIED CARD OF 'tintkeep1.PixCarried'. -/
def pixCarriedCard : Claim7 := { stood := { row := pixCarriedRow, standIns := [], harness := (true, "f78525c7e48f1ca176586b8855f6bc4bfbb33a7e2f27aaafd62c2ca1a3acc19b"), looks := true }, kinds := [], alts := [], laidByText := true, laidKinds := [.data, .data, .data, .data, .sentinel, .sentinel, .pinned], laidTests := true, laidLooks := .later }
def PixCarriedCardSaid : Prop := Claim7.holds Tryd.pinned (.plain (OpenSpec.ofChange pixCarriedSpec)) pixCarriedCard

/-- THE SECOND FORM's CARD OF 'tintlaw1.PixTexts'. -/
def pixTextsUptoCard : Claim7 := { stood := { row := pixTextsUptoRow, standIns := [], harness := (true, "f78525c7e48f1ca176586b8855f6bc4bfbb33a7e2f27aaafd62c2ca1a3acc19b"), looks := true }, kinds := [], alts := [], laidByText := true, laidKinds := [.data, .data, .data], laidTests := true, laidLooks := .later }
def PixTextsUptoCardSaid : Prop := Claim7.holds Tryd.pinned (.plain (OpenSpec.upto pixTextsSpec)) pixTextsUptoCard

/-- THE SECOND FORM's CARD OF 'tintlaw1.PixReads'. -/
def pixReadsUptoCard : Claim7 := { stood := { row := pixReadsUptoRow, standIns := [], harness := (true, "f78525c7e48f1ca176586b8855f6bc4bfbb33a7e2f27aaafd62c2ca1a3acc19b"), looks := true }, kinds := [], alts := [], laidByText := true, laidKinds := [.data, .data, .data, .data, .sentinel, .sentinel, .pinned], laidTests := true, laidLooks := .later }
def PixReadsUptoCardSaid : Prop := Claim7.holds Tryd.pinned (.plain (OpenSpec.upto pixReadsSpec)) pixReadsUptoCard

/-- THE SECOND FORM's CARD OF 'tintkeep1.PixCarried'. -/
def pixCarriedUptoCard : Claim7 := { stood := { row := pixCarriedUptoRow, standIns := [], harness := (true, "f78525c7e48f1ca176586b8855f6bc4bfbb33a7e2f27aaafd62c2ca1a3acc19b"), looks := true }, kinds := [], alts := [], laidByText := true, laidKinds := [.data, .data, .data, .data, .sentinel, .sentinel, .pinned], laidTests := true, laidLooks := .later }
def PixCarriedUptoCardSaid : Prop := Claim7.holds Tryd.pinned (.plain (OpenSpec.upto pixCarriedSpec)) pixCarriedUptoCard
end Rows
end Go.Proofs.YtpgjpnnjlilokaaDoor
