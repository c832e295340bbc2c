/-
  DERIVED. GIVEN WITH THE SEED: THE CARDS: each row of YtmpjnbhdlfneaaaGreatDoorRows.lean that lists a variable, with what it lists TIED to the program's text (the seventh form; the later family's looks); each row that meets fmt, with fmt's text TOLD by the authors' own Lean function (tested against real Go, not proved from fmt's source: count such statements apart). THE CARD IS WHAT COUNTS. Prove the row's statement (the work); the ties are given (YtmpjnbhdlfneaaaGreatDoorTie.lean); close each card by the builder's one call (the guide's Derived/Test/ToyasCard.lean, 'card_holds'). Laid BY PROGRAM, IN A SANDBOX (cutbox-door.mjs). By AI agents, Wed Nov 11 2026. No macro, syntax, notation, axiom, sorry.
-/
import Derived.Test.YtmpjnbhdlfneaaaGreatDoorRows
import GoSem.ClaimSeven
namespace Go.Proofs.YtmpjnbhdlfneaaaGreatDoor
namespace Rows

/-- THE TIED CARD OF 'tintlaw1.DeskExports'. -/
def deskExportsCard : Claim7 := { stood := { row := deskExportsRow, standIns := [], harness := (true, "b5987b2ecd72a5e8f9460a9e6539dbe8b8f6c80450200f36c1cc7c27485856c8"), looks := true }, kinds := [], alts := [], laidByText := true, laidKinds := [.data, .data, .data], laidTests := true, laidLooks := .later }
def DeskExportsCardSaid : Prop := Claim7.holds Tryz.pinned (.plain (OpenSpec.ofChange deskExportsSpec)) deskExportsCard

/-- THE TIED CARD OF 'tintlaw1.DeskImports'. -/
def deskImportsCard : Claim7 := { stood := { row := deskImportsRow, standIns := [], harness := (true, "b5987b2ecd72a5e8f9460a9e6539dbe8b8f6c80450200f36c1cc7c27485856c8"), looks := true }, kinds := [], alts := [], laidByText := true, laidKinds := [.data, .data, .data, .data, .sentinel, .sentinel, .pinned], laidTests := true, laidLooks := .later }
def DeskImportsCardSaid : Prop := Claim7.holds Tryz.pinned (.plain (OpenSpec.ofChange deskImportsSpec)) deskImportsCard

/-- THE SECOND FORM's CARD OF 'tintlaw1.DeskExports'. -/
def deskExportsUptoCard : Claim7 := { stood := { row := deskExportsUptoRow, standIns := [], harness := (true, "b5987b2ecd72a5e8f9460a9e6539dbe8b8f6c80450200f36c1cc7c27485856c8"), looks := true }, kinds := [], alts := [], laidByText := true, laidKinds := [.data, .data, .data], laidTests := true, laidLooks := .later }
def DeskExportsUptoCardSaid : Prop := Claim7.holds Tryz.pinned (.plain (OpenSpec.upto deskExportsSpec)) deskExportsUptoCard

/-- THE SECOND FORM's CARD OF 'tintlaw1.DeskImports'. -/
def deskImportsUptoCard : Claim7 := { stood := { row := deskImportsUptoRow, standIns := [], harness := (true, "b5987b2ecd72a5e8f9460a9e6539dbe8b8f6c80450200f36c1cc7c27485856c8"), looks := true }, kinds := [], alts := [], laidByText := true, laidKinds := [.data, .data, .data, .data, .sentinel, .sentinel, .pinned], laidTests := true, laidLooks := .later }
def DeskImportsUptoCardSaid : Prop := Claim7.holds Tryz.pinned (.plain (OpenSpec.upto deskImportsSpec)) deskImportsUptoCard
end Rows
end Go.Proofs.YtmpjnbhdlfneaaaGreatDoor
