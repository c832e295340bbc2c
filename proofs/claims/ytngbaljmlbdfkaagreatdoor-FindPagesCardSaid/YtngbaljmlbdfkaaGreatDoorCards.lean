/-
  DERIVED. GIVEN WITH THE SEED: THE CARDS: each row of YtngbaljmlbdfkaaGreatDoorRows.lean that lists a variable, with what it lists TIED to the program's text (the seventh form; the later family's looks); each row that meets fmt, with fmt's text TOLD by the authors' own Lean function (tested against real Go, not proved from fmt's source: count such statements apart). THE CARD IS WHAT COUNTS. Prove the row's statement (the work); the ties are given (YtngbaljmlbdfkaaGreatDoorTie.lean); close each card by the builder's one call (the guide's Derived/Test/ToyasCard.lean, 'card_holds'). Laid BY PROGRAM, IN A SANDBOX (cutbox-door.mjs). By AI agents, Wed Nov 11 2026. No macro, syntax, notation, axiom, sorry.
-/
import Derived.Test.YtngbaljmlbdfkaaGreatDoorRows
import GoSem.ClaimSeven
namespace Go.Proofs.YtngbaljmlbdfkaaGreatDoor
namespace Rows

/-- THE TIED CARD OF 'tintlaw1.FindAsks'. -/
def findAsksCard : Claim7 := { stood := { row := findAsksRow, standIns := [], harness := (true, "db4b021e147b4c72ff0e2ed10ee5c42e37ce4c687ca8ccdd27a04516b1984f09"), looks := true }, kinds := [], alts := [], laidByText := true, laidKinds := [.data, .data, .data, .sentinel, .sentinel], laidTests := true, laidLooks := .later }
def FindAsksCardSaid : Prop := Claim7.holds Tryz.pinned (.plain (OpenSpec.ofChange findAsksSpec)) findAsksCard

/-- THE TIED CARD OF 'tintkeep1.FindLogic'. -/
def findLogicCard : Claim7 := { stood := { row := findLogicRow, standIns := [], harness := (true, "db4b021e147b4c72ff0e2ed10ee5c42e37ce4c687ca8ccdd27a04516b1984f09"), looks := true }, kinds := [], alts := [], laidByText := true, laidKinds := [.data, .data, .data, .data, .sentinel, .sentinel, .pinned], laidTests := true, laidLooks := .later }
def FindLogicCardSaid : Prop := Claim7.holds Tryz.pinned (.plain (OpenSpec.ofChange findLogicSpec)) findLogicCard

/-- THE TIED CARD OF 'tintkeep1.FindPages'. -/
def findPagesCard : Claim7 := { stood := { row := findPagesRow, standIns := [], harness := (true, "db4b021e147b4c72ff0e2ed10ee5c42e37ce4c687ca8ccdd27a04516b1984f09"), looks := true }, kinds := [], alts := [], laidByText := true, laidKinds := [.data, .data, .data, .data, .sentinel, .sentinel, .pinned], laidTests := true, laidLooks := .later }
def FindPagesCardSaid : Prop := Claim7.holds Tryz.pinned (.plain (OpenSpec.ofChange findPagesSpec)) findPagesCard

/-- THE SECOND FORM's CARD OF 'tintlaw1.FindAsks'. -/
def findAsksUptoCard : Claim7 := { stood := { row := findAsksUptoRow, standIns := [], harness := (true, "db4b021e147b4c72ff0e2ed10ee5c42e37ce4c687ca8ccdd27a04516b1984f09"), looks := true }, kinds := [], alts := [], laidByText := true, laidKinds := [.data, .data, .data, .sentinel, .sentinel], laidTests := true, laidLooks := .later }
def FindAsksUptoCardSaid : Prop := Claim7.holds Tryz.pinned (.plain (OpenSpec.upto findAsksSpec)) findAsksUptoCard

/-- THE SECOND FORM's CARD OF 'tintkeep1.FindLogic'. -/
def findLogicUptoCard : Claim7 := { stood := { row := findLogicUptoRow, standIns := [], harness := (true, "db4b021e147b4c72ff0e2ed10ee5c42e37ce4c687ca8ccdd27a04516b1984f09"), looks := true }, kinds := [], alts := [], laidByText := true, laidKinds := [.data, .data, .data, .data, .sentinel, .sentinel, .pinned], laidTests := true, laidLooks := .later }
def FindLogicUptoCardSaid : Prop := Claim7.holds Tryz.pinned (.plain (OpenSpec.upto findLogicSpec)) findLogicUptoCard

/-- THE SECOND FORM's CARD OF 'tintkeep1.FindPages'. -/
def findPagesUptoCard : Claim7 := { stood := { row := findPagesUptoRow, standIns := [], harness := (true, "db4b021e147b4c72ff0e2ed10ee5c42e37ce4c687ca8ccdd27a04516b1984f09"), looks := true }, kinds := [], alts := [], laidByText := true, laidKinds := [.data, .data, .data, .data, .sentinel, .sentinel, .pinned], laidTests := true, laidLooks := .later }
def FindPagesUptoCardSaid : Prop := Claim7.holds Tryz.pinned (.plain (OpenSpec.upto findPagesSpec)) findPagesUptoCard
end Rows
end Go.Proofs.YtngbaljmlbdfkaaGreatDoor
