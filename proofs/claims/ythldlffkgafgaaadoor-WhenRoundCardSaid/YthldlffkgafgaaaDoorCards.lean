/-
  DERIVED. GIVEN WITH THE SEED: THE CARDS: each row of YthldlffkgafgaaaDoorRows.lean that lists a variable, with what it lists TIED to the program's text (the seventh form; the later family's looks); each row that meets fmt, with fmt's text TOLD by the authors' own Lean function (tested against real Go, not proved from fmt's source: count such statements apart). THE CARD IS WHAT COUNTS. Prove the row's statement (the work); the ties are given (YthldlffkgafgaaaDoorTie.lean); close each card by the builder's one call (the guide's Derived/Test/ToyasCard.lean, 'card_holds'). Laid BY PROGRAM, IN A SANDBOX (cutbox-door.mjs). By AI agents, Wed Nov 11 2026. No macro, syntax, notation, axiom, sorry.
-/
import Derived.Test.YthldlffkgafgaaaDoorRows
import GoSem.ClaimSeven
namespace Go.Proofs.YthldlffkgafgaaaDoor
namespace Rows

/-- THE TIED CARD OF 'tintlaw1.WhenStamps'. -/
def whenStampsCard : Claim7 := { stood := { row := whenStampsRow, standIns := [], harness := (true, "be0900438d114a86e56af8399f5fd98445d69264eda324d6ba6902690d1ee665"), looks := true }, kinds := [], alts := [], laidByText := true, laidKinds := [.data, .data, .data], laidTests := true, laidLooks := .later }
def WhenStampsCardSaid : Prop := Claim7.holds Tryd.pinned (.plain (OpenSpec.ofChange whenStampsSpec)) whenStampsCard

/-- THE TIED CARD OF 'tintkeep1.WhenRising'. -/
def whenRisingCard : Claim7 := { stood := { row := whenRisingRow, standIns := [], harness := (true, "be0900438d114a86e56af8399f5fd98445d69264eda324d6ba6902690d1ee665"), looks := true }, kinds := [], alts := [], laidByText := true, laidKinds := [.data, .data, .data], laidTests := true, laidLooks := .later }
def WhenRisingCardSaid : Prop := Claim7.holds Tryd.pinned (.plain (OpenSpec.ofChange whenRisingSpec)) whenRisingCard

/-- THE TIED CARD OF 'tintkeep1.WhenLocal'. -/
def whenLocalCard : Claim7 := { stood := { row := whenLocalRow, standIns := [], harness := (true, "be0900438d114a86e56af8399f5fd98445d69264eda324d6ba6902690d1ee665"), looks := true }, kinds := [], alts := [], laidByText := true, laidKinds := [.data, .data, .data], laidTests := true, laidLooks := .later }
def WhenLocalCardSaid : Prop := Claim7.holds Tryd.pinned (.plain (OpenSpec.ofChange whenLocalSpec)) whenLocalCard

/-- THE TIED CARD OF 'tintkeep1.WhenParts'. -/
def whenPartsCard : Claim7 := { stood := { row := whenPartsRow, standIns := [], harness := (true, "be0900438d114a86e56af8399f5fd98445d69264eda324d6ba6902690d1ee665"), looks := true }, kinds := [], alts := [], laidByText := true, laidKinds := [.data, .data, .data], laidTests := true, laidLooks := .later }
def WhenPartsCardSaid : Prop := Claim7.holds Tryd.pinned (.plain (OpenSpec.ofChange whenPartsSpec)) whenPartsCard

/-- THE TIED CARD OF 'tintlaw1.WhenReads'. -/
def whenReadsCard : Claim7 := { stood := { row := whenReadsRow, standIns := [], harness := (true, "be0900438d114a86e56af8399f5fd98445d69264eda324d6ba6902690d1ee665"), looks := true }, kinds := [], alts := [], laidByText := true, laidKinds := [.data, .data, .data, .data, .sentinel, .sentinel, .pinned], laidTests := true, laidLooks := .later }
def WhenReadsCardSaid : Prop := Claim7.holds Tryd.pinned (.plain (OpenSpec.ofChange whenReadsSpec)) whenReadsCard

/-- THE TIED CARD OF 'tintlaw1.WhenSpans'. -/
def whenSpansCard : Claim7 := { stood := { row := whenSpansRow, standIns := [], harness := (true, "be0900438d114a86e56af8399f5fd98445d69264eda324d6ba6902690d1ee665"), looks := true }, kinds := [], alts := [], laidByText := true, laidKinds := [.data, .data, .data, .data, .sentinel, .sentinel, .pinned], laidTests := true, laidLooks := .later }
def WhenSpansCardSaid : Prop := Claim7.holds Tryd.pinned (.plain (OpenSpec.ofChange whenSpansSpec)) whenSpansCard

/-- THE TIED CARD OF 'tintkeep1.WhenRound'. -/
def whenRoundCard : Claim7 := { stood := { row := whenRoundRow, standIns := [], harness := (true, "be0900438d114a86e56af8399f5fd98445d69264eda324d6ba6902690d1ee665"), looks := true }, kinds := [], alts := [], laidByText := true, laidKinds := [.data, .data, .data, .data, .sentinel, .sentinel, .pinned], laidTests := true, laidLooks := .later }
def WhenRoundCardSaid : Prop := Claim7.holds Tryd.pinned (.plain (OpenSpec.ofChange whenRoundSpec)) whenRoundCard

/-- THE SECOND FORM's CARD OF 'tintlaw1.WhenStamps'. -/
def whenStampsUptoCard : Claim7 := { stood := { row := whenStampsUptoRow, standIns := [], harness := (true, "be0900438d114a86e56af8399f5fd98445d69264eda324d6ba6902690d1ee665"), looks := true }, kinds := [], alts := [], laidByText := true, laidKinds := [.data, .data, .data], laidTests := true, laidLooks := .later }
def WhenStampsUptoCardSaid : Prop := Claim7.holds Tryd.pinned (.plain (OpenSpec.upto whenStampsSpec)) whenStampsUptoCard

/-- THE SECOND FORM's CARD OF 'tintkeep1.WhenRising'. -/
def whenRisingUptoCard : Claim7 := { stood := { row := whenRisingUptoRow, standIns := [], harness := (true, "be0900438d114a86e56af8399f5fd98445d69264eda324d6ba6902690d1ee665"), looks := true }, kinds := [], alts := [], laidByText := true, laidKinds := [.data, .data, .data], laidTests := true, laidLooks := .later }
def WhenRisingUptoCardSaid : Prop := Claim7.holds Tryd.pinned (.plain (OpenSpec.upto whenRisingSpec)) whenRisingUptoCard

/-- THE SECOND FORM's CARD OF 'tintkeep1.WhenLocal'. -/
def whenLocalUptoCard : Claim7 := { stood := { row := whenLocalUptoRow, standIns := [], harness := (true, "be0900438d114a86e56af8399f5fd98445d69264eda324d6ba6902690d1ee665"), looks := true }, kinds := [], alts := [], laidByText := true, laidKinds := [.data, .data, .data], laidTests := true, laidLooks := .later }
def WhenLocalUptoCardSaid : Prop := Claim7.holds Tryd.pinned (.plain (OpenSpec.upto whenLocalSpec)) whenLocalUptoCard

/-- THE SECOND FORM's CARD OF 'tintkeep1.WhenParts'. -/
def whenPartsUptoCard : Claim7 := { stood := { row := whenPartsUptoRow, standIns := [], harness := (true, "be0900438d114a86e56af8399f5fd98445d69264eda324d6ba6902690d1ee665"), looks := true }, kinds := [], alts := [], laidByText := true, laidKinds := [.data, .data, .data], laidTests := true, laidLooks := .later }
def WhenPartsUptoCardSaid : Prop := Claim7.holds Tryd.pinned (.plain (OpenSpec.upto whenPartsSpec)) whenPartsUptoCard

/-- THE SECOND FORM's CARD OF 'tintlaw1.WhenReads'. -/
def whenReadsUptoCard : Claim7 := { stood := { row := whenReadsUptoRow, standIns := [], harness := (true, "be0900438d114a86e56af8399f5fd98445d69264eda324d6ba6902690d1ee665"), looks := true }, kinds := [], alts := [], laidByText := true, laidKinds := [.data, .data, .data, .data, .sentinel, .sentinel, .pinned], laidTests := true, laidLooks := .later }
def WhenReadsUptoCardSaid : Prop := Claim7.holds Tryd.pinned (.plain (OpenSpec.upto whenReadsSpec)) whenReadsUptoCard

/-- THE SECOND FORM's CARD OF 'tintlaw1.WhenSpans'. -/
def whenSpansUptoCard : Claim7 := { stood := { row := whenSpansUptoRow, standIns := [], harness := (true, "be0900438d114a86e56af8399f5fd98445d69264eda324d6ba6902690d1ee665"), looks := true }, kinds := [], alts := [], laidByText := true, laidKinds := [.data, .data, .data, .data, .sentinel, .sentinel, .pinned], laidTests := true, laidLooks := .later }
def WhenSpansUptoCardSaid : Prop := Claim7.holds Tryd.pinned (.plain (OpenSpec.upto whenSpansSpec)) whenSpansUptoCard

/-- THE SECOND FORM's CARD OF 'tintkeep1.WhenRound'. -/
def whenRoundUptoCard : Claim7 := { stood := { row := whenRoundUptoRow, standIns := [], harness := (true, "be0900438d114a86e56af8399f5fd98445d69264eda324d6ba6902690d1ee665"), looks := true }, kinds := [], alts := [], laidByText := true, laidKinds := [.data, .data, .data, .data, .sentinel, .sentinel, .pinned], laidTests := true, laidLooks := .later }
def WhenRoundUptoCardSaid : Prop := Claim7.holds Tryd.pinned (.plain (OpenSpec.upto whenRoundSpec)) whenRoundUptoCard
end Rows
end Go.Proofs.YthldlffkgafgaaaDoor
