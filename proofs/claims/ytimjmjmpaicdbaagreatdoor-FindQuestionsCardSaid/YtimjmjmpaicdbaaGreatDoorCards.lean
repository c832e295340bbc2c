/-
  DERIVED. GIVEN WITH THE SEED: THE CARDS: each row of YtimjmjmpaicdbaaGreatDoorRows.lean that lists a variable, with what it lists TIED to the program's text (the seventh form; the later family's looks); each row that meets fmt, with fmt's text TOLD by the authors' own Lean function (tested against real Go, not proved from fmt's source: count such statements apart). THE CARD IS WHAT COUNTS. Prove the row's statement (the work); the ties are given (YtimjmjmpaicdbaaGreatDoorTie.lean); close each card by the builder's one call (the guide's Derived/Test/ToyasCard.lean, 'card_holds'). Laid BY PROGRAM, IN A SANDBOX (cutbox-door.mjs). By AI agents, Wed Nov 11 2026. No macro, syntax, notation, axiom, sorry.
-/
import Derived.Test.YtimjmjmpaicdbaaGreatDoorRows
import GoSem.ClaimSeven
namespace Go.Proofs.YtimjmjmpaicdbaaGreatDoor
namespace Rows

/-- THE TIED CARD OF 'tintlaw1.FindConds'. -/
def findCondsCard : Claim7 := { stood := { row := findCondsRow, standIns := [], harness := (true, "4dfe67c4bb85090b6a08a9e8db697cdae562776fb735de7436e4e832e0aba32a"), looks := true }, kinds := [], alts := [], laidByText := true, laidKinds := [.data, .data, .data, .data, .sentinel, .sentinel, .pinned], laidTests := true, laidLooks := .later }
def FindCondsCardSaid : Prop := Claim7.holds Tryz.pinned (.plain (OpenSpec.ofChange findCondsSpec)) findCondsCard

/-- THE TIED CARD OF 'tintlaw1.FindQuestions'. -/
def findQuestionsCard : Claim7 := { stood := { row := findQuestionsRow, standIns := [], harness := (true, "4dfe67c4bb85090b6a08a9e8db697cdae562776fb735de7436e4e832e0aba32a"), looks := true }, kinds := [], alts := [], laidByText := true, laidKinds := [.data, .data, .data, .data, .sentinel, .sentinel, .pinned], laidTests := true, laidLooks := .later }
def FindQuestionsCardSaid : Prop := Claim7.holds Tryz.pinned (.plain (OpenSpec.ofChange findQuestionsSpec)) findQuestionsCard

/-- THE TIED CARD OF 'tintlaw1.FindAsks'. -/
def findAsksCard : Claim7 := { stood := { row := findAsksRow, standIns := [], harness := (true, "4dfe67c4bb85090b6a08a9e8db697cdae562776fb735de7436e4e832e0aba32a"), looks := true }, kinds := [], alts := [], laidByText := true, laidKinds := [.data, .data, .data, .sentinel, .sentinel], laidTests := true, laidLooks := .later }
def FindAsksCardSaid : Prop := Claim7.holds Tryz.pinned (.plain (OpenSpec.ofChange findAsksSpec)) findAsksCard

/-- THE SECOND FORM's CARD OF 'tintlaw1.FindConds'. -/
def findCondsUptoCard : Claim7 := { stood := { row := findCondsUptoRow, standIns := [], harness := (true, "4dfe67c4bb85090b6a08a9e8db697cdae562776fb735de7436e4e832e0aba32a"), looks := true }, kinds := [], alts := [], laidByText := true, laidKinds := [.data, .data, .data, .data, .sentinel, .sentinel, .pinned], laidTests := true, laidLooks := .later }
def FindCondsUptoCardSaid : Prop := Claim7.holds Tryz.pinned (.plain (OpenSpec.upto findCondsSpec)) findCondsUptoCard

/-- THE SECOND FORM's CARD OF 'tintlaw1.FindQuestions'. -/
def findQuestionsUptoCard : Claim7 := { stood := { row := findQuestionsUptoRow, standIns := [], harness := (true, "4dfe67c4bb85090b6a08a9e8db697cdae562776fb735de7436e4e832e0aba32a"), looks := true }, kinds := [], alts := [], laidByText := true, laidKinds := [.data, .data, .data, .data, .sentinel, .sentinel, .pinned], laidTests := true, laidLooks := .later }
def FindQuestionsUptoCardSaid : Prop := Claim7.holds Tryz.pinned (.plain (OpenSpec.upto findQuestionsSpec)) findQuestionsUptoCard

/-- THE SECOND FORM's CARD OF 'tintlaw1.FindAsks'. -/
def findAsksUptoCard : Claim7 := { stood := { row := findAsksUptoRow, standIns := [], harness := (true, "4dfe67c4bb85090b6a08a9e8db697cdae562776fb735de7436e4e832e0aba32a"), looks := true }, kinds := [], alts := [], laidByText := true, laidKinds := [.data, .data, .data, .sentinel, .sentinel], laidTests := true, laidLooks := .later }
def FindAsksUptoCardSaid : Prop := Claim7.holds Tryz.pinned (.plain (OpenSpec.upto findAsksSpec)) findAsksUptoCard
end Rows
end Go.Proofs.YtimjmjmpaicdbaaGreatDoor
