/-
  DERIVED. GIVEN WITH THE SEED: THE CARDS: each row of YthdiccdnggloiaaGreatDoorRows.lean that lists a variable, with what it lists TIED to the program's text (the seventh form; the later family's looks); each row that meets fmt, with fmt's text TOLD by the authors' own Lean function (tested against real Go, not proved from fmt's source: count such statements apart). THE CARD IS WHAT COUNTS. Prove the row's statement (the work); the ties are given (YthdiccdnggloiaaGreatDoorTie.lean); close each card by the builder's one call (the guide's Derived/Test/ToyasCard.lean, 'card_holds'). Laid BY PROGRAM, IN A SANDBOX (cutbox-door.mjs). By AI agents, Wed Nov 11 2026. No macro, syntax, notation, axiom, sorry.
-/
import Derived.Test.YthdiccdnggloiaaGreatDoorRows
import GoSem.ClaimSeven
namespace Go.Proofs.YthdiccdnggloiaaGreatDoor
namespace Rows

/-- THE TIED CARD OF 'tintlaw1.StoreKeeps'. -/
def storeKeepsCard : Claim7 := { stood := { row := storeKeepsRow, standIns := [], harness := (true, "32c703e7141a7b0fc3afb50fdab8894516623e26a3ed17787a0316ae347bea61"), looks := false }, kinds := [], alts := [], laidByText := true, laidKinds := [.data, .pinned], laidTests := true, laidLooks := .later }
def StoreKeepsCardSaid : Prop := Claim7.holds Tryz.pinned (.plain (OpenSpec.ofChange storeKeepsSpec)) storeKeepsCard

/-- THE TIED CARD OF 'tintlaw1.StoreEvicts'. -/
def storeEvictsCard : Claim7 := { stood := { row := storeEvictsRow, standIns := [], harness := (true, "32c703e7141a7b0fc3afb50fdab8894516623e26a3ed17787a0316ae347bea61"), looks := false }, kinds := [], alts := [], laidByText := true, laidKinds := [.data, .pinned], laidTests := true, laidLooks := .later }
def StoreEvictsCardSaid : Prop := Claim7.holds Tryz.pinned (.plain (OpenSpec.ofChange storeEvictsSpec)) storeEvictsCard

/-- THE TIED CARD OF 'tintlaw1.StoreTells'. -/
def storeTellsCard : Claim7 := { stood := { row := storeTellsRow, standIns := [], harness := (true, "32c703e7141a7b0fc3afb50fdab8894516623e26a3ed17787a0316ae347bea61"), looks := false }, kinds := [], alts := [], laidByText := true, laidKinds := [.data, .data, .data, .data, .pinned], laidTests := true, laidLooks := .later }
def StoreTellsCardSaid : Prop := Claim7.holds Tryz.pinned (.plain (OpenSpec.ofChange storeTellsSpec)) storeTellsCard

/-- THE TIED CARD OF 'tintlaw1.StorePlans'. -/
def storePlansCard : Claim7 := { stood := { row := storePlansRow, standIns := [], harness := (true, "32c703e7141a7b0fc3afb50fdab8894516623e26a3ed17787a0316ae347bea61"), looks := false }, kinds := [], alts := [], laidByText := true, laidKinds := [.data, .pinned], laidTests := true, laidLooks := .later }
def StorePlansCardSaid : Prop := Claim7.holds Tryz.pinned (.plain (OpenSpec.ofChange storePlansSpec)) storePlansCard

/-- THE TIED CARD OF 'tintkeep1.StoreBin'. -/
def storeBinCard : Claim7 := { stood := { row := storeBinRow, standIns := [], harness := (true, "32c703e7141a7b0fc3afb50fdab8894516623e26a3ed17787a0316ae347bea61"), looks := false }, kinds := [], alts := [], laidByText := true, laidKinds := [.data, .data, .data, .data, .pinned], laidTests := true, laidLooks := .later }
def StoreBinCardSaid : Prop := Claim7.holds Tryz.pinned (.plain (OpenSpec.ofChange storeBinSpec)) storeBinCard

/-- THE TIED CARD OF 'tintkeep1.StoreNever'. -/
def storeNeverCard : Claim7 := { stood := { row := storeNeverRow, standIns := [], harness := (true, "32c703e7141a7b0fc3afb50fdab8894516623e26a3ed17787a0316ae347bea61"), looks := false }, kinds := [], alts := [], laidByText := true, laidKinds := [.data, .data, .data, .data, .pinned], laidTests := true, laidLooks := .later }
def StoreNeverCardSaid : Prop := Claim7.holds Tryz.pinned (.plain (OpenSpec.ofChange storeNeverSpec)) storeNeverCard

/-- THE TIED CARD OF 'tintkeep1.StoreSafe'. -/
def storeSafeCard : Claim7 := { stood := { row := storeSafeRow, standIns := [], harness := (true, "32c703e7141a7b0fc3afb50fdab8894516623e26a3ed17787a0316ae347bea61"), looks := false }, kinds := [], alts := [], laidByText := true, laidKinds := [.data, .data, .data, .data, .pinned], laidTests := true, laidLooks := .later }
def StoreSafeCardSaid : Prop := Claim7.holds Tryz.pinned (.plain (OpenSpec.ofChange storeSafeSpec)) storeSafeCard

/-- THE SECOND FORM's CARD OF 'tintlaw1.StoreKeeps'. -/
def storeKeepsUptoCard : Claim7 := { stood := { row := storeKeepsUptoRow, standIns := [], harness := (true, "32c703e7141a7b0fc3afb50fdab8894516623e26a3ed17787a0316ae347bea61"), looks := false }, kinds := [], alts := [], laidByText := true, laidKinds := [.data, .pinned], laidTests := true, laidLooks := .later }
def StoreKeepsUptoCardSaid : Prop := Claim7.holds Tryz.pinned (.plain (OpenSpec.upto storeKeepsSpec)) storeKeepsUptoCard

/-- THE SECOND FORM's CARD OF 'tintlaw1.StoreEvicts'. -/
def storeEvictsUptoCard : Claim7 := { stood := { row := storeEvictsUptoRow, standIns := [], harness := (true, "32c703e7141a7b0fc3afb50fdab8894516623e26a3ed17787a0316ae347bea61"), looks := false }, kinds := [], alts := [], laidByText := true, laidKinds := [.data, .pinned], laidTests := true, laidLooks := .later }
def StoreEvictsUptoCardSaid : Prop := Claim7.holds Tryz.pinned (.plain (OpenSpec.upto storeEvictsSpec)) storeEvictsUptoCard

/-- THE SECOND FORM's CARD OF 'tintlaw1.StoreTells'. -/
def storeTellsUptoCard : Claim7 := { stood := { row := storeTellsUptoRow, standIns := [], harness := (true, "32c703e7141a7b0fc3afb50fdab8894516623e26a3ed17787a0316ae347bea61"), looks := false }, kinds := [], alts := [], laidByText := true, laidKinds := [.data, .data, .data, .data, .pinned], laidTests := true, laidLooks := .later }
def StoreTellsUptoCardSaid : Prop := Claim7.holds Tryz.pinned (.plain (OpenSpec.upto storeTellsSpec)) storeTellsUptoCard

/-- THE SECOND FORM's CARD OF 'tintlaw1.StorePlans'. -/
def storePlansUptoCard : Claim7 := { stood := { row := storePlansUptoRow, standIns := [], harness := (true, "32c703e7141a7b0fc3afb50fdab8894516623e26a3ed17787a0316ae347bea61"), looks := false }, kinds := [], alts := [], laidByText := true, laidKinds := [.data, .pinned], laidTests := true, laidLooks := .later }
def StorePlansUptoCardSaid : Prop := Claim7.holds Tryz.pinned (.plain (OpenSpec.upto storePlansSpec)) storePlansUptoCard

/-- THE SECOND FORM's CARD OF 'tintkeep1.StoreBin'. -/
def storeBinUptoCard : Claim7 := { stood := { row := storeBinUptoRow, standIns := [], harness := (true, "32c703e7141a7b0fc3afb50fdab8894516623e26a3ed17787a0316ae347bea61"), looks := false }, kinds := [], alts := [], laidByText := true, laidKinds := [.data, .data, .data, .data, .pinned], laidTests := true, laidLooks := .later }
def StoreBinUptoCardSaid : Prop := Claim7.holds Tryz.pinned (.plain (OpenSpec.upto storeBinSpec)) storeBinUptoCard

/-- THE SECOND FORM's CARD OF 'tintkeep1.StoreNever'. -/
def storeNeverUptoCard : Claim7 := { stood := { row := storeNeverUptoRow, standIns := [], harness := (true, "32c703e7141a7b0fc3afb50fdab8894516623e26a3ed17787a0316ae347bea61"), looks := false }, kinds := [], alts := [], laidByText := true, laidKinds := [.data, .data, .data, .data, .pinned], laidTests := true, laidLooks := .later }
def StoreNeverUptoCardSaid : Prop := Claim7.holds Tryz.pinned (.plain (OpenSpec.upto storeNeverSpec)) storeNeverUptoCard

/-- THE SECOND FORM's CARD OF 'tintkeep1.StoreSafe'. -/
def storeSafeUptoCard : Claim7 := { stood := { row := storeSafeUptoRow, standIns := [], harness := (true, "32c703e7141a7b0fc3afb50fdab8894516623e26a3ed17787a0316ae347bea61"), looks := false }, kinds := [], alts := [], laidByText := true, laidKinds := [.data, .data, .data, .data, .pinned], laidTests := true, laidLooks := .later }
def StoreSafeUptoCardSaid : Prop := Claim7.holds Tryz.pinned (.plain (OpenSpec.upto storeSafeSpec)) storeSafeUptoCard
end Rows
end Go.Proofs.YthdiccdnggloiaaGreatDoor
