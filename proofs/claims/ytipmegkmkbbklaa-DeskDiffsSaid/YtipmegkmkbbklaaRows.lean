/-
  NARROWER THAN 'FOR EVERY INPUT', by the rows' own cells (each row's printed sentence says how): FindHolds: loops.
  DERIVED. THE GIVEN ROWS OF THIS SEAT. 3 by the template 'for every input the law returns true; each argument reads behind the call as it read before'; 0 by the template 'total and deterministic' (their statements: YtipmegkmkbbklaaTotals.lean).
  GIVEN WITH THE SEED: the statements are not yours to turn. If you find one false, say at which input.
  Laid BY PROGRAM, IN A SANDBOX (cutbox-rows.mjs): the forced cells as the released guide's own fill.sh prints them over the translation 4c4bd5345de86e35… (all of the seat's roots in one cut). By AI agents, Wed Nov 11 2026. No macro, syntax, notation, axiom, sorry.
-/
import Derived.Test.YtipmegkmkbbklaaChecked
import GoSem.Claim
import GoSem.ClaimJoined
import GoSem.ClaimMapViews
import Derived.JoinedTies
import Derived.KernelRfl
namespace Go.Proofs.Ytipmegkmkbbklaa
/- THE CELL 'sum', in the pinned program and in every row, IS THE sha256 OF THE DUMP (.gsa) THAT YtipmegkmkbbklaaProg.lean LOADS. Nothing in Lean hashes anything: it is a label: what it is worth is what the hold of that sum in a sandbox is worth. -/
noncomputable def Try.pinned : Pinned := { name := "ytipmegkmkbbklaa", sum := "4c4bd5345de86e355735d859440560bf3cc033827ee1e4510ee12ae07172728a", checked := Try.checked }
namespace Rows
def none {H : Type} : Left H := { results := [], args := [] }

/-- 'tintlaw1.DeskCleans': WHATEVER THE INPUT: true; the input reads as it did. -/
def deskCleansSpec : ChangeSpec := { name := "deskCleans", fn := fun _ => fun
  | [d1, d2, d3] => { results := [.lit (.bool true)], args := [d1, d2, d3] }
  | _ => none }
def deskCleansRow : OpenClaim := { program := "ytipmegkmkbbklaa", sum := "4c4bd5345de86e355735d859440560bf3cc033827ee1e4510ee12ae07172728a", func := "tintype/tintlaw1.DeskCleans", spec := "deskCleans", inPlace := ["math.sqrt", "internal/bytealg.IndexByteString"], unfollowed := true, recurses := true, apart := false }
def DeskCleansSaid : Prop := deskCleansRow.holds Try.pinned (OpenSpec.ofChange deskCleansSpec)

/-- ITS FALSE NEIGHBOUR: 'it returns false'. Refute it at one input. -/
def deskCleansWrong : ChangeSpec := { name := "deskCleans", fn := fun _ => fun
  | [d1, d2, d3] => { results := [.lit (.bool false)], args := [d1, d2, d3] }
  | _ => none }
def DeskCleansWrongFalsely : Prop := deskCleansRow.holds Try.pinned (OpenSpec.ofChange deskCleansWrong)

/-- 'tintlaw1.DeskDiffs': WHATEVER THE INPUT: true; the input reads as it did. -/
def deskDiffsSpec : ChangeSpec := { name := "deskDiffs", fn := fun _ => fun
  | [d1, d2, d3] => { results := [.lit (.bool true)], args := [d1, d2, d3] }
  | _ => none }
def deskDiffsRow : OpenClaim := { program := "ytipmegkmkbbklaa", sum := "4c4bd5345de86e355735d859440560bf3cc033827ee1e4510ee12ae07172728a", func := "tintype/tintlaw1.DeskDiffs", spec := "deskDiffs", inPlace := ["slices.overlaps[tintype/api.Photo]", "internal/bytealg.IndexByteString"], unfollowed := true, recurses := true, apart := false }
def DeskDiffsSaid : Prop := deskDiffsRow.holds Try.pinned (OpenSpec.ofChange deskDiffsSpec)

/-- ITS FALSE NEIGHBOUR: 'it returns false'. Refute it at one input. -/
def deskDiffsWrong : ChangeSpec := { name := "deskDiffs", fn := fun _ => fun
  | [d1, d2, d3] => { results := [.lit (.bool false)], args := [d1, d2, d3] }
  | _ => none }
def DeskDiffsWrongFalsely : Prop := deskDiffsRow.holds Try.pinned (OpenSpec.ofChange deskDiffsWrong)

/-- 'tintlaw1.FindHolds': WHATEVER THE INPUT: true; the input reads as it did. -/
def findHoldsSpec : ChangeSpec := { name := "findHolds", fn := fun _ => fun
  | [d1, d2, d3] => { results := [.lit (.bool true)], args := [d1, d2, d3] }
  | _ => none }
def findHoldsRow : OpenClaim := { program := "ytipmegkmkbbklaa", sum := "4c4bd5345de86e355735d859440560bf3cc033827ee1e4510ee12ae07172728a", func := "tintype/tintlaw1.FindHolds", spec := "findHolds", inPlace := ["internal/bytealg.IndexByteString", "internal/bytealg.IndexString", "math.sqrt"], unfollowed := true, recurses := true, named := ["internal/bytealg.MaxLen"], loops := true, apart := false }
def FindHoldsSaid : Prop := findHoldsRow.holds Try.pinned (OpenSpec.ofChange findHoldsSpec)

/-- ITS FALSE NEIGHBOUR: 'it returns false'. Refute it at one input. -/
def findHoldsWrong : ChangeSpec := { name := "findHolds", fn := fun _ => fun
  | [d1, d2, d3] => { results := [.lit (.bool false)], args := [d1, d2, d3] }
  | _ => none }
def FindHoldsWrongFalsely : Prop := findHoldsRow.holds Try.pinned (OpenSpec.ofChange findHoldsWrong)

/- THE SECOND FORM. 'bulk': how many values and letters a reading holds, each counted each time it is reached (what is shared counts as often as it is met; a slice's spare places count too). A statement '..UptoSaid' is the law's where the arguments, and the package variables that the reading takes, are together of bulk at most 1048576: NARROWER than '..Said'. Prove '..Said' where nothing that the law and all that it calls make is longer than what came in: it says more and counts as full. Else prove '..UptoSaid'. A law counts once. -/
mutual
def uptoBulk {H : Type} : DataW H → Nat
  | .lit (.string bytes) => bytes.length + 1
  | .lit _ => 1
  | .nil => 1
  | .ptr d => uptoBulk d + 1
  | .slice elems spare => uptoBulkAll elems + uptoBulkAll spare + 1
  | .agg parts => uptoBulkAll parts + 1
  | .iface _ d => uptoBulk d + 1
  | .map entries => uptoBulkEntries entries + 1
  | .held _ => 1
def uptoBulkAll {H : Type} : List (DataW H) → Nat
  | [] => 0
  | d :: r => uptoBulk d + uptoBulkAll r
def uptoBulkEntries {H : Type} : List (Lit × DataW H) → Nat
  | [] => 0
  | x :: r => uptoBulkEntry x + uptoBulkEntries r
def uptoBulkEntry {H : Type} : Lit × DataW H → Nat
  | (.string bytes, d) => bytes.length + uptoBulk d + 1
  | (_, d) => uptoBulk d + 1
 end
def uptoSmall : (H : Type) → List (DataW H) → Bool := fun _ ds => decide (uptoBulkAll ds ≤ 1048576)
def OpenSpec.upto (s : _root_.Go.ChangeSpec) : _root_.Go.OpenSpec := { _root_.Go.OpenSpec.ofChange s with cond := some uptoSmall }

/-- 'tintlaw1.DeskCleans', WHERE WHAT IT READS IS OF BULK AT MOST 1048576: true; the input reads as it did. -/
def deskCleansUptoRow : OpenClaim := { program := "ytipmegkmkbbklaa", sum := "4c4bd5345de86e355735d859440560bf3cc033827ee1e4510ee12ae07172728a", func := "tintype/tintlaw1.DeskCleans", spec := "deskCleans", inPlace := ["math.sqrt", "internal/bytealg.IndexByteString"], unfollowed := true, recurses := true, apart := false, narrowed := true }
def DeskCleansUptoSaid : Prop := deskCleansUptoRow.holds Try.pinned (OpenSpec.upto deskCleansSpec)

/-- 'tintlaw1.DeskDiffs', WHERE WHAT IT READS IS OF BULK AT MOST 1048576: true; the input reads as it did. -/
def deskDiffsUptoRow : OpenClaim := { program := "ytipmegkmkbbklaa", sum := "4c4bd5345de86e355735d859440560bf3cc033827ee1e4510ee12ae07172728a", func := "tintype/tintlaw1.DeskDiffs", spec := "deskDiffs", inPlace := ["slices.overlaps[tintype/api.Photo]", "internal/bytealg.IndexByteString"], unfollowed := true, recurses := true, apart := false, narrowed := true }
def DeskDiffsUptoSaid : Prop := deskDiffsUptoRow.holds Try.pinned (OpenSpec.upto deskDiffsSpec)

/-- 'tintlaw1.FindHolds', WHERE WHAT IT READS IS OF BULK AT MOST 1048576: true; the input reads as it did. -/
def findHoldsUptoRow : OpenClaim := { program := "ytipmegkmkbbklaa", sum := "4c4bd5345de86e355735d859440560bf3cc033827ee1e4510ee12ae07172728a", func := "tintype/tintlaw1.FindHolds", spec := "findHolds", inPlace := ["internal/bytealg.IndexByteString", "internal/bytealg.IndexString", "math.sqrt"], unfollowed := true, recurses := true, named := ["internal/bytealg.MaxLen"], loops := true, apart := false, narrowed := true }
def FindHoldsUptoSaid : Prop := findHoldsUptoRow.holds Try.pinned (OpenSpec.upto findHoldsSpec)

end Rows
end Go.Proofs.Ytipmegkmkbbklaa
