/-
  No cell of these rows narrows 'for every input' (looked for: loops, veiled, ifaces, maps, wideKeys, modest, calm, conditions, laid).
  DERIVED. THE GIVEN ROWS OF THIS SEAT. 6 by the template 'for every input the law returns true; each argument reads behind the call as it read before'; 0 by the template 'total and deterministic' (their statements: YtdhfhcpgjokhlaaTotals.lean).
  GIVEN WITH THE SEED: the statements are not yours to turn. If you find one false, say at which input.
  Laid BY PROGRAM, IN A SANDBOX (cutbox-rows.mjs): the forced cells as the released guide's own fill.sh prints them over the translation 311b4caac6f1578e… (all of the seat's roots in one cut). By AI agents, Wed Nov 11 2026. No macro, syntax, notation, axiom, sorry.
-/
import Derived.Test.YtdhfhcpgjokhlaaChecked
import GoSem.Claim
import GoSem.ClaimJoined
import GoSem.ClaimMapViews
import Derived.JoinedTies
import Derived.KernelRfl
namespace Go.Proofs.Ytdhfhcpgjokhlaa
/- THE CELL 'sum', in the pinned program and in every row, IS THE sha256 OF THE DUMP (.gsa) THAT YtdhfhcpgjokhlaaProg.lean LOADS. Nothing in Lean hashes anything: it is a label: what it is worth is what the hold of that sum in a sandbox is worth. -/
noncomputable def Try.pinned : Pinned := { name := "ytdhfhcpgjokhlaa", sum := "311b4caac6f1578e11ef9c17505255cf49e2495b49aaa88c50912ba999551625", checked := Try.checked }
namespace Rows
def none {H : Type} : Left H := { results := [], args := [] }

/-- 'tintlaw1.WhenDays': WHATEVER THE INPUT: true; the input reads as it did. -/
def whenDaysSpec : ChangeSpec := { name := "whenDays", fn := fun _ => fun
  | [d1, d2] => { results := [.lit (.bool true)], args := [d1, d2] }
  | _ => none }
def whenDaysRow : OpenClaim := { program := "ytdhfhcpgjokhlaa", sum := "311b4caac6f1578e11ef9c17505255cf49e2495b49aaa88c50912ba999551625", func := "tintype/tintlaw1.WhenDays", spec := "whenDays", apart := false }
def WhenDaysSaid : Prop := whenDaysRow.holds Try.pinned (OpenSpec.ofChange whenDaysSpec)

/-- ITS FALSE NEIGHBOUR: 'it returns false'. Refute it at one input. -/
def whenDaysWrong : ChangeSpec := { name := "whenDays", fn := fun _ => fun
  | [d1, d2] => { results := [.lit (.bool false)], args := [d1, d2] }
  | _ => none }
def WhenDaysWrongFalsely : Prop := whenDaysRow.holds Try.pinned (OpenSpec.ofChange whenDaysWrong)

/-- 'tintlaw1.WhenGuesses': WHATEVER THE INPUT: true; the input reads as it did. -/
def whenGuessesSpec : ChangeSpec := { name := "whenGuesses", fn := fun _ => fun
  | [d1, d2, d3] => { results := [.lit (.bool true)], args := [d1, d2, d3] }
  | _ => none }
def whenGuessesRow : OpenClaim := { program := "ytdhfhcpgjokhlaa", sum := "311b4caac6f1578e11ef9c17505255cf49e2495b49aaa88c50912ba999551625", func := "tintype/tintlaw1.WhenGuesses", spec := "whenGuesses", unfollowed := true, recurses := true, apart := false }
def WhenGuessesSaid : Prop := whenGuessesRow.holds Try.pinned (OpenSpec.ofChange whenGuessesSpec)

/-- ITS FALSE NEIGHBOUR: 'it returns false'. Refute it at one input. -/
def whenGuessesWrong : ChangeSpec := { name := "whenGuesses", fn := fun _ => fun
  | [d1, d2, d3] => { results := [.lit (.bool false)], args := [d1, d2, d3] }
  | _ => none }
def WhenGuessesWrongFalsely : Prop := whenGuessesRow.holds Try.pinned (OpenSpec.ofChange whenGuessesWrong)

/-- 'tintlaw1.WhenAligns': WHATEVER THE INPUT: true; the input reads as it did. -/
def whenAlignsSpec : ChangeSpec := { name := "whenAligns", fn := fun _ => fun
  | [d1, d2, d3, d4] => { results := [.lit (.bool true)], args := [d1, d2, d3, d4] }
  | _ => none }
def whenAlignsRow : OpenClaim := { program := "ytdhfhcpgjokhlaa", sum := "311b4caac6f1578e11ef9c17505255cf49e2495b49aaa88c50912ba999551625", func := "tintype/tintlaw1.WhenAligns", spec := "whenAligns", unfollowed := true, recurses := true, apart := false }
def WhenAlignsSaid : Prop := whenAlignsRow.holds Try.pinned (OpenSpec.ofChange whenAlignsSpec)

/-- ITS FALSE NEIGHBOUR: 'it returns false'. Refute it at one input. -/
def whenAlignsWrong : ChangeSpec := { name := "whenAligns", fn := fun _ => fun
  | [d1, d2, d3, d4] => { results := [.lit (.bool false)], args := [d1, d2, d3, d4] }
  | _ => none }
def WhenAlignsWrongFalsely : Prop := whenAlignsRow.holds Try.pinned (OpenSpec.ofChange whenAlignsWrong)

/-- 'tintlaw1.WhenClocks': WHATEVER THE INPUT: true; the input reads as it did. -/
def whenClocksSpec : ChangeSpec := { name := "whenClocks", fn := fun _ => fun
  | [d1, d2, d3] => { results := [.lit (.bool true)], args := [d1, d2, d3] }
  | _ => none }
def whenClocksRow : OpenClaim := { program := "ytdhfhcpgjokhlaa", sum := "311b4caac6f1578e11ef9c17505255cf49e2495b49aaa88c50912ba999551625", func := "tintype/tintlaw1.WhenClocks", spec := "whenClocks", unfollowed := true, recurses := true, apart := false }
def WhenClocksSaid : Prop := whenClocksRow.holds Try.pinned (OpenSpec.ofChange whenClocksSpec)

/-- ITS FALSE NEIGHBOUR: 'it returns false'. Refute it at one input. -/
def whenClocksWrong : ChangeSpec := { name := "whenClocks", fn := fun _ => fun
  | [d1, d2, d3] => { results := [.lit (.bool false)], args := [d1, d2, d3] }
  | _ => none }
def WhenClocksWrongFalsely : Prop := whenClocksRow.holds Try.pinned (OpenSpec.ofChange whenClocksWrong)

/-- 'tintlaw1.WhenZones': WHATEVER THE INPUT: true; the input reads as it did. -/
def whenZonesSpec : ChangeSpec := { name := "whenZones", fn := fun _ => fun
  | [d1, d2, d3, d4] => { results := [.lit (.bool true)], args := [d1, d2, d3, d4] }
  | _ => none }
def whenZonesRow : OpenClaim := { program := "ytdhfhcpgjokhlaa", sum := "311b4caac6f1578e11ef9c17505255cf49e2495b49aaa88c50912ba999551625", func := "tintype/tintlaw1.WhenZones", spec := "whenZones", unfollowed := true, recurses := true, apart := false }
def WhenZonesSaid : Prop := whenZonesRow.holds Try.pinned (OpenSpec.ofChange whenZonesSpec)

/-- ITS FALSE NEIGHBOUR: 'it returns false'. Refute it at one input. -/
def whenZonesWrong : ChangeSpec := { name := "whenZones", fn := fun _ => fun
  | [d1, d2, d3, d4] => { results := [.lit (.bool false)], args := [d1, d2, d3, d4] }
  | _ => none }
def WhenZonesWrongFalsely : Prop := whenZonesRow.holds Try.pinned (OpenSpec.ofChange whenZonesWrong)

/-- 'tintlaw1.WhenBursts': WHATEVER THE INPUT: true; the input reads as it did. -/
def whenBurstsSpec : ChangeSpec := { name := "whenBursts", fn := fun _ => fun
  | [d1, d2, d3, d4, d5] => { results := [.lit (.bool true)], args := [d1, d2, d3, d4, d5] }
  | _ => none }
def whenBurstsRow : OpenClaim := { program := "ytdhfhcpgjokhlaa", sum := "311b4caac6f1578e11ef9c17505255cf49e2495b49aaa88c50912ba999551625", func := "tintype/tintlaw1.WhenBursts", spec := "whenBursts", unfollowed := true, recurses := true, apart := false }
def WhenBurstsSaid : Prop := whenBurstsRow.holds Try.pinned (OpenSpec.ofChange whenBurstsSpec)

/-- ITS FALSE NEIGHBOUR: 'it returns false'. Refute it at one input. -/
def whenBurstsWrong : ChangeSpec := { name := "whenBursts", fn := fun _ => fun
  | [d1, d2, d3, d4, d5] => { results := [.lit (.bool false)], args := [d1, d2, d3, d4, d5] }
  | _ => none }
def WhenBurstsWrongFalsely : Prop := whenBurstsRow.holds Try.pinned (OpenSpec.ofChange whenBurstsWrong)

/- THE SECOND FORM. 'bulk': how many values and letters a reading holds, each counted each time it is reached (what is shared counts as often as it is met; a slice's spare places count too). A statement '..UptoSaid' is the law's where the arguments, and the package variables that the reading takes, are together of bulk at most 1048576: NARROWER than '..Said'. Prove '..Said' where nothing that the law and all that it calls make is longer than what came in: it says more and counts as full. Else prove '..UptoSaid'. A law counts once. -/
mutual
def uptoBulk {H : Type} : DataW H → Nat
  | .lit (.string bytes) => bytes.length + 1
  | .lit _ => 1
  | .nil => 1
  | .ptr d => uptoBulk d + 1
  | .slice elems spare => uptoBulkAll elems + uptoBulkAll spare + 1
  | .agg parts => uptoBulkAll parts + 1
  | .iface _ d => uptoBulk d + 1
  | .map entries => uptoBulkEntries entries + 1
  | .held _ => 1
def uptoBulkAll {H : Type} : List (DataW H) → Nat
  | [] => 0
  | d :: r => uptoBulk d + uptoBulkAll r
def uptoBulkEntries {H : Type} : List (Lit × DataW H) → Nat
  | [] => 0
  | x :: r => uptoBulkEntry x + uptoBulkEntries r
def uptoBulkEntry {H : Type} : Lit × DataW H → Nat
  | (.string bytes, d) => bytes.length + uptoBulk d + 1
  | (_, d) => uptoBulk d + 1
 end
def uptoSmall : (H : Type) → List (DataW H) → Bool := fun _ ds => decide (uptoBulkAll ds ≤ 1048576)
def OpenSpec.upto (s : _root_.Go.ChangeSpec) : _root_.Go.OpenSpec := { _root_.Go.OpenSpec.ofChange s with cond := some uptoSmall }

/-- 'tintlaw1.WhenDays', WHERE WHAT IT READS IS OF BULK AT MOST 1048576: true; the input reads as it did. -/
def whenDaysUptoRow : OpenClaim := { program := "ytdhfhcpgjokhlaa", sum := "311b4caac6f1578e11ef9c17505255cf49e2495b49aaa88c50912ba999551625", func := "tintype/tintlaw1.WhenDays", spec := "whenDays", apart := false, narrowed := true }
def WhenDaysUptoSaid : Prop := whenDaysUptoRow.holds Try.pinned (OpenSpec.upto whenDaysSpec)

/-- 'tintlaw1.WhenGuesses', WHERE WHAT IT READS IS OF BULK AT MOST 1048576: true; the input reads as it did. -/
def whenGuessesUptoRow : OpenClaim := { program := "ytdhfhcpgjokhlaa", sum := "311b4caac6f1578e11ef9c17505255cf49e2495b49aaa88c50912ba999551625", func := "tintype/tintlaw1.WhenGuesses", spec := "whenGuesses", unfollowed := true, recurses := true, apart := false, narrowed := true }
def WhenGuessesUptoSaid : Prop := whenGuessesUptoRow.holds Try.pinned (OpenSpec.upto whenGuessesSpec)

/-- 'tintlaw1.WhenAligns', WHERE WHAT IT READS IS OF BULK AT MOST 1048576: true; the input reads as it did. -/
def whenAlignsUptoRow : OpenClaim := { program := "ytdhfhcpgjokhlaa", sum := "311b4caac6f1578e11ef9c17505255cf49e2495b49aaa88c50912ba999551625", func := "tintype/tintlaw1.WhenAligns", spec := "whenAligns", unfollowed := true, recurses := true, apart := false, narrowed := true }
def WhenAlignsUptoSaid : Prop := whenAlignsUptoRow.holds Try.pinned (OpenSpec.upto whenAlignsSpec)

/-- 'tintlaw1.WhenClocks', WHERE WHAT IT READS IS OF BULK AT MOST 1048576: true; the input reads as it did. -/
def whenClocksUptoRow : OpenClaim := { program := "ytdhfhcpgjokhlaa", sum := "311b4caac6f1578e11ef9c17505255cf49e2495b49aaa88c50912ba999551625", func := "tintype/tintlaw1.WhenClocks", spec := "whenClocks", unfollowed := true, recurses := true, apart := false, narrowed := true }
def WhenClocksUptoSaid : Prop := whenClocksUptoRow.holds Try.pinned (OpenSpec.upto whenClocksSpec)

/-- 'tintlaw1.WhenZones', WHERE WHAT IT READS IS OF BULK AT MOST 1048576: true; the input reads as it did. -/
def whenZonesUptoRow : OpenClaim := { program := "ytdhfhcpgjokhlaa", sum := "311b4caac6f1578e11ef9c17505255cf49e2495b49aaa88c50912ba999551625", func := "tintype/tintlaw1.WhenZones", spec := "whenZones", unfollowed := true, recurses := true, apart := false, narrowed := true }
def WhenZonesUptoSaid : Prop := whenZonesUptoRow.holds Try.pinned (OpenSpec.upto whenZonesSpec)

/-- 'tintlaw1.WhenBursts', WHERE WHAT IT READS IS OF BULK AT MOST 1048576: true; the input reads as it did. -/
def whenBurstsUptoRow : OpenClaim := { program := "ytdhfhcpgjokhlaa", sum := "311b4caac6f1578e11ef9c17505255cf49e2495b49aaa88c50912ba999551625", func := "tintype/tintlaw1.WhenBursts", spec := "whenBursts", unfollowed := true, recurses := true, apart := false, narrowed := true }
def WhenBurstsUptoSaid : Prop := whenBurstsUptoRow.holds Try.pinned (OpenSpec.upto whenBurstsSpec)

end Rows
end Go.Proofs.Ytdhfhcpgjokhlaa
