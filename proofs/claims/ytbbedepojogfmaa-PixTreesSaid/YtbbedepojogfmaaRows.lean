/-
  NARROWER THAN 'FOR EVERY INPUT', by the rows' own cells (each row's printed sentence says how): FindAlbums: loops.
  DERIVED. THE GIVEN ROWS OF THIS SEAT. 7 by the template 'for every input the law returns true; each argument reads behind the call as it read before'; 0 by the template 'total and deterministic' (their statements: YtbbedepojogfmaaTotals.lean).
  GIVEN WITH THE SEED: the statements are not yours to turn. If you find one false, say at which input.
  Laid BY PROGRAM, IN A SANDBOX (cutbox-rows.mjs): the forced cells as the released guide's own fill.sh prints them over the translation 94161b477030daa1… (all of the seat's roots in one cut). By AI agents, Wed Nov 11 2026. No macro, syntax, notation, axiom, sorry.
-/
import Derived.Test.YtbbedepojogfmaaChecked
import GoSem.Claim
import GoSem.ClaimJoined
import GoSem.ClaimMapViews
import Derived.JoinedTies
import Derived.KernelRfl
namespace Go.Proofs.Ytbbedepojogfmaa
/- THE CELL 'sum', in the pinned program and in every row, IS THE sha256 OF THE DUMP (.gsa) THAT YtbbedepojogfmaaProg.lean LOADS. Nothing in Lean hashes anything: it is a label: what it is worth is what the hold of that sum in a sandbox is worth. -/
noncomputable def Try.pinned : Pinned := { name := "ytbbedepojogfmaa", sum := "94161b477030daa107b52665f544190eb1b05499cb63f689a692e458e31e640d", checked := Try.checked }
namespace Rows
def none {H : Type} : Left H := { results := [], args := [] }

/-- 'tintlaw1.WhenZones': WHATEVER THE INPUT: true; the input reads as it did. -/
def whenZonesSpec : ChangeSpec := { name := "whenZones", fn := fun _ => fun
  | [d1, d2, d3, d4] => { results := [.lit (.bool true)], args := [d1, d2, d3, d4] }
  | _ => none }
def whenZonesRow : OpenClaim := { program := "ytbbedepojogfmaa", sum := "94161b477030daa107b52665f544190eb1b05499cb63f689a692e458e31e640d", func := "tintype/tintlaw1.WhenZones", spec := "whenZones", unfollowed := true, recurses := true, apart := false }
def WhenZonesSaid : Prop := whenZonesRow.holds Try.pinned (OpenSpec.ofChange whenZonesSpec)

/-- ITS FALSE NEIGHBOUR: 'it returns false'. Refute it at one input. -/
def whenZonesWrong : ChangeSpec := { name := "whenZones", fn := fun _ => fun
  | [d1, d2, d3, d4] => { results := [.lit (.bool false)], args := [d1, d2, d3, d4] }
  | _ => none }
def WhenZonesWrongFalsely : Prop := whenZonesRow.holds Try.pinned (OpenSpec.ofChange whenZonesWrong)

/-- 'tintlaw1.FindPhotos': WHATEVER THE INPUT: true; the input reads as it did. -/
def findPhotosSpec : ChangeSpec := { name := "findPhotos", fn := fun _ => fun
  | [d1, d2, d3] => { results := [.lit (.bool true)], args := [d1, d2, d3] }
  | _ => none }
def findPhotosRow : OpenClaim := { program := "ytbbedepojogfmaa", sum := "94161b477030daa107b52665f544190eb1b05499cb63f689a692e458e31e640d", func := "tintype/tintlaw1.FindPhotos", spec := "findPhotos", inPlace := ["internal/bytealg.IndexByteString"], unfollowed := true, recurses := true, apart := false }
def FindPhotosSaid : Prop := findPhotosRow.holds Try.pinned (OpenSpec.ofChange findPhotosSpec)

/-- ITS FALSE NEIGHBOUR: 'it returns false'. Refute it at one input. -/
def findPhotosWrong : ChangeSpec := { name := "findPhotos", fn := fun _ => fun
  | [d1, d2, d3] => { results := [.lit (.bool false)], args := [d1, d2, d3] }
  | _ => none }
def FindPhotosWrongFalsely : Prop := findPhotosRow.holds Try.pinned (OpenSpec.ofChange findPhotosWrong)

/-- 'tintlaw1.FindAlbums': WHATEVER THE INPUT: true; the input reads as it did. -/
def findAlbumsSpec : ChangeSpec := { name := "findAlbums", fn := fun _ => fun
  | [d] => { results := [.lit (.bool true)], args := [d] }
  | _ => none }
def findAlbumsRow : OpenClaim := { program := "ytbbedepojogfmaa", sum := "94161b477030daa107b52665f544190eb1b05499cb63f689a692e458e31e640d", func := "tintype/tintlaw1.FindAlbums", spec := "findAlbums", unfollowed := true, recurses := true, loops := true, apart := false }
def FindAlbumsSaid : Prop := findAlbumsRow.holds Try.pinned (OpenSpec.ofChange findAlbumsSpec)

/-- ITS FALSE NEIGHBOUR: 'it returns false'. Refute it at one input. -/
def findAlbumsWrong : ChangeSpec := { name := "findAlbums", fn := fun _ => fun
  | [d] => { results := [.lit (.bool false)], args := [d] }
  | _ => none }
def FindAlbumsWrongFalsely : Prop := findAlbumsRow.holds Try.pinned (OpenSpec.ofChange findAlbumsWrong)

/-- 'tintkeep1.PixNear': WHATEVER THE INPUT: true; the input reads as it did. -/
def pixNearSpec : ChangeSpec := { name := "pixNear", fn := fun _ => fun
  | [d1, d2, d3, d4, d5] => { results := [.lit (.bool true)], args := [d1, d2, d3, d4, d5] }
  | _ => none }
def pixNearRow : OpenClaim := { program := "ytbbedepojogfmaa", sum := "94161b477030daa107b52665f544190eb1b05499cb63f689a692e458e31e640d", func := "tintype/tintkeep1.PixNear", spec := "pixNear", recurses := true, apart := false }
def PixNearSaid : Prop := pixNearRow.holds Try.pinned (OpenSpec.ofChange pixNearSpec)

/-- ITS FALSE NEIGHBOUR: 'it returns false'. Refute it at one input. -/
def pixNearWrong : ChangeSpec := { name := "pixNear", fn := fun _ => fun
  | [d1, d2, d3, d4, d5] => { results := [.lit (.bool false)], args := [d1, d2, d3, d4, d5] }
  | _ => none }
def PixNearWrongFalsely : Prop := pixNearRow.holds Try.pinned (OpenSpec.ofChange pixNearWrong)

/-- 'tintlaw1.PixGroups': WHATEVER THE INPUT: true; the input reads as it did. -/
def pixGroupsSpec : ChangeSpec := { name := "pixGroups", fn := fun _ => fun
  | [d1, d2] => { results := [.lit (.bool true)], args := [d1, d2] }
  | _ => none }
def pixGroupsRow : OpenClaim := { program := "ytbbedepojogfmaa", sum := "94161b477030daa107b52665f544190eb1b05499cb63f689a692e458e31e640d", func := "tintype/tintlaw1.PixGroups", spec := "pixGroups", unfollowed := true, recurses := true, apart := false }
def PixGroupsSaid : Prop := pixGroupsRow.holds Try.pinned (OpenSpec.ofChange pixGroupsSpec)

/-- ITS FALSE NEIGHBOUR: 'it returns false'. Refute it at one input. -/
def pixGroupsWrong : ChangeSpec := { name := "pixGroups", fn := fun _ => fun
  | [d1, d2] => { results := [.lit (.bool false)], args := [d1, d2] }
  | _ => none }
def PixGroupsWrongFalsely : Prop := pixGroupsRow.holds Try.pinned (OpenSpec.ofChange pixGroupsWrong)

/-- 'tintlaw1.PixTrees': WHATEVER THE INPUT: true; the input reads as it did. -/
def pixTreesSpec : ChangeSpec := { name := "pixTrees", fn := fun _ => fun
  | [d] => { results := [.lit (.bool true)], args := [d] }
  | _ => none }
def pixTreesRow : OpenClaim := { program := "ytbbedepojogfmaa", sum := "94161b477030daa107b52665f544190eb1b05499cb63f689a692e458e31e640d", func := "tintype/tintlaw1.PixTrees", spec := "pixTrees", unfollowed := true, recurses := true, apart := false }
def PixTreesSaid : Prop := pixTreesRow.holds Try.pinned (OpenSpec.ofChange pixTreesSpec)

/-- ITS FALSE NEIGHBOUR: 'it returns false'. Refute it at one input. -/
def pixTreesWrong : ChangeSpec := { name := "pixTrees", fn := fun _ => fun
  | [d] => { results := [.lit (.bool false)], args := [d] }
  | _ => none }
def PixTreesWrongFalsely : Prop := pixTreesRow.holds Try.pinned (OpenSpec.ofChange pixTreesWrong)

/-- 'tintlaw1.WhenBursts': WHATEVER THE INPUT: true; the input reads as it did. -/
def whenBurstsSpec : ChangeSpec := { name := "whenBursts", fn := fun _ => fun
  | [d1, d2, d3, d4, d5] => { results := [.lit (.bool true)], args := [d1, d2, d3, d4, d5] }
  | _ => none }
def whenBurstsRow : OpenClaim := { program := "ytbbedepojogfmaa", sum := "94161b477030daa107b52665f544190eb1b05499cb63f689a692e458e31e640d", func := "tintype/tintlaw1.WhenBursts", spec := "whenBursts", unfollowed := true, recurses := true, apart := false }
def WhenBurstsSaid : Prop := whenBurstsRow.holds Try.pinned (OpenSpec.ofChange whenBurstsSpec)

/-- ITS FALSE NEIGHBOUR: 'it returns false'. Refute it at one input. -/
def whenBurstsWrong : ChangeSpec := { name := "whenBursts", fn := fun _ => fun
  | [d1, d2, d3, d4, d5] => { results := [.lit (.bool false)], args := [d1, d2, d3, d4, d5] }
  | _ => none }
def WhenBurstsWrongFalsely : Prop := whenBurstsRow.holds Try.pinned (OpenSpec.ofChange whenBurstsWrong)

/- THE SECOND FORM. 'bulk': how many values and letters a reading holds, each counted each time it is reached (what is shared counts as often as it is met; a slice's spare places count too). A statement '..UptoSaid' is the law's where the arguments, and the package variables that the reading takes, are together of bulk at most 1048576: NARROWER than '..Said'. Prove '..Said' where nothing that the law and all that it calls make is longer than what came in: it says more and counts as full. Else prove '..UptoSaid'. A law counts once. -/
mutual
def uptoBulk {H : Type} : DataW H → Nat
  | .lit (.string bytes) => bytes.length + 1
  | .lit _ => 1
  | .nil => 1
  | .ptr d => uptoBulk d + 1
  | .slice elems spare => uptoBulkAll elems + uptoBulkAll spare + 1
  | .agg parts => uptoBulkAll parts + 1
  | .iface _ d => uptoBulk d + 1
  | .map entries => uptoBulkEntries entries + 1
  | .held _ => 1
def uptoBulkAll {H : Type} : List (DataW H) → Nat
  | [] => 0
  | d :: r => uptoBulk d + uptoBulkAll r
def uptoBulkEntries {H : Type} : List (Lit × DataW H) → Nat
  | [] => 0
  | x :: r => uptoBulkEntry x + uptoBulkEntries r
def uptoBulkEntry {H : Type} : Lit × DataW H → Nat
  | (.string bytes, d) => bytes.length + uptoBulk d + 1
  | (_, d) => uptoBulk d + 1
 end
def uptoSmall : (H : Type) → List (DataW H) → Bool := fun _ ds => decide (uptoBulkAll ds ≤ 1048576)
def OpenSpec.upto (s : _root_.Go.ChangeSpec) : _root_.Go.OpenSpec := { _root_.Go.OpenSpec.ofChange s with cond := some uptoSmall }

/-- 'tintlaw1.WhenZones', WHERE WHAT IT READS IS OF BULK AT MOST 1048576: true; the input reads as it did. -/
def whenZonesUptoRow : OpenClaim := { program := "ytbbedepojogfmaa", sum := "94161b477030daa107b52665f544190eb1b05499cb63f689a692e458e31e640d", func := "tintype/tintlaw1.WhenZones", spec := "whenZones", unfollowed := true, recurses := true, apart := false, narrowed := true }
def WhenZonesUptoSaid : Prop := whenZonesUptoRow.holds Try.pinned (OpenSpec.upto whenZonesSpec)

/-- 'tintlaw1.FindPhotos', WHERE WHAT IT READS IS OF BULK AT MOST 1048576: true; the input reads as it did. -/
def findPhotosUptoRow : OpenClaim := { program := "ytbbedepojogfmaa", sum := "94161b477030daa107b52665f544190eb1b05499cb63f689a692e458e31e640d", func := "tintype/tintlaw1.FindPhotos", spec := "findPhotos", inPlace := ["internal/bytealg.IndexByteString"], unfollowed := true, recurses := true, apart := false, narrowed := true }
def FindPhotosUptoSaid : Prop := findPhotosUptoRow.holds Try.pinned (OpenSpec.upto findPhotosSpec)

/-- 'tintlaw1.FindAlbums', WHERE WHAT IT READS IS OF BULK AT MOST 1048576: true; the input reads as it did. -/
def findAlbumsUptoRow : OpenClaim := { program := "ytbbedepojogfmaa", sum := "94161b477030daa107b52665f544190eb1b05499cb63f689a692e458e31e640d", func := "tintype/tintlaw1.FindAlbums", spec := "findAlbums", unfollowed := true, recurses := true, loops := true, apart := false, narrowed := true }
def FindAlbumsUptoSaid : Prop := findAlbumsUptoRow.holds Try.pinned (OpenSpec.upto findAlbumsSpec)

/-- 'tintkeep1.PixNear', WHERE WHAT IT READS IS OF BULK AT MOST 1048576: true; the input reads as it did. -/
def pixNearUptoRow : OpenClaim := { program := "ytbbedepojogfmaa", sum := "94161b477030daa107b52665f544190eb1b05499cb63f689a692e458e31e640d", func := "tintype/tintkeep1.PixNear", spec := "pixNear", recurses := true, apart := false, narrowed := true }
def PixNearUptoSaid : Prop := pixNearUptoRow.holds Try.pinned (OpenSpec.upto pixNearSpec)

/-- 'tintlaw1.PixGroups', WHERE WHAT IT READS IS OF BULK AT MOST 1048576: true; the input reads as it did. -/
def pixGroupsUptoRow : OpenClaim := { program := "ytbbedepojogfmaa", sum := "94161b477030daa107b52665f544190eb1b05499cb63f689a692e458e31e640d", func := "tintype/tintlaw1.PixGroups", spec := "pixGroups", unfollowed := true, recurses := true, apart := false, narrowed := true }
def PixGroupsUptoSaid : Prop := pixGroupsUptoRow.holds Try.pinned (OpenSpec.upto pixGroupsSpec)

/-- 'tintlaw1.PixTrees', WHERE WHAT IT READS IS OF BULK AT MOST 1048576: true; the input reads as it did. -/
def pixTreesUptoRow : OpenClaim := { program := "ytbbedepojogfmaa", sum := "94161b477030daa107b52665f544190eb1b05499cb63f689a692e458e31e640d", func := "tintype/tintlaw1.PixTrees", spec := "pixTrees", unfollowed := true, recurses := true, apart := false, narrowed := true }
def PixTreesUptoSaid : Prop := pixTreesUptoRow.holds Try.pinned (OpenSpec.upto pixTreesSpec)

/-- 'tintlaw1.WhenBursts', WHERE WHAT IT READS IS OF BULK AT MOST 1048576: true; the input reads as it did. -/
def whenBurstsUptoRow : OpenClaim := { program := "ytbbedepojogfmaa", sum := "94161b477030daa107b52665f544190eb1b05499cb63f689a692e458e31e640d", func := "tintype/tintlaw1.WhenBursts", spec := "whenBursts", unfollowed := true, recurses := true, apart := false, narrowed := true }
def WhenBurstsUptoSaid : Prop := whenBurstsUptoRow.holds Try.pinned (OpenSpec.upto whenBurstsSpec)

end Rows
end Go.Proofs.Ytbbedepojogfmaa
