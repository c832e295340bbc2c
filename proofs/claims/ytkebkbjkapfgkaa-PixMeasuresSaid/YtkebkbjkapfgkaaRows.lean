/-
  No cell of these rows narrows 'for every input' (looked for: loops, veiled, ifaces, maps, wideKeys, modest, calm, conditions, laid).
  DERIVED. THE GIVEN ROWS OF THIS SEAT. 11 by the template 'for every input the law returns true; each argument reads behind the call as it read before'; 0 by the template 'total and deterministic' (their statements: YtkebkbjkapfgkaaTotals.lean).
  GIVEN WITH THE SEED: the statements are not yours to turn. If you find one false, say at which input.
  Laid BY PROGRAM, IN A SANDBOX (cutbox-rows.mjs): the forced cells as the released guide's own fill.sh prints them over the translation 5f81ead7de0279d4… (all of the seat's roots in one cut). By AI agents, Wed Nov 11 2026. No macro, syntax, notation, axiom, sorry.
-/
import Derived.Test.YtkebkbjkapfgkaaChecked
import GoSem.Claim
import GoSem.ClaimJoined
import GoSem.ClaimMapViews
import Derived.JoinedTies
import Derived.KernelRfl
namespace Go.Proofs.Ytkebkbjkapfgkaa
/- THE CELL 'sum', in the pinned program and in every row, IS THE sha256 OF THE DUMP (.gsa) THAT YtkebkbjkapfgkaaProg.lean LOADS. Nothing in Lean hashes anything: it is a label: what it is worth is what the hold of that sum in a sandbox is worth. -/
noncomputable def Try.pinned : Pinned := { name := "ytkebkbjkapfgkaa", sum := "5f81ead7de0279d43e76113ac9204a5160b75074c73272e2196d06e166a78185", checked := Try.checked }
namespace Rows
def none {H : Type} : Left H := { results := [], args := [] }

/-- 'tintlaw1.PixCuts': WHATEVER THE INPUT: true; the input reads as it did. -/
def pixCutsSpec : ChangeSpec := { name := "pixCuts", fn := fun _ => fun
  | [d1, d2, d3, d4, d5] => { results := [.lit (.bool true)], args := [d1, d2, d3, d4, d5] }
  | _ => none }
def pixCutsRow : OpenClaim := { program := "ytkebkbjkapfgkaa", sum := "5f81ead7de0279d43e76113ac9204a5160b75074c73272e2196d06e166a78185", func := "tintype/tintlaw1.PixCuts", spec := "pixCuts", unfollowed := true, recurses := true, apart := false }
def PixCutsSaid : Prop := pixCutsRow.holds Try.pinned (OpenSpec.ofChange pixCutsSpec)

/-- ITS FALSE NEIGHBOUR: 'it returns false'. Refute it at one input. -/
def pixCutsWrong : ChangeSpec := { name := "pixCuts", fn := fun _ => fun
  | [d1, d2, d3, d4, d5] => { results := [.lit (.bool false)], args := [d1, d2, d3, d4, d5] }
  | _ => none }
def PixCutsWrongFalsely : Prop := pixCutsRow.holds Try.pinned (OpenSpec.ofChange pixCutsWrong)

/-- 'tintlaw1.PixBest': WHATEVER THE INPUT: true; the input reads as it did. -/
def pixBestSpec : ChangeSpec := { name := "pixBest", fn := fun _ => fun
  | [d] => { results := [.lit (.bool true)], args := [d] }
  | _ => none }
def pixBestRow : OpenClaim := { program := "ytkebkbjkapfgkaa", sum := "5f81ead7de0279d43e76113ac9204a5160b75074c73272e2196d06e166a78185", func := "tintype/tintlaw1.PixBest", spec := "pixBest", apart := false }
def PixBestSaid : Prop := pixBestRow.holds Try.pinned (OpenSpec.ofChange pixBestSpec)

/-- ITS FALSE NEIGHBOUR: 'it returns false'. Refute it at one input. -/
def pixBestWrong : ChangeSpec := { name := "pixBest", fn := fun _ => fun
  | [d] => { results := [.lit (.bool false)], args := [d] }
  | _ => none }
def PixBestWrongFalsely : Prop := pixBestRow.holds Try.pinned (OpenSpec.ofChange pixBestWrong)

/-- 'tintlaw1.PixTurns': WHATEVER THE INPUT: true; the input reads as it did. -/
def pixTurnsSpec : ChangeSpec := { name := "pixTurns", fn := fun _ => fun
  | [d1, d2, d3] => { results := [.lit (.bool true)], args := [d1, d2, d3] }
  | _ => none }
def pixTurnsRow : OpenClaim := { program := "ytkebkbjkapfgkaa", sum := "5f81ead7de0279d43e76113ac9204a5160b75074c73272e2196d06e166a78185", func := "tintype/tintlaw1.PixTurns", spec := "pixTurns", unfollowed := true, recurses := true, apart := false }
def PixTurnsSaid : Prop := pixTurnsRow.holds Try.pinned (OpenSpec.ofChange pixTurnsSpec)

/-- ITS FALSE NEIGHBOUR: 'it returns false'. Refute it at one input. -/
def pixTurnsWrong : ChangeSpec := { name := "pixTurns", fn := fun _ => fun
  | [d1, d2, d3] => { results := [.lit (.bool false)], args := [d1, d2, d3] }
  | _ => none }
def PixTurnsWrongFalsely : Prop := pixTurnsRow.holds Try.pinned (OpenSpec.ofChange pixTurnsWrong)

/-- 'tintkeep1.PixGroup': WHATEVER THE INPUT: true; the input reads as it did. -/
def pixGroupSpec : ChangeSpec := { name := "pixGroup", fn := fun _ => fun
  | [d1, d2, d3, d4] => { results := [.lit (.bool true)], args := [d1, d2, d3, d4] }
  | _ => none }
def pixGroupRow : OpenClaim := { program := "ytkebkbjkapfgkaa", sum := "5f81ead7de0279d43e76113ac9204a5160b75074c73272e2196d06e166a78185", func := "tintype/tintkeep1.PixGroup", spec := "pixGroup", unfollowed := true, recurses := true, apart := false }
def PixGroupSaid : Prop := pixGroupRow.holds Try.pinned (OpenSpec.ofChange pixGroupSpec)

/-- ITS FALSE NEIGHBOUR: 'it returns false'. Refute it at one input. -/
def pixGroupWrong : ChangeSpec := { name := "pixGroup", fn := fun _ => fun
  | [d1, d2, d3, d4] => { results := [.lit (.bool false)], args := [d1, d2, d3, d4] }
  | _ => none }
def PixGroupWrongFalsely : Prop := pixGroupRow.holds Try.pinned (OpenSpec.ofChange pixGroupWrong)

/-- 'tintlaw1.PixScales': WHATEVER THE INPUT: true; the input reads as it did. -/
def pixScalesSpec : ChangeSpec := { name := "pixScales", fn := fun _ => fun
  | [d1, d2, d3, d4] => { results := [.lit (.bool true)], args := [d1, d2, d3, d4] }
  | _ => none }
def pixScalesRow : OpenClaim := { program := "ytkebkbjkapfgkaa", sum := "5f81ead7de0279d43e76113ac9204a5160b75074c73272e2196d06e166a78185", func := "tintype/tintlaw1.PixScales", spec := "pixScales", unfollowed := true, recurses := true, apart := false }
def PixScalesSaid : Prop := pixScalesRow.holds Try.pinned (OpenSpec.ofChange pixScalesSpec)

/-- ITS FALSE NEIGHBOUR: 'it returns false'. Refute it at one input. -/
def pixScalesWrong : ChangeSpec := { name := "pixScales", fn := fun _ => fun
  | [d1, d2, d3, d4] => { results := [.lit (.bool false)], args := [d1, d2, d3, d4] }
  | _ => none }
def PixScalesWrongFalsely : Prop := pixScalesRow.holds Try.pinned (OpenSpec.ofChange pixScalesWrong)

/-- 'tintkeep1.PixBrighter': WHATEVER THE INPUT: true; the input reads as it did. -/
def pixBrighterSpec : ChangeSpec := { name := "pixBrighter", fn := fun _ => fun
  | [d1, d2] => { results := [.lit (.bool true)], args := [d1, d2] }
  | _ => none }
def pixBrighterRow : OpenClaim := { program := "ytkebkbjkapfgkaa", sum := "5f81ead7de0279d43e76113ac9204a5160b75074c73272e2196d06e166a78185", func := "tintype/tintkeep1.PixBrighter", spec := "pixBrighter", apart := false }
def PixBrighterSaid : Prop := pixBrighterRow.holds Try.pinned (OpenSpec.ofChange pixBrighterSpec)

/-- ITS FALSE NEIGHBOUR: 'it returns false'. Refute it at one input. -/
def pixBrighterWrong : ChangeSpec := { name := "pixBrighter", fn := fun _ => fun
  | [d1, d2] => { results := [.lit (.bool false)], args := [d1, d2] }
  | _ => none }
def PixBrighterWrongFalsely : Prop := pixBrighterRow.holds Try.pinned (OpenSpec.ofChange pixBrighterWrong)

/-- 'tintkeep1.PixExchanged': WHATEVER THE INPUT: true; the input reads as it did. -/
def pixExchangedSpec : ChangeSpec := { name := "pixExchanged", fn := fun _ => fun
  | [d1, d2, d3, d4] => { results := [.lit (.bool true)], args := [d1, d2, d3, d4] }
  | _ => none }
def pixExchangedRow : OpenClaim := { program := "ytkebkbjkapfgkaa", sum := "5f81ead7de0279d43e76113ac9204a5160b75074c73272e2196d06e166a78185", func := "tintype/tintkeep1.PixExchanged", spec := "pixExchanged", unfollowed := true, recurses := true, apart := false }
def PixExchangedSaid : Prop := pixExchangedRow.holds Try.pinned (OpenSpec.ofChange pixExchangedSpec)

/-- ITS FALSE NEIGHBOUR: 'it returns false'. Refute it at one input. -/
def pixExchangedWrong : ChangeSpec := { name := "pixExchanged", fn := fun _ => fun
  | [d1, d2, d3, d4] => { results := [.lit (.bool false)], args := [d1, d2, d3, d4] }
  | _ => none }
def PixExchangedWrongFalsely : Prop := pixExchangedRow.holds Try.pinned (OpenSpec.ofChange pixExchangedWrong)

/-- 'tintlaw1.PixMeasures': WHATEVER THE INPUT: true; the input reads as it did. -/
def pixMeasuresSpec : ChangeSpec := { name := "pixMeasures", fn := fun _ => fun
  | [d1, d2, d3, d4] => { results := [.lit (.bool true)], args := [d1, d2, d3, d4] }
  | _ => none }
def pixMeasuresRow : OpenClaim := { program := "ytkebkbjkapfgkaa", sum := "5f81ead7de0279d43e76113ac9204a5160b75074c73272e2196d06e166a78185", func := "tintype/tintlaw1.PixMeasures", spec := "pixMeasures", unfollowed := true, recurses := true, apart := false }
def PixMeasuresSaid : Prop := pixMeasuresRow.holds Try.pinned (OpenSpec.ofChange pixMeasuresSpec)

/-- ITS FALSE NEIGHBOUR: 'it returns false'. Refute it at one input. -/
def pixMeasuresWrong : ChangeSpec := { name := "pixMeasures", fn := fun _ => fun
  | [d1, d2, d3, d4] => { results := [.lit (.bool false)], args := [d1, d2, d3, d4] }
  | _ => none }
def PixMeasuresWrongFalsely : Prop := pixMeasuresRow.holds Try.pinned (OpenSpec.ofChange pixMeasuresWrong)

/-- 'tintkeep1.PixNear': WHATEVER THE INPUT: true; the input reads as it did. -/
def pixNearSpec : ChangeSpec := { name := "pixNear", fn := fun _ => fun
  | [d1, d2, d3, d4, d5] => { results := [.lit (.bool true)], args := [d1, d2, d3, d4, d5] }
  | _ => none }
def pixNearRow : OpenClaim := { program := "ytkebkbjkapfgkaa", sum := "5f81ead7de0279d43e76113ac9204a5160b75074c73272e2196d06e166a78185", func := "tintype/tintkeep1.PixNear", spec := "pixNear", recurses := true, apart := false }
def PixNearSaid : Prop := pixNearRow.holds Try.pinned (OpenSpec.ofChange pixNearSpec)

/-- ITS FALSE NEIGHBOUR: 'it returns false'. Refute it at one input. -/
def pixNearWrong : ChangeSpec := { name := "pixNear", fn := fun _ => fun
  | [d1, d2, d3, d4, d5] => { results := [.lit (.bool false)], args := [d1, d2, d3, d4, d5] }
  | _ => none }
def PixNearWrongFalsely : Prop := pixNearRow.holds Try.pinned (OpenSpec.ofChange pixNearWrong)

/-- 'tintlaw1.PixGroups': WHATEVER THE INPUT: true; the input reads as it did. -/
def pixGroupsSpec : ChangeSpec := { name := "pixGroups", fn := fun _ => fun
  | [d1, d2] => { results := [.lit (.bool true)], args := [d1, d2] }
  | _ => none }
def pixGroupsRow : OpenClaim := { program := "ytkebkbjkapfgkaa", sum := "5f81ead7de0279d43e76113ac9204a5160b75074c73272e2196d06e166a78185", func := "tintype/tintlaw1.PixGroups", spec := "pixGroups", unfollowed := true, recurses := true, apart := false }
def PixGroupsSaid : Prop := pixGroupsRow.holds Try.pinned (OpenSpec.ofChange pixGroupsSpec)

/-- ITS FALSE NEIGHBOUR: 'it returns false'. Refute it at one input. -/
def pixGroupsWrong : ChangeSpec := { name := "pixGroups", fn := fun _ => fun
  | [d1, d2] => { results := [.lit (.bool false)], args := [d1, d2] }
  | _ => none }
def PixGroupsWrongFalsely : Prop := pixGroupsRow.holds Try.pinned (OpenSpec.ofChange pixGroupsWrong)

/-- 'tintlaw1.PixTrees': WHATEVER THE INPUT: true; the input reads as it did. -/
def pixTreesSpec : ChangeSpec := { name := "pixTrees", fn := fun _ => fun
  | [d] => { results := [.lit (.bool true)], args := [d] }
  | _ => none }
def pixTreesRow : OpenClaim := { program := "ytkebkbjkapfgkaa", sum := "5f81ead7de0279d43e76113ac9204a5160b75074c73272e2196d06e166a78185", func := "tintype/tintlaw1.PixTrees", spec := "pixTrees", unfollowed := true, recurses := true, apart := false }
def PixTreesSaid : Prop := pixTreesRow.holds Try.pinned (OpenSpec.ofChange pixTreesSpec)

/-- ITS FALSE NEIGHBOUR: 'it returns false'. Refute it at one input. -/
def pixTreesWrong : ChangeSpec := { name := "pixTrees", fn := fun _ => fun
  | [d] => { results := [.lit (.bool false)], args := [d] }
  | _ => none }
def PixTreesWrongFalsely : Prop := pixTreesRow.holds Try.pinned (OpenSpec.ofChange pixTreesWrong)

/- THE SECOND FORM. 'bulk': how many values and letters a reading holds, each counted each time it is reached (what is shared counts as often as it is met; a slice's spare places count too). A statement '..UptoSaid' is the law's where the arguments, and the package variables that the reading takes, are together of bulk at most 1048576: NARROWER than '..Said'. Prove '..Said' where nothing that the law and all that it calls make is longer than what came in: it says more and counts as full. Else prove '..UptoSaid'. A law counts once. -/
mutual
def uptoBulk {H : Type} : DataW H → Nat
  | .lit (.string bytes) => bytes.length + 1
  | .lit _ => 1
  | .nil => 1
  | .ptr d => uptoBulk d + 1
  | .slice elems spare => uptoBulkAll elems + uptoBulkAll spare + 1
  | .agg parts => uptoBulkAll parts + 1
  | .iface _ d => uptoBulk d + 1
  | .map entries => uptoBulkEntries entries + 1
  | .held _ => 1
def uptoBulkAll {H : Type} : List (DataW H) → Nat
  | [] => 0
  | d :: r => uptoBulk d + uptoBulkAll r
def uptoBulkEntries {H : Type} : List (Lit × DataW H) → Nat
  | [] => 0
  | x :: r => uptoBulkEntry x + uptoBulkEntries r
def uptoBulkEntry {H : Type} : Lit × DataW H → Nat
  | (.string bytes, d) => bytes.length + uptoBulk d + 1
  | (_, d) => uptoBulk d + 1
 end
def uptoSmall : (H : Type) → List (DataW H) → Bool := fun _ ds => decide (uptoBulkAll ds ≤ 1048576)
def OpenSpec.upto (s : _root_.Go.ChangeSpec) : _root_.Go.OpenSpec := { _root_.Go.OpenSpec.ofChange s with cond := some uptoSmall }

/-- 'tintlaw1.PixCuts', WHERE WHAT IT READS IS OF BULK AT MOST 1048576: true; the input reads as it did. -/
def pixCutsUptoRow : OpenClaim := { program := "ytkebkbjkapfgkaa", sum := "5f81ead7de0279d43e76113ac9204a5160b75074c73272e2196d06e166a78185", func := "tintype/tintlaw1.PixCuts", spec := "pixCuts", unfollowed := true, recurses := true, apart := false, narrowed := true }
def PixCutsUptoSaid : Prop := pixCutsUptoRow.holds Try.pinned (OpenSpec.upto pixCutsSpec)

/-- 'tintlaw1.PixBest', WHERE WHAT IT READS IS OF BULK AT MOST 1048576: true; the input reads as it did. -/
def pixBestUptoRow : OpenClaim := { program := "ytkebkbjkapfgkaa", sum := "5f81ead7de0279d43e76113ac9204a5160b75074c73272e2196d06e166a78185", func := "tintype/tintlaw1.PixBest", spec := "pixBest", apart := false, narrowed := true }
def PixBestUptoSaid : Prop := pixBestUptoRow.holds Try.pinned (OpenSpec.upto pixBestSpec)

/-- 'tintlaw1.PixTurns', WHERE WHAT IT READS IS OF BULK AT MOST 1048576: true; the input reads as it did. -/
def pixTurnsUptoRow : OpenClaim := { program := "ytkebkbjkapfgkaa", sum := "5f81ead7de0279d43e76113ac9204a5160b75074c73272e2196d06e166a78185", func := "tintype/tintlaw1.PixTurns", spec := "pixTurns", unfollowed := true, recurses := true, apart := false, narrowed := true }
def PixTurnsUptoSaid : Prop := pixTurnsUptoRow.holds Try.pinned (OpenSpec.upto pixTurnsSpec)

/-- 'tintkeep1.PixGroup', WHERE WHAT IT READS IS OF BULK AT MOST 1048576: true; the input reads as it did. -/
def pixGroupUptoRow : OpenClaim := { program := "ytkebkbjkapfgkaa", sum := "5f81ead7de0279d43e76113ac9204a5160b75074c73272e2196d06e166a78185", func := "tintype/tintkeep1.PixGroup", spec := "pixGroup", unfollowed := true, recurses := true, apart := false, narrowed := true }
def PixGroupUptoSaid : Prop := pixGroupUptoRow.holds Try.pinned (OpenSpec.upto pixGroupSpec)

/-- 'tintlaw1.PixScales', WHERE WHAT IT READS IS OF BULK AT MOST 1048576: true; the input reads as it did. -/
def pixScalesUptoRow : OpenClaim := { program := "ytkebkbjkapfgkaa", sum := "5f81ead7de0279d43e76113ac9204a5160b75074c73272e2196d06e166a78185", func := "tintype/tintlaw1.PixScales", spec := "pixScales", unfollowed := true, recurses := true, apart := false, narrowed := true }
def PixScalesUptoSaid : Prop := pixScalesUptoRow.holds Try.pinned (OpenSpec.upto pixScalesSpec)

/-- 'tintkeep1.PixBrighter', WHERE WHAT IT READS IS OF BULK AT MOST 1048576: true; the input reads as it did. -/
def pixBrighterUptoRow : OpenClaim := { program := "ytkebkbjkapfgkaa", sum := "5f81ead7de0279d43e76113ac9204a5160b75074c73272e2196d06e166a78185", func := "tintype/tintkeep1.PixBrighter", spec := "pixBrighter", apart := false, narrowed := true }
def PixBrighterUptoSaid : Prop := pixBrighterUptoRow.holds Try.pinned (OpenSpec.upto pixBrighterSpec)

/-- 'tintkeep1.PixExchanged', WHERE WHAT IT READS IS OF BULK AT MOST 1048576: true; the input reads as it did. -/
def pixExchangedUptoRow : OpenClaim := { program := "ytkebkbjkapfgkaa", sum := "5f81ead7de0279d43e76113ac9204a5160b75074c73272e2196d06e166a78185", func := "tintype/tintkeep1.PixExchanged", spec := "pixExchanged", unfollowed := true, recurses := true, apart := false, narrowed := true }
def PixExchangedUptoSaid : Prop := pixExchangedUptoRow.holds Try.pinned (OpenSpec.upto pixExchangedSpec)

/-- 'tintlaw1.PixMeasures', WHERE WHAT IT READS IS OF BULK AT MOST 1048576: true; the input reads as it did. -/
def pixMeasuresUptoRow : OpenClaim := { program := "ytkebkbjkapfgkaa", sum := "5f81ead7de0279d43e76113ac9204a5160b75074c73272e2196d06e166a78185", func := "tintype/tintlaw1.PixMeasures", spec := "pixMeasures", unfollowed := true, recurses := true, apart := false, narrowed := true }
def PixMeasuresUptoSaid : Prop := pixMeasuresUptoRow.holds Try.pinned (OpenSpec.upto pixMeasuresSpec)

/-- 'tintkeep1.PixNear', WHERE WHAT IT READS IS OF BULK AT MOST 1048576: true; the input reads as it did. -/
def pixNearUptoRow : OpenClaim := { program := "ytkebkbjkapfgkaa", sum := "5f81ead7de0279d43e76113ac9204a5160b75074c73272e2196d06e166a78185", func := "tintype/tintkeep1.PixNear", spec := "pixNear", recurses := true, apart := false, narrowed := true }
def PixNearUptoSaid : Prop := pixNearUptoRow.holds Try.pinned (OpenSpec.upto pixNearSpec)

/-- 'tintlaw1.PixGroups', WHERE WHAT IT READS IS OF BULK AT MOST 1048576: true; the input reads as it did. -/
def pixGroupsUptoRow : OpenClaim := { program := "ytkebkbjkapfgkaa", sum := "5f81ead7de0279d43e76113ac9204a5160b75074c73272e2196d06e166a78185", func := "tintype/tintlaw1.PixGroups", spec := "pixGroups", unfollowed := true, recurses := true, apart := false, narrowed := true }
def PixGroupsUptoSaid : Prop := pixGroupsUptoRow.holds Try.pinned (OpenSpec.upto pixGroupsSpec)

/-- 'tintlaw1.PixTrees', WHERE WHAT IT READS IS OF BULK AT MOST 1048576: true; the input reads as it did. -/
def pixTreesUptoRow : OpenClaim := { program := "ytkebkbjkapfgkaa", sum := "5f81ead7de0279d43e76113ac9204a5160b75074c73272e2196d06e166a78185", func := "tintype/tintlaw1.PixTrees", spec := "pixTrees", unfollowed := true, recurses := true, apart := false, narrowed := true }
def PixTreesUptoSaid : Prop := pixTreesUptoRow.holds Try.pinned (OpenSpec.upto pixTreesSpec)

end Rows
end Go.Proofs.Ytkebkbjkapfgkaa
