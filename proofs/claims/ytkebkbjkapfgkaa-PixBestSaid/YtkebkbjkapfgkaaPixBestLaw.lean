/- The law PixBest returns true for every list. -/
import Derived.Test.YtkebkbjkapfgkaaPixBestOf
namespace Go.Proofs.Ytkebkbjkapfgkaa
open Go.RowKit Go.Sort
set_option linter.unusedVariables false
theorem pixBest_by (a : Option Addr) (n ca : Nat) (x q : Int) (w : World)
    (h1 : Calls Try.prog 19 #[.slice a n ca] w fun e w' => e = .returned (.tuple #[.int .i64 x, .int .i64 q]) ∧ Below w.heap.size w w')
    (h2 : ∀ V, Below w.heap.size w V → Calls Try.prog 20 #[.slice a n ca] V fun e w' => e = .returned (.tuple #[.int .i64 x, .int .i64 q]) ∧ Below V.heap.size V w') :
    Calls Try.prog 4 #[.slice a n ca] w fun e w' => e = .returned (.bool true) ∧ Below w.heap.size w w' := by
  have G1 := Lib.hid h1; have G2 := Lib.hid h2; clear h1 h2
  go_enter Try.func4, Try.ntmps4
  go_wp2_with (first | (go_at_call 19; refine G1.out.mono ?_; rintro e w1 ⟨rfl, hB1⟩) | (go_at_call 20; refine (G2.out _ hB1).mono ?_; rintro e w2 ⟨rfl, hB2⟩))
  go_ret
  exact ⟨rfl, below_up hB1 hB2⟩
end Go.Proofs.Ytkebkbjkapfgkaa
