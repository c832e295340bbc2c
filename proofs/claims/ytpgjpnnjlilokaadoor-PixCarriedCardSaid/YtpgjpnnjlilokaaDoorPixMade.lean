/- SameImage of two images with the same bytes; the laws' function 'made'. -/
import Derived.Test.YtpgjpnnjlilokaaDoorPixSame
import Derived.Deep.RegionHeld3
import Derived.Shelf.Abstract
import Derived.Deep.DrawnRows
namespace Go.Proofs.YtpgjpnnjlilokaaDoor
open Go.RowKit Go.Sort Go.Shelf
set_option linter.unusedVariables false
attribute [local go_sem ↓] Go.wp_at_zero Go.wp_at_succ
set_option maxHeartbeats 1000000 in
theorem sameImage_same (W H : Int) (a a2 : Option Addr) (n ca ca2 : Nat) (f : Nat → Int) (w : World) (h1 : Bytes w a n f) (h2 : Bytes w a2 n f) (hn : n ≤ 12288) (hca : n ≤ ca) (hca2 : n ≤ ca2) :
    Calls Tryd.prog 10 #[.agg #[.int .i64 W, .int .i64 H, .slice a n ca], .agg #[.int .i64 W, .int .i64 H, .slice a2 n ca2]] w fun e w' => e = .returned (.bool true) ∧ Below w.heap.size w w' := by
  have HE := Lib.hid (fun V (hV : Below w.heap.size w V) => equal_same a a2 n ca ca2 f V (h1.keep hV) (h2.keep hV) hn hca hca2)
  clear h1 h2
  go_enter Tryd.func10, Tryd.ntmps10
  go_wp2_with (go_at_call 21; refine (HE.out _ (below_allocs (below_allocs (Below.refl _ _) _) _)).mono ?_; rintro e w' ⟨rfl, hB⟩)
  go_ret
  exact ⟨rfl, below_up (below_allocs (below_allocs (Below.refl _ _) _) _) hB⟩
end Go.Proofs.YtpgjpnnjlilokaaDoor
