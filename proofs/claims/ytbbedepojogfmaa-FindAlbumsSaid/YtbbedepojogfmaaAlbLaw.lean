/- The law FindAlbums, walked. -/
import Derived.Test.YtbbedepojogfmaaAlbs
namespace Go.Proofs.Ytbbedepojogfmaa
open Go.RowKit Go.Sort Go.Shelf
set_option linter.unusedVariables false
set_option maxRecDepth 100000 in
set_option maxHeartbeats 4000000 in
theorem findAlbums_walk (a : Option Addr) (n ca : Nat) (x : Nat → Alb) (w : World) (hn : n ≤ 9223372036854775807) (hx : Als w a n x) (hF : ∀ i, i < n → (x i).Fits) :
    Calls Try.prog 5 #[.slice a n ca] w fun e w' => e = .returned (.bool true) ∧ Below w.heap.size w w' := by
  have HC1 := Lib.hid (checkAlbums_is a n ca x w hx hF hn)
  have HC2 := Lib.hid (fun W (hB : Below w.heap.size w W) => albumsError_is a n ca x W (hx.keep hB) hF hn)
  clear hx hF
  generalize Alb.errs x n = e1 at *
  go_enter Try.func5, Try.ntmps5
  go_wp2_with (first | (go_at_call 26; refine HC1.out.mono ?_; rintro e w2 ⟨rfl, hB2⟩) | (go_at_call 27; refine (HC2.out _ hB2).mono ?_; rintro e w3 ⟨rfl, hB3⟩))
  go_ret
  exact ⟨ret_bool (by simp), below_up hB2 hB3⟩
end Go.Proofs.Ytbbedepojogfmaa
