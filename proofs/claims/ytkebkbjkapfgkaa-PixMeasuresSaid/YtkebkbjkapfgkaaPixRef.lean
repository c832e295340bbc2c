/- The reference's pixel: three bytes of the image. -/
import Derived.Test.YtkebkbjkapfgkaaPixBase
namespace Go.Proofs.Ytkebkbjkapfgkaa
open Go.RowKit Go.Sort
set_option linter.unusedVariables false
set_option maxRecDepth 100000 in
set_option maxHeartbeats 1000000 in
theorem pixel_is (W H x y : Nat) (b off n ca : Nat) (w : World)
    (hk : 3 * (y * W + x) + 3 ≤ n) (hn : n ≤ 12288) (hca : n ≤ ca) (hca2 : ca ≤ 9223372036854775807) :
    Calls Try.prog 68 #[.agg #[.int .i64 W, .int .i64 H, .slice (some ⟨b, off, none⟩) n ca], .int .i64 x, .int .i64 y] w fun e w' => e = .returned (.slice (some ⟨b, off + 3 * (y * W + x), none⟩) 3 (ca - 3 * (y * W + x))) ∧ Below w.heap.size w w' := by
  have hyW : (0 : Int) ≤ (y : Int) * (W : Int) := Int.mul_nonneg (by omega) (by omega)
  have hc : (y : Int) * (W : Int) = ((y * W : Nat) : Int) := by simp
  have h1 : (y : Int) * (W : Int) + x ≤ 4096 := by omega
  have h2 : 3 * ((y : Int) * (W : Int) + x) + 3 ≤ (n : Int) := by omega
  clear hc
  go_enter Try.func68, Try.ntmps68
  go_wp2_with fail
  rw [Nat.add_sub_cancel_left]
  go_ret
  exact ⟨rfl, below_allocs (Below.refl _ _) _⟩
end Go.Proofs.Ytkebkbjkapfgkaa
