/- The law PixNear at numbers as a row hands them over. -/
import Derived.Test.YtbbedepojogfmaaPixNear
import Derived.Test.YtbbedepojogfmaaOpenU
namespace Go.Proofs.Ytbbedepojogfmaa
open Go.RowKit Go.Sort Go.Shelf
theorem pixNear_walkI (p q r : Int) (hp : (Lit.int .u64 p).wf = true) (hq : (Lit.int .u64 q).wf = true) (hr0 : (Lit.int .u64 r).wf = true) (a : Option Addr) (n ca : Nat) (h : Nat → Nat) (most : Int) (w : World) (hr : Row w a n (fun i => .int .u64 (h i : Nat))) (hb : ∀ i, i < n → h i < 18446744073709551616) (hn : n ≤ 9223372036854775807) :
    Calls Try.prog 6 #[.int .u64 p, .int .u64 q, .int .u64 r, .slice a n ca, .int .i64 most] w fun e w' => e = .returned (.bool true) ∧ Below w.heap.size w w' := by
  have h1 := wf_u64 hp; have h2 := wf_u64 hq; have h3 := wf_u64 hr0
  obtain ⟨x, rfl⟩ := Int.eq_ofNat_of_zero_le h1.1
  obtain ⟨y, rfl⟩ := Int.eq_ofNat_of_zero_le h2.1
  obtain ⟨z, rfl⟩ := Int.eq_ofNat_of_zero_le h3.1
  exact pixNear_walk x y z (by omega) (by omega) (by omega) a n ca h most w hr hb hn
end Go.Proofs.Ytbbedepojogfmaa
