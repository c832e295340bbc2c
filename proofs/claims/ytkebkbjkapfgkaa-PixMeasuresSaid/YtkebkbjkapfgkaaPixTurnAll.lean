/- The law PixTurns returns true for every image and turns. -/
import Derived.Test.YtkebkbjkapfgkaaPixTurnLawA
import Derived.Test.YtkebkbjkapfgkaaPixTurnLawB
import Derived.Test.YtkebkbjkapfgkaaPixTurnLawC
namespace Go.Proofs.Ytkebkbjkapfgkaa
open Go.RowKit Go.Sort Go.Shelf
set_option linter.unusedVariables false
theorem err_zero {W H : Int} {n : Nat} (he : Im.err W H n = 0) : (1 ≤ W ∧ W ≤ 64 ∧ 1 ≤ H ∧ H ≤ 64) ∧ (n : Int) = 3 * W * H := by
  unfold Im.err at he
  split at he
  · omega
  · split at he
    · exact ⟨by omega, by assumption⟩
    · omega
/-- A right image in natural numbers. -/
theorem right_nat {W H : Int} {n : Nat} (he : Im.err W H n = 0) : ∃ Wn Hn : Nat, W = Wn ∧ H = Hn ∧ (1 ≤ Wn ∧ Wn ≤ 64 ∧ 1 ≤ Hn ∧ Hn ≤ 64) ∧ n = 3 * (Hn * Wn) := by
  obtain ⟨hW, hn⟩ := err_zero he
  obtain ⟨Wn, rfl⟩ := Int.eq_ofNat_of_zero_le (show 0 ≤ W by omega)
  obtain ⟨Hn, rfl⟩ := Int.eq_ofNat_of_zero_le (show 0 ≤ H by omega)
  refine ⟨Wn, Hn, rfl, rfl, by omega, ?_⟩
  rw [Int.mul_assoc, Int.mul_comm (Wn : Int)] at hn
  exact_mod_cast hn
theorem pixTurns_walk (W H : Int) (a : Option Addr) (n ca : Nat) (px : Nat → Int) (t b : Int) (w : World) (hr : Row w a n (fun i => .int .u8 (px i))) (hn : n ≤ 9223372036854775807) (hca : n ≤ ca) (hca2 : ca ≤ 9223372036854775807) :
    Calls Try.prog 5 #[.agg #[.int .i64 W, .int .i64 H, .slice a n ca], .int .i64 t, .int .i64 b] w fun e w' => e = .returned (.bool true) ∧ Below w.heap.size w w' := by
  by_cases ht : t < 1 ∨ 8 < t
  · by_cases he : Im.err W H n = 0
    · exact turns_ok_out W H t b a n ca w hn he ht
    · exact turns_err_out W H t b a n ca w hn _ rfl he ht
  · obtain ⟨tn, rfl⟩ := Int.eq_ofNat_of_zero_le (show 0 ≤ t by omega)
    by_cases hb : b < 1 ∨ 8 < b
    · by_cases he : Im.err W H n = 0
      · obtain ⟨Wn, Hn, rfl, rfl, hW, hnn⟩ := right_nat he
        exact turns_ok_in_out Wn Hn tn b a n ca w hn px hW hnn hr hca hca2 (by omega) hb
      · exact turns_err_in_out W H b tn a n ca w hn _ rfl he (by omega) hb
    · obtain ⟨bn, rfl⟩ := Int.eq_ofNat_of_zero_le (show 0 ≤ b by omega)
      by_cases he : Im.err W H n = 0
      · obtain ⟨Wn, Hn, rfl, rfl, hW, hnn⟩ := right_nat he
        exact turns_ok_in_in Wn Hn tn bn a n ca w hn px hW hnn hr hca hca2 (by omega) (by omega)
      · exact turns_err_in_in W H tn bn a n ca w hn _ rfl he (by omega) (by omega)
end Go.Proofs.Ytkebkbjkapfgkaa
