/- The law PixCuts returns true for every image and part. -/
import Derived.Test.YtkebkbjkapfgkaaPixCutLaw
namespace Go.Proofs.Ytkebkbjkapfgkaa
open Go.RowKit Go.Sort Go.Shelf
set_option linter.unusedVariables false
theorem wf_bounds {n : Int} (h : (Lit.int .i64 n).wf = true) : -9223372036854775808 ≤ n ∧ n ≤ 9223372036854775807 := by
  simp [Lit.wf, IntKind.min, IntKind.max, IntKind.bits, IntKind.signed] at h
  omega
/-- The law: for every image and part it returns true. -/
theorem pixCuts_walk (W H : Int) (a : Option Addr) (n ca : Nat) (px : Nat → Int) (x y cw ch : Int) (w : World) (hr : Row w a n (fun i => .int .u8 (px i))) (hn : n ≤ 9223372036854775807) (hca : n ≤ ca) (hca2 : ca ≤ 9223372036854775807)
    (wx : (Lit.int .i64 x).wf = true) (wy : (Lit.int .i64 y).wf = true) :
    Calls Try.prog 3 #[.agg #[.int .i64 W, .int .i64 H, .slice a n ca], .int .i64 x, .int .i64 y, .int .i64 cw, .int .i64 ch] w fun e w' => e = .returned (.bool true) ∧ Below w.heap.size w w' := by
  have hx := wf_bounds wx
  have hy := wf_bounds wy
  by_cases he : Im.err W H n = 0
  · have hW : (1 ≤ W ∧ W ≤ 64 ∧ 1 ≤ H ∧ H ≤ 64) ∧ (n : Int) = 3 * W * H := by
      unfold Im.err at he
      split at he
      · omega
      · split at he
        · exact ⟨by omega, by assumption⟩
        · omega
    by_cases hbad : x < 0 ∨ y < 0 ∨ (cw < 1 ∨ W < cw) ∨ (ch < 1 ∨ H < ch) ∨ W - cw < x ∨ H - ch < y
    · exact pixCuts_range W H x y cw ch a n ca w hn he hW.1 hx hy hbad
    · obtain ⟨Wn, rfl⟩ := Int.eq_ofNat_of_zero_le (show 0 ≤ W by omega)
      obtain ⟨Hn, rfl⟩ := Int.eq_ofNat_of_zero_le (show 0 ≤ H by omega)
      obtain ⟨xn, rfl⟩ := Int.eq_ofNat_of_zero_le (show 0 ≤ x by omega)
      obtain ⟨yn, rfl⟩ := Int.eq_ofNat_of_zero_le (show 0 ≤ y by omega)
      obtain ⟨cn, rfl⟩ := Int.eq_ofNat_of_zero_le (show 0 ≤ cw by omega)
      obtain ⟨dn, rfl⟩ := Int.eq_ofNat_of_zero_le (show 0 ≤ ch by omega)
      have hnn : n = 3 * (Hn * Wn) := by
        have := hW.2
        rw [Int.mul_assoc, Int.mul_comm (Wn : Int)] at this
        exact_mod_cast this
      exact pixCuts_ok Wn Hn xn yn cn dn a n ca px w (by omega) hnn hr hca hca2 he (by omega) (by omega) (by omega) (by omega)
  · exact pixCuts_err W H x y cw ch a n ca w hn _ rfl he
end Go.Proofs.Ytkebkbjkapfgkaa
