/- The law PixScales returns true for every image and all sizes. -/
import Derived.Test.YtkebkbjkapfgkaaPixScalesLawA
import Derived.Test.YtkebkbjkapfgkaaPixScalesLawB
import Derived.Test.YtkebkbjkapfgkaaPixScalesLawC
import Derived.Test.YtkebkbjkapfgkaaPixScalesLawD
import Derived.Test.YtkebkbjkapfgkaaPixTurnAll
namespace Go.Proofs.Ytkebkbjkapfgkaa
open Go.RowKit Go.Sort Go.Shelf
set_option linter.unusedVariables false
theorem wf_byte {n : Int} (h : (Lit.int .u8 n).wf = true) : 0 ≤ n ∧ n ≤ 255 := by
  simp [Lit.wf, IntKind.min, IntKind.max, IntKind.bits, IntKind.signed] at h
  omega
theorem pixScales_walk (W H : Int) (a : Option Addr) (n ca : Nat) (px : Nat → Int) (cw ch most : Int) (w : World) (hr : Row w a n (fun i => .int .u8 (px i))) (hn : n ≤ 9223372036854775807) (hca : n ≤ ca) (hca2 : ca ≤ 9223372036854775807) (hwf : ∀ i, (Lit.int .u8 (px i)).wf = true) :
    Calls Try.prog 7 #[.agg #[.int .i64 W, .int .i64 H, .slice a n ca], .int .i64 cw, .int .i64 ch, .int .i64 most] w fun e w' => e = .returned (.bool true) ∧ Below w.heap.size w w' := by
  have hpx := fun i => wf_byte (hwf i)
  by_cases he : Im.err W H n = 0
  · obtain ⟨Wn, Hn, rfl, rfl, hW, hnn⟩ := right_nat he
    by_cases hs : (cw < 1 ∨ 64 < cw) ∨ (ch < 1 ∨ 64 < ch)
    · by_cases hm : most < 1 ∨ 64 < most
      · exact scales_bad_bad Wn Hn cw ch most a n ca w hn px hW hnn hr hca hca2 hpx hs hm
      · obtain ⟨mn, rfl⟩ := Int.eq_ofNat_of_zero_le (show 0 ≤ most by omega)
        exact scales_bad_ok Wn Hn mn cw ch a n ca w hn px hW hnn hr hca hca2 hpx hs (by omega)
    · obtain ⟨cn, rfl⟩ := Int.eq_ofNat_of_zero_le (show 0 ≤ cw by omega)
      obtain ⟨dn, rfl⟩ := Int.eq_ofNat_of_zero_le (show 0 ≤ ch by omega)
      by_cases hm : most < 1 ∨ 64 < most
      · exact scales_ok_bad Wn Hn cn dn most a n ca w hn px hW hnn hr hca hca2 hpx (by omega) hm
      · obtain ⟨mn, rfl⟩ := Int.eq_ofNat_of_zero_le (show 0 ≤ most by omega)
        exact scales_ok_ok Wn Hn cn dn mn a n ca w hn px hW hnn hr hca hca2 hpx (by omega) (by omega)
  · exact scales_err W H cw ch most a n ca w hn _ rfl he
end Go.Proofs.Ytkebkbjkapfgkaa
