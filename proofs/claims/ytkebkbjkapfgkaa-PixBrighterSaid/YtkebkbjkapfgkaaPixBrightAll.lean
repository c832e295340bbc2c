/- The law PixBrighter returns true for every image and number. -/
import Derived.Test.YtkebkbjkapfgkaaPixBrightLaw
namespace Go.Proofs.Ytkebkbjkapfgkaa
open Go.RowKit Go.Sort Go.Shelf
set_option linter.unusedVariables false
theorem byte_wf {n : Int} (h : (Lit.int .u8 n).wf = true) : 0 ≤ n ∧ n ≤ 255 := by
  simp [Lit.wf, IntKind.min, IntKind.max, IntKind.bits, IntKind.signed] at h
  omega
theorem pixBrighter_walk (W H : Int) (a : Option Addr) (n ca : Nat) (px : Nat → Int) (d : Int) (w : World) (hr : Row w a n (fun i => .int .u8 (px i))) (hn : n ≤ 9223372036854775807) (hca : n ≤ ca) (hca2 : ca ≤ 9223372036854775807) (hpx : ∀ i, (Lit.int .u8 (px i)).wf = true) (hd : (Lit.int .u8 d).wf = true) :
    Calls Try.prog 8 #[.agg #[.int .i64 W, .int .i64 H, .slice a n ca], .int .u8 d] w fun e w' => e = .returned (.bool true) ∧ Below w.heap.size w w' := by
  by_cases he : Im.err W H n = 0
  · obtain ⟨Wn, Hn, rfl, rfl, hW, hnn⟩ := right_nat he
    exact bright_ok Wn Hn d a n ca w hn px hW hnn hr hca hca2 (fun i => byte_wf (hpx i)) (byte_wf hd)
  · exact bright_err W H d a n ca w hn _ rfl he
end Go.Proofs.Ytkebkbjkapfgkaa
