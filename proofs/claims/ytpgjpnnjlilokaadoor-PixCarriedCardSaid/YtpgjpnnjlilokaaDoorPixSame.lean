/- slices.Equal of bytes, SameImage and Same: two images with the same bytes are the same. -/
import Derived.Test.YtpgjpnnjlilokaaDoorPixBase
namespace Go.Proofs.YtpgjpnnjlilokaaDoor
open Go.RowKit Go.Sort
set_option linter.unusedVariables false
/-- Bytes in memory. -/
def Bytes (w : World) (a : Option Addr) (len : Nat) (f : Nat → Int) : Prop := Row w a len (fun i => .int .u8 (f i))
theorem Bytes.keep {w w' : World} {a : Option Addr} {len : Nat} {f : Nat → Int} (h : Bytes w a len f) (hb : Below w.heap.size w w') : Bytes w' a len f := Row.keep h hb
set_option maxHeartbeats 1000000 in
theorem equal_same (a a2 : Option Addr) (n ca ca2 : Nat) (f : Nat → Int) (w : World) (h1 : Bytes w a n f) (h2 : Bytes w a2 n f) (hn : n ≤ 12288) (hca : n ≤ ca) (hca2 : n ≤ ca2) :
    Calls Tryd.prog 21 #[.slice a n ca, .slice a2 n ca2] w fun e w' => e = .returned (.bool true) ∧ Below w.heap.size w w' := by
  obtain ⟨wo, hwo⟩ : ∃ wo : World, wo = w := ⟨_, rfl⟩
  have HA := Lib.hid h1; have HB := Lib.hid h2; clear h1 h2
  go_enter Tryd.func21, Tryd.ntmps21
  go_wp2_with fail
  go_loopg [13] n (fun gk i wr => ∃ j : Nat, j ≤ n ∧ gk = n - j ∧ i = .int .i64 j ∧ Below wo.heap.size wo wr)
  case atStart => exact ⟨0, by omega, rfl, rfl, by rw [hwo]; exact Below.refl _ _⟩
  case round =>
    obtain ⟨j, hj, rfl, rfl, hB⟩ := hrel
    by_cases hlt : j < n
    · obtain ⟨b1, o1, rfl, hb1, hc1⟩ := (HA.out.keep (by rw [← hwo]; exact hB)) (by omega)
      obtain ⟨b2, o2, rfl, hb2, hc2⟩ := (HB.out.keep (by rw [← hwo]; exact hB)) (by omega)
      have e1 := hc1 j hlt
      have e2 := hc2 j hlt
      clear hc1 hc2
      go_wp2_with fail
      go_quiet (fail)
      go_wp2_with fail
      go_roundg (n - (j + 1))
      case rel => exact ⟨j + 1, by omega, rfl, by go_num, below_drewN hB _⟩
      case measure => omega
    · obtain rfl : j = n := by omega
      go_wp2_with fail
      go_ret
      exact ⟨rfl, by rw [← hwo]; exact hB⟩
end Go.Proofs.YtpgjpnnjlilokaaDoor
