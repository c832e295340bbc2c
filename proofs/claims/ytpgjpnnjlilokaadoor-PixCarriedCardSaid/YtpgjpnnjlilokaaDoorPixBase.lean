/- Images in memory: the contracts of outside, Check, blank, at and set, and the reference's ImageError. -/
import Derived.Test.YtpgjpnnjlilokaaDoorKit
import Derived.Test.YtpgjpnnjlilokaaDoorPixMath
import Derived.Laws.CopyOwn
import Derived.StillTailTactics
namespace Go.Proofs.YtpgjpnnjlilokaaDoor
open Go.RowKit Go.Sort
set_option linter.unusedVariables false
theorem outside_yes (n lo hi : Int) (w : World) (h : n < lo ∨ hi < n) :
    Calls Tryd.prog 20 #[.int .i64 n, .int .i64 lo, .int .i64 hi] w fun e w' => e = .returned (.bool true) ∧ w = w' := by
  by_cases c : n < lo
  · go_enter Tryd.func20, Tryd.ntmps20
    go_wp2
    go_ret
    exact ⟨rfl, rfl⟩
  · have d : hi < n := by omega
    go_enter Tryd.func20, Tryd.ntmps20
    go_wp2
    go_ret
    exact ⟨rfl, rfl⟩
theorem outside_no (n lo hi : Int) (w : World) (h1 : lo ≤ n) (h2 : n ≤ hi) :
    Calls Tryd.prog 20 #[.int .i64 n, .int .i64 lo, .int .i64 hi] w fun e w' => e = .returned (.bool false) ∧ w = w' := by
  go_enter Tryd.func20, Tryd.ntmps20
  go_wp2
  go_ret
  exact ⟨ret_bool (by simp; omega), rfl⟩
/-- A slice of length len: where it is not empty, its cells lie in an old block and hold f. -/
def Row (w : World) (a : Option Addr) (len : Nat) (f : Nat → Value) : Prop :=
  0 < len → ∃ b off, a = some ⟨b, off, none⟩ ∧ b < w.heap.size ∧ ∀ i, i < len → w.cell? ⟨b, off + i, none⟩ = some (f i)
theorem Row.keep {w w' : World} {a : Option Addr} {len : Nat} {f : Nat → Value} (h : Row w a len f) (hb : Below w.heap.size w w') : Row w' a len f := by
  intro hl
  obtain ⟨b, off, rfl, hlt, hc⟩ := h hl
  exact ⟨b, off, rfl, Nat.lt_of_lt_of_le hlt hb.size, fun i hi => (hb.cell (p := ⟨b, off + i, none⟩) hlt).trans (hc i hi)⟩
theorem below_allocs {a b : World} (h : Below a.heap.size a b) (o : Obj) : Below a.heap.size a (b.alloc o) := h.alloc h.size o
theorem mul_bd {a b : Int} (h1 : 0 ≤ a) (h2 : a ≤ 64) (h3 : 0 ≤ b) (h4 : b ≤ 64) : 0 ≤ a * b ∧ a * b ≤ 4096 := by
  have := Int.mul_nonneg h1 h3
  have := Int.mul_le_mul h2 h4 h3 (by omega : (0 : Int) ≤ 64)
  omega
set_option maxHeartbeats 1000000 in
theorem check_is (W H : Int) (a : Option Addr) (n ca : Nat) (w : World) (hn : n ≤ 9223372036854775807) :
    Calls Tryd.prog 7 #[.agg #[.int .i64 W, .int .i64 H, .slice a n ca]] w fun e w' => e = .returned (.int .i64 (Im.err W H n)) ∧ Below w.heap.size w w' := by
  unfold Im.err
  by_cases hw : W < 1 ∨ 64 < W
  · rw [if_pos (by omega)]
    go_enter Tryd.func7, Tryd.ntmps7
    go_wp2_with (go_at_call 20; refine (outside_yes _ _ _ _ hw).mono ?_; rintro e w' ⟨rfl, rfl⟩)
    go_ret
    exact ⟨rfl, below_allocs (Below.refl _ _) _⟩
  · by_cases hh : H < 1 ∨ 64 < H
    · rw [if_pos (by omega)]
      go_enter Tryd.func7, Tryd.ntmps7
      go_wp2_with (go_at_call 20; first | ((with_reducible refine (outside_no W _ _ _ (by omega) (by omega)).mono ?_); rintro e w' ⟨rfl, rfl⟩) | ((with_reducible refine (outside_yes H _ _ _ hh).mono ?_); rintro e w' ⟨rfl, rfl⟩))
      go_ret
      exact ⟨rfl, below_allocs (Below.refl _ _) _⟩
    · rw [if_neg (by omega)]
      have hb := mul_bd (a := 3 * W) (b := H)
      have hm : 0 ≤ 3 * W * H ∧ 3 * W * H ≤ 12288 := by
        have := mul_bd (a := W) (b := H) (by omega) (by omega) (by omega) (by omega)
        rw [Int.mul_assoc]; omega
      clear hb
      by_cases hl : (n : Int) = 3 * W * H
      · rw [if_pos hl]
        have hl' : ((n : Int) == 3 * W * H) = true := by simpa using hl
        have HL := Lib.hid hl; clear hl
        go_enter Tryd.func7, Tryd.ntmps7
        go_wp2_with (go_at_call 20; refine (outside_no _ _ _ _ (by omega) (by omega)).mono ?_; rintro e w' ⟨rfl, rfl⟩)
        go_ret
        exact ⟨rfl, below_allocs (Below.refl _ _) _⟩
      · rw [if_neg hl]
        have hl' : ((n : Int) == 3 * W * H) = false := by simpa using hl
        go_enter Tryd.func7, Tryd.ntmps7
        go_wp2_with (go_at_call 20; refine (outside_no _ _ _ _ (by omega) (by omega)).mono ?_; rintro e w' ⟨rfl, rfl⟩)
        go_ret
        exact ⟨rfl, below_allocs (Below.refl _ _) _⟩
set_option maxHeartbeats 1000000 in
theorem imageError_is (W H : Int) (a : Option Addr) (n ca : Nat) (w : World) (hn : n ≤ 9223372036854775807) :
    Calls Tryd.prog 8 #[.agg #[.int .i64 W, .int .i64 H, .slice a n ca]] w fun e w' => e = .returned (.int .i64 (Im.err W H n)) ∧ Below w.heap.size w w' := by
  unfold Im.err
  by_cases hw : W < 1 ∨ 64 < W ∨ H < 1 ∨ 64 < H
  · rw [if_pos (by omega)]
    by_cases c1 : W < 1
    · clear hw
      go_enter Tryd.func8, Tryd.ntmps8
      go_wp2_with fail
      go_ret
      exact ⟨rfl, below_allocs (Below.refl _ _) _⟩
    · by_cases c2 : 64 < W
      · clear hw
        go_enter Tryd.func8, Tryd.ntmps8
        go_wp2_with fail
        go_ret
        exact ⟨rfl, below_allocs (Below.refl _ _) _⟩
      · by_cases c3 : H < 1
        · clear hw
          go_enter Tryd.func8, Tryd.ntmps8
          go_wp2_with fail
          go_ret
          exact ⟨rfl, below_allocs (Below.refl _ _) _⟩
        · have c4 : 64 < H := by omega
          clear hw
          go_enter Tryd.func8, Tryd.ntmps8
          go_wp2_with fail
          go_ret
          exact ⟨rfl, below_allocs (Below.refl _ _) _⟩
  · rw [if_neg (by omega)]
    have hm : 0 ≤ 3 * W * H ∧ 3 * W * H ≤ 12288 := by
      have := mul_bd (a := W) (b := H) (by omega) (by omega) (by omega) (by omega)
      rw [Int.mul_assoc]; omega
    have c1 : 1 ≤ W ∧ W ≤ 64 ∧ 1 ≤ H ∧ H ≤ 64 := by omega
    clear hw
    by_cases hl : (n : Int) = 3 * W * H
    · rw [if_pos hl]
      have hl' : ((n : Int) == 3 * W * H) = true := by simpa using hl
      have HL := Lib.hid hl; clear hl
      go_enter Tryd.func8, Tryd.ntmps8
      go_wp2_with fail
      go_ret
      exact ⟨rfl, below_allocs (Below.refl _ _) _⟩
    · rw [if_neg hl]
      have hl' : ((n : Int) == 3 * W * H) = false := by simpa using hl
      go_enter Tryd.func8, Tryd.ntmps8
      go_wp2_with fail
      go_ret
      exact ⟨rfl, below_allocs (Below.refl _ _) _⟩
end Go.Proofs.YtpgjpnnjlilokaaDoor
