/- Distance, and the reference's Differ: how many bits of two numbers differ. -/
import Derived.Test.YtbbedepojogfmaaPixOnes
namespace Go.Proofs.Ytbbedepojogfmaa
open Go.RowKit Go.Sort
set_option linter.unusedVariables false
/-- How many bits of two numbers differ. -/
def Pop.dist (a b : Nat) : Nat := Pop.pop 64 (a ^^^ b)
theorem Pop.pop_le (n x : Nat) : Pop.pop n x ≤ n := by
  induction n generalizing x with
  | zero => simp [Pop.pop]
  | succ n ih => have := ih (x / 2); rw [Pop.pop]; omega
theorem Pop.dist_le (a b : Nat) : Pop.dist a b ≤ 64 := Pop.pop_le _ _
set_option maxHeartbeats 400000 in
theorem distance_is (a b : Nat) (ha : a < 18446744073709551616) (hb : b < 18446744073709551616) (w : World) : Calls Try.prog 29 #[.int .u64 a, .int .u64 b] w fun e w' => e = .returned (.int .i64 (Pop.dist a b : Nat)) ∧ w = w' := by
  have HX := Lib.hid (bits_xor_u64_nat a b ha hb)
  have HO := Lib.hid (fun V => ones_is (a ^^^ b) (Nat.xor_lt_two_pow (n := 64) (by omega) (by omega)) V)
  unfold Pop.dist
  generalize Pop.pop 64 (a ^^^ b) = p at *
  clear ha hb
  go_enter Try.func29, Try.ntmps29
  go_wp2_with (go_at_call 75; rw [HX.out]; refine (HO.out _).mono ?_; rintro e w' ⟨rfl, rfl⟩)
  go_ret
  exact ⟨rfl, rfl⟩
theorem Pop.xor_step (n x y : Nat) : Pop.pop (n + 1) (x ^^^ y) = (if x % 2 = y % 2 then 0 else 1) + Pop.pop n (x / 2 ^^^ y / 2) := by
  have e1 : (x ^^^ y) % 2 ^ 1 = (x % 2 ^ 1) ^^^ (y % 2 ^ 1) := Nat.xor_mod_two_pow
  have e2 : (x ^^^ y) / 2 ^ 1 = (x / 2 ^ 1) ^^^ (y / 2 ^ 1) := Nat.xor_div_two_pow
  simp only [Nat.pow_one] at e1 e2
  rw [Pop.pop, e1, e2]
  congr 1
  rcases Nat.mod_two_eq_zero_or_one x with h | h <;> rcases Nat.mod_two_eq_zero_or_one y with g | g <;> simp [h, g]
set_option maxHeartbeats 400000 in
theorem differ_is (a b : Nat) (ha : a < 18446744073709551616) (hb : b < 18446744073709551616) (w : World) : Calls Try.prog 41 #[.int .u64 a, .int .u64 b] w fun e w' => e = .returned (.int .i64 (Pop.dist a b : Nat)) ∧ w = w' := by
  obtain ⟨P, hP⟩ : ∃ P, Pop.dist a b = P := ⟨_, rfl⟩
  rw [hP]
  have HP := Lib.hid hP; clear hP
  go_enter Try.func41, Try.ntmps41
  go_wp2_with fail
  go_loopg [0, 1, 5, 6] 64 (fun gk v0 v1 v5 v6 wr => ∃ (k x y c : Nat), k ≤ 64 ∧ gk = 64 - k ∧ v0 = .int .u64 x ∧ v1 = .int .u64 y ∧ v5 = .int .i64 c ∧ v6 = .int .i64 k ∧ x < 18446744073709551616 ∧ y < 18446744073709551616 ∧ c ≤ k ∧ Hid (c + Pop.pop (64 - k) (x ^^^ y) = P) ∧ w = wr)
  case atStart => exact ⟨0, a, b, 0, by omega, rfl, rfl, rfl, rfl, rfl, ha, hb, by omega, (show 0 + Pop.dist a b = P by rw [HP.out]; omega), rfl⟩
  case round =>
    obtain ⟨k, x, y, c, hk, rfl, rfl, rfl, rfl, rfl, hx, hy, hc, HS, rfl⟩ := hrel
    clear HP ha hb
    by_cases hlt : k < 64
    · have hs := HS.out
      rw [show 64 - k = (64 - (k + 1)) + 1 by omega, Pop.xor_step] at hs
      by_cases hd : x % 2 = y % 2
      · rw [if_pos hd] at hs
        have h1 : ((x : Int) % 2 == (y : Int) % 2) = true := by simp; omega
        have h2 : ((x : Int) % 2 != (y : Int) % 2) = false := by simp; omega
        have HS2 : Hid (c + Pop.pop (64 - (k + 1)) (x / 2 ^^^ y / 2) = P) := by show _ = _; omega
        clear hs HS hd
        go_wp2_with fail
        go_roundg (64 - (k + 1))
        case rel => exact ⟨k + 1, x / 2, y / 2, c, by omega, rfl, by go_num, by go_num, rfl, by go_num, by omega, by omega, by omega, HS2, rfl⟩
        case measure => omega
      · rw [if_neg hd] at hs
        have h1 : ((x : Int) % 2 == (y : Int) % 2) = false := by simp; omega
        have h2 : ((x : Int) % 2 != (y : Int) % 2) = true := by simp; omega
        have HS2 : Hid (c + 1 + Pop.pop (64 - (k + 1)) (x / 2 ^^^ y / 2) = P) := by show _ = _; omega
        clear hs HS hd
        go_wp2_with fail
        go_roundg (64 - (k + 1))
        case rel => exact ⟨k + 1, x / 2, y / 2, c + 1, by omega, rfl, by go_num, by go_num, by go_num, by go_num, by omega, by omega, by omega, HS2, rfl⟩
        case measure => omega
    · obtain rfl : k = 64 := by omega
      have hs : c = P := by have := HS.out; simpa [Pop.pop] using this
      have HS2 := Lib.hid hs
      clear hs HS
      go_wp2_with fail
      go_ret
      exact ⟨by rw [HS2.out]; rfl, rfl⟩
end Go.Proofs.Ytbbedepojogfmaa
