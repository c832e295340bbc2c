/- The number of bits that differ is a distance. -/
import Derived.Test.YtbbedepojogfmaaPixDiffer
namespace Go.Proofs.Ytbbedepojogfmaa.Pop
theorem dist_comm (a b : Nat) : dist a b = dist b a := by unfold dist; rw [Nat.xor_comm]
theorem pop_tri (n a b c : Nat) : pop n (a ^^^ c) ≤ pop n (a ^^^ b) + pop n (b ^^^ c) := by
  induction n generalizing a b c with
  | zero => simp [pop]
  | succ n ih =>
    have := ih (a / 2) (b / 2) (c / 2)
    rw [xor_step, xor_step, xor_step]
    split <;> split <;> split <;> omega
theorem dist_tri (a b c : Nat) : dist a c ≤ dist a b + dist b c := pop_tri 64 a b c
theorem pop_zero (n x : Nat) (hx : x < 2 ^ n) (h : pop n x = 0) : x = 0 := by
  induction n generalizing x with
  | zero => simpa using hx
  | succ n ih =>
    rw [pop] at h
    have := ih (x / 2) (by rw [Nat.pow_succ] at hx; omega) (by omega)
    omega
theorem dist_zero {a b : Nat} (ha : a < 18446744073709551616) (hb : b < 18446744073709551616) : dist a b = 0 ↔ a = b := by
  constructor
  · intro h
    have := pop_zero 64 (a ^^^ b) (Nat.xor_lt_two_pow (by omega) (by omega)) h
    have h2 : (a ^^^ b) ^^^ b = 0 ^^^ b := by rw [this]
    rwa [Nat.xor_assoc, Nat.xor_self, Nat.xor_zero, Nat.zero_xor] at h2
  · rintro rfl
    unfold dist
    rw [Nat.xor_self]; decide
end Go.Proofs.Ytbbedepojogfmaa.Pop
