/- Plain mathematics of hashes: 64 bits, one after another. -/
import Derived.Test.YtkebkbjkapfgkaaPixScaleMath
import Derived.Test.YtkebkbjkapfgkaaPixGreyMath
namespace Go.Proofs.Ytkebkbjkapfgkaa.Im
/-- The number of the first k bits. -/
def hashTo (b : Nat → Bool) : Nat → Nat
  | 0 => 0
  | k + 1 => hashTo b k + if b k then 2 ^ k else 0
theorem hashTo_lt (b : Nat → Bool) (k : Nat) : hashTo b k < 2 ^ k := by
  induction k with
  | zero => simp [hashTo]
  | succ k ih => rw [hashTo, Nat.pow_succ]; split <;> omega
theorem hashTo_congr (b b' : Nat → Bool) (k : Nat) (h : ∀ i, i < k → b i = b' i) : hashTo b k = hashTo b' k := by
  induction k with
  | zero => rfl
  | succ k ih => rw [hashTo, hashTo, ih (fun i hi => h i (by omega)), h k (by omega)]
theorem hashTo_or (b : Nat → Bool) (k : Nat) (h : b k = true) : hashTo b k ||| 2 ^ k = hashTo b (k + 1) := by
  rw [hashTo, if_pos h, Nat.or_two_pow_eq_add_of_lt (hashTo_lt b k)]
theorem hashTo_skip (b : Nat → Bool) (k : Nat) (h : b k = false) : hashTo b k = hashTo b (k + 1) := by
  rw [hashTo, h]; simp
/-- The bytes of the grey image scaled to 9 times 8, and its bits. -/
def hashPx (W H : Nat) (px : Nat → Int) : Nat → Int := scOf W H (content W (fun i k _ => grey (pix px W i k 0) (pix px W i k 1) (pix px W i k 2))) 9 8
def hashBit (s : Nat → Int) (k : Nat) : Bool := decide (pix s 9 (k % 8) (k / 8) 0 < pix s 9 (k % 8 + 1) (k / 8) 0)
def hashOf (W H : Nat) (px : Nat → Int) : Nat := hashTo (hashBit (hashPx W H px)) 64
theorem hashBit_at (s : Nat → Int) (x y : Nat) (hx : x < 8) : hashBit s (8 * y + x) = decide (pix s 9 x y 0 < pix s 9 (x + 1) y 0) := by
  unfold hashBit
  rw [show (8 * y + x) % 8 = x by omega, show (8 * y + x) / 8 = y by omega]
theorem hashOf_lt (W H : Nat) (px : Nat → Int) : hashOf W H px < 18446744073709551616 := hashTo_lt _ 64
end Go.Proofs.Ytkebkbjkapfgkaa.Im
