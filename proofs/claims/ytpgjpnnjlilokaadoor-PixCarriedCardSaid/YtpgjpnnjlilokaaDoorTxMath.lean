/- Texts of numbers, dates and times: plain lists of bytes. -/
import Derived.Lib.ItoaLen
import Derived.Lib.Repeat
import Derived.Test.YtpgjpnnjlilokaaDoorProg
namespace Go.Proofs.YtpgjpnnjlilokaaDoor
namespace Tx
open Go.Lib
/-- A string of these bytes. -/
abbrev mk (l : List UInt8) : ByteArray := ⟨l.toArray⟩
theorem mk_append (a b : List UInt8) : mk a ++ mk b = mk (a ++ b) := by
  apply ByteArray.ext
  simp [mk]
theorem mk_size (a : List UInt8) : (mk a).size = a.length := by simp [ByteArray.size]
theorem mk_toList (a : List UInt8) : (mk a).data.toList = a := by simp
/-- How many digits. -/
def dl (n : Nat) : Nat := (decDigits n).length
theorem dl_pos (n : Nat) : 1 ≤ dl n := by
  unfold dl; rw [decDigits]; split <;> simp
theorem dl_one {n : Nat} (h : n < 10) : dl n = 1 := by unfold dl; rw [decDigits, dif_pos h]; rfl
theorem dl_succ {n : Nat} (h : 10 ≤ n) : dl n = dl (n / 10) + 1 := by unfold dl; rw [decDigits, dif_neg (by omega)]; simp
theorem dl_two {n : Nat} (h : 10 ≤ n) (h2 : n < 100) : dl n = 2 := by rw [dl_succ h, dl_one (by omega)]
theorem dl_three {n : Nat} (h : 100 ≤ n) (h2 : n < 1000) : dl n = 3 := by rw [dl_succ (by omega), dl_two (by omega) (by omega)]
theorem dl_four {n : Nat} (h : 1000 ≤ n) (h2 : n < 10000) : dl n = 4 := by rw [dl_succ (by omega), dl_three (by omega) (by omega)]
theorem dl_le (n : Nat) (h : n ≤ 9223372036854775807) : dl n ≤ 19 := by
  have key : ∀ k n, n < 10 ^ (k + 1) → dl n ≤ k + 1 := by
    intro k
    induction k with
    | zero => intro n hn; rw [dl_one (by simpa using hn)]; omega
    | succ k ih =>
      intro n hn
      by_cases h1 : n < 10
      · rw [dl_one h1]; omega
      · rw [dl_succ (by omega)]
        have h2 : n / 10 < 10 ^ (k + 1) := by rw [Nat.pow_succ] at hn; omega
        have := ih _ h2; omega
  exact key 18 n (by omega)
/-- A number with at least k digits. -/
def pad (n k : Nat) : List UInt8 := List.replicate (k - dl n) 48 ++ decDigits n
theorem rep_48 (c : Nat) : repeatL [48] c = List.replicate c 48 := by
  have := repeatL_replicate (48 : UInt8) 1 c
  simpa using this
theorem pad_len {n k : Nat} (h : dl n ≤ k) : (pad n k).length = k := by
  have e : (decDigits n).length = dl n := rfl
  unfold pad; rw [List.length_append, List.length_replicate, e]; omega
theorem pad_big {n k : Nat} (h : k ≤ dl n) : pad n k = decDigits n := by
  unfold pad; rw [show k - dl n = 0 by omega]; rfl
/-- The time of a day. -/
def clock (s : Nat) : List UInt8 := pad (s / 3600) 2 ++ [58] ++ pad (s / 60 % 60) 2 ++ [58] ++ pad (s % 60) 2
/-- A date with something between. -/
def date (y m d : Nat) (sep : List UInt8) : List UInt8 := pad y 4 ++ sep ++ pad m 2 ++ sep ++ pad d 2
end Tx
end Go.Proofs.YtpgjpnnjlilokaaDoor
