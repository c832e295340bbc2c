/- Rows of decimal digits: plain facts for what reads them. -/
import Derived.Lib.Atoi
import Derived.Lib.SlTrimSet
import Derived.Test.YtpgjpnnjlilokaaDoorTxMath
namespace Go.Proofs.YtpgjpnnjlilokaaDoor
namespace Dg
open Go.Lib
def isD (b : UInt8) : Bool := decide (48 ≤ b.toNat ∧ b.toNat ≤ 57)
def allD (l : List UInt8) : Bool := l.all isD
/-- The number behind n. -/
def valF (n : Nat) : List UInt8 → Nat
  | [] => n
  | b :: r => valF (10 * n + (b.toNat - 48)) r
def val (l : List UInt8) : Nat := valF 0 l
def digits : List UInt8 := [48, 49, 50, 51, 52, 53, 54, 55, 56, 57]
theorem mem_digits (b : UInt8) : digits.contains b = isD b := by
  rw [Bool.eq_iff_iff]
  unfold digits isD
  rw [decide_eq_true_iff, List.contains_iff_mem]
  simp only [List.mem_cons, List.not_mem_nil, or_false, ← UInt8.toNat_inj]
  simp only [UInt8.reduceToNat]
  omega
theorem decFrom_val (l : List UInt8) : ∀ n : Nat, allD l = true → decFrom n l = some (valF n l) := by
  induction l with
  | nil => intro n _; rfl
  | cons b r ih =>
    intro n h
    simp only [allD, List.all_cons, Bool.and_eq_true] at h
    have hb : 48 ≤ b.toNat ∧ b.toNat ≤ 57 := by simpa [isD] using h.1
    have e : digitVal b = some (b.toNat - 48) := by unfold digitVal; rw [if_pos hb]
    have := ih (n * 10 + (b.toNat - 48)) (by unfold allD; exact h.2)
    unfold decFrom valF
    rw [e, Nat.mul_comm 10 n]
    exact this
/-- strconv.Atoi of digits. -/
theorem atoi_val {l : List UInt8} (h0 : l ≠ []) (h : allD l = true) : atoi l = some (val l : Int) := by
  cases l with
  | nil => exact absurd rfl h0
  | cons b r =>
    have hb : isD b = true := by simp only [allD, List.all_cons, Bool.and_eq_true] at h; exact h.1
    have hb' := of_decide_eq_true hb
    have n1 : (b == 45) = false := by
      apply beq_eq_false_iff_ne.2; rintro rfl; revert hb; decide
    have n2 : (b == 43) = false := by
      apply beq_eq_false_iff_ne.2; rintro rfl; revert hb; decide
    rw [atoi, n1, n2]
    simp only [Bool.false_eq_true, if_false]
    rw [decNat, if_neg (by simp), decFrom_val _ _ h]
    rfl
theorem dropWhile_nil {α : Type} (p : α → Bool) : ∀ l : List α, l.dropWhile p = [] ↔ l.all p = true
  | [] => by simp
  | a :: r => by
    rw [List.dropWhile_cons, List.all_cons]
    cases hp : p a
    · simp
    · simpa using dropWhile_nil p r
theorem dropWhile_head {α : Type} (p : α → Bool) : ∀ l : List α, l.dropWhile p ≠ [] → (l.dropWhile p).all p = false
  | [], h => absurd rfl h
  | a :: r, h => by
    rw [List.dropWhile_cons] at h ⊢
    cases hp : p a
    · simp [hp]
    · rw [hp, if_pos rfl] at h; rw [if_pos rfl]; exact dropWhile_head p r h
/-- Trimmed of digits nothing is left just where all are digits. -/
theorem trim_nil (l : List UInt8) : trimS l digits = [] ↔ allD l = true := by
  have e : (fun x => digits.contains x) = isD := funext mem_digits
  unfold trimS trimLeftS trimRightS
  rw [e]
  unfold allD
  constructor
  · intro h
    by_cases c : l.reverse.dropWhile isD = []
    · have := (dropWhile_nil isD l.reverse).1 c
      rwa [List.all_reverse] at this
    · have h1 := dropWhile_head isD l.reverse c
      have h2 := (dropWhile_nil isD _).1 h
      rw [List.all_reverse, h1] at h2
      exact absurd h2 (by simp)
  · intro h
    have : l.reverse.dropWhile isD = [] := (dropWhile_nil isD l.reverse).2 (by rw [List.all_reverse]; exact h)
    rw [this]; rfl
theorem valF_lt (l : List UInt8) : ∀ n m : Nat, allD l = true → n + 1 ≤ m → valF n l + 1 ≤ m * 10 ^ l.length := by
  induction l with
  | nil => intro n m _ h; rw [List.length_nil, Nat.pow_zero, Nat.mul_one]; exact h
  | cons b r ih =>
    intro n m h hn
    simp only [allD, List.all_cons, Bool.and_eq_true] at h
    have hb : 48 ≤ b.toNat ∧ b.toNat ≤ 57 := by simpa [isD] using h.1
    have h1 := ih (10 * n + (b.toNat - 48)) (m * 10) h.2 (by omega)
    rw [List.length_cons, Nat.pow_succ, Nat.mul_comm (10 ^ r.length), ← Nat.mul_assoc]
    exact h1
theorem val_lt {l : List UInt8} (h : allD l = true) : val l < 10 ^ l.length := by
  have h1 := valF_lt l 0 1 h (Nat.le_refl _)
  rw [Nat.one_mul] at h1
  exact h1
end Dg
end Go.Proofs.YtpgjpnnjlilokaaDoor
