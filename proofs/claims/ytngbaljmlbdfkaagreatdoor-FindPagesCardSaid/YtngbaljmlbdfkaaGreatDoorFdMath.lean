/- Plain mathematics of photos: names, digests, plain strings. -/
import Derived.Test.YtngbaljmlbdfkaaGreatDoorEventsMath
namespace Go.Proofs.YtngbaljmlbdfkaaGreatDoor.Fd
def hexN (c : Nat) : Bool := decide (48 ≤ c ∧ c ≤ 57 ∨ 97 ≤ c ∧ c ≤ 102)
def letN (c : Nat) : Bool := decide (97 ≤ c ∧ c ≤ 122)
def tailN (c : Nat) : Bool := decide (97 ≤ c ∧ c ≤ 122 ∨ 48 ≤ c ∧ c ≤ 57 ∨ c = 45)
def nmN (i c : Nat) : Bool := if i = 0 then letN c else tailN c
theorem hexN_iff (c : Nat) : hexN c = true ↔ 48 ≤ c ∧ c ≤ 57 ∨ 97 ≤ c ∧ c ≤ 102 := by simp [hexN]
theorem letN_iff (c : Nat) : letN c = true ↔ 97 ≤ c ∧ c ≤ 122 := by simp [letN]
theorem tailN_iff (c : Nat) : tailN c = true ↔ 97 ≤ c ∧ c ≤ 122 ∨ 48 ≤ c ∧ c ≤ 57 ∨ c = 45 := by simp [tailN]
theorem nmN_zero (c : Nat) : nmN 0 c = letN c := rfl
theorem nmN_pos (i c : Nat) (h : i ≠ 0) : nmN i c = tailN c := by unfold nmN; rw [if_neg h]
theorem nmN_tail (i c : Nat) (h : nmN i c = true) : tailN c = true := by
  unfold nmN at h; split at h
  · rw [letN_iff] at h; rw [tailN_iff]; omega
  · exact h
def fileB (s : ByteArray) : Bool := decide (s.size = 16 ∧ ∀ i, (h : i < s.size) → hexN s[i].toNat = true)
def nameB (s : ByteArray) : Bool := decide ((1 ≤ s.size ∧ s.size ≤ 40) ∧ ∀ i, (h : i < s.size) → nmN i s[i].toNat = true)
def plainB (s : ByteArray) : Bool := decide (∀ i, (h : i < s.size) → 32 ≤ s[i].toNat)
theorem fileB_yes {s : ByteArray} (h : s.size = 16) (g : ∀ i, (h : i < s.size) → hexN s[i].toNat = true) : fileB s = true := decide_eq_true ⟨h, g⟩
theorem fileB_size {s : ByteArray} (h : s.size ≠ 16) : fileB s = false := decide_eq_false fun g => h g.1
theorem fileB_at {s : ByteArray} (i : Nat) (h : i < s.size) (g : hexN s[i].toNat = false) : fileB s = false := decide_eq_false fun k => by have := k.2 i h; rw [g] at this; cases this
theorem nameB_yes {s : ByteArray} (h : 1 ≤ s.size ∧ s.size ≤ 40) (g : ∀ i, (h : i < s.size) → nmN i s[i].toNat = true) : nameB s = true := decide_eq_true ⟨h, g⟩
theorem nameB_size {s : ByteArray} (h : ¬ (1 ≤ s.size ∧ s.size ≤ 40)) : nameB s = false := decide_eq_false fun g => h g.1
theorem nameB_at {s : ByteArray} (i : Nat) (h : i < s.size) (g : nmN i s[i].toNat = false) : nameB s = false := decide_eq_false fun k => by have := k.2 i h; rw [g] at this; cases this
theorem plainB_yes {s : ByteArray} (g : ∀ i, (h : i < s.size) → 32 ≤ s[i].toNat) : plainB s = true := decide_eq_true g
theorem plainB_at {s : ByteArray} (i : Nat) (h : i < s.size) (g : s[i].toNat < 32) : plainB s = false := decide_eq_false fun k => by have := k i h; omega
/-- What holds of the first i, and of i, holds of the first i + 1. -/
theorem upto_next {s : ByteArray} {P : Nat → Nat → Prop} {j : Nat} (h : ∀ i, (h : i < s.size) → i < j → P i s[i].toNat) (hj : j < s.size) (g : P j s[j].toNat) : ∀ i, (h : i < s.size) → i < j + 1 → P i s[i].toNat := by
  intro i hi hij
  by_cases e : i = j
  · subst e; exact g
  · exact h i hi (by omega)
end Go.Proofs.YtngbaljmlbdfkaaGreatDoor.Fd
