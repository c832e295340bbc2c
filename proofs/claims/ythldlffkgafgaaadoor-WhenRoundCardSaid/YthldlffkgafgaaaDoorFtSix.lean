/- The forms with six numbers. -/
import Derived.Test.YthldlffkgafgaaaDoorReadLoc
namespace Go.Proofs.YthldlffkgafgaaaDoor
namespace Ft
/-- How many groups of digits a form has from a place on; are they of at most four digits? -/
def cntF (form : List UInt8) : Nat → Nat → Nat → Nat
  | 0, _, _ => 0
  | k + 1, j, fr => if form[j]? = some 48 then cntF form k (j + 1) fr else (if fr < j then 1 else 0) + cntF form k (j + 1) (j + 1)
def maxF (form : List UInt8) : Nat → Nat → Nat → Bool
  | 0, _, _ => true
  | k + 1, j, fr => if form[j]? = some 48 then maxF form k (j + 1) fr else decide (j - fr ≤ 4) && maxF form k (j + 1) (j + 1)
theorem go_len {s form : List UInt8} : ∀ (k j fr : Nat) (acc xs : List Int), go s form k j fr acc = some xs → xs.length = acc.length + cntF form k j fr := by
  intro k
  induction k with
  | zero => intro j fr acc xs h; rw [go] at h; injection h with h; rw [← h]; rfl
  | succ k ih =>
    intro j fr acc xs h
    rw [go] at h
    rw [cntF]
    split at h
    · rename_i h1; rw [if_pos h1]; exact ih _ _ _ _ h
    · rename_i h1
      rw [if_neg h1]
      unfold grp at h
      by_cases c : fr < j
      · rw [if_pos c] at h ⊢
        split at h
        · rw [Option.bind_some] at h
          split at h
          · exact absurd h (by simp)
          · have := ih _ _ _ _ h
            rw [this, List.length_append, List.length_singleton]; omega
        · exact absurd h (by simp)
      · rw [if_neg c] at h ⊢
        rw [Option.bind_some] at h
        split at h
        · exact absurd h (by simp)
        · have := ih _ _ _ _ h
          rw [this]; omega
theorem win_small {s : List UInt8} {fr j : Nat} (h : j - fr ≤ 4) (hd : Dg.allD (win s fr j) = true) : Dg.val (win s fr j) ≤ 9999 := by
  have h1 := Dg.val_lt hd
  have h2 : (win s fr j).length ≤ 4 := by unfold win; exact Nat.le_trans (List.length_take_le _ _) h
  have h3 : 10 ^ (win s fr j).length ≤ 10 ^ 4 := Nat.pow_le_pow_right (by omega) h2
  have h4 : (10 : Nat) ^ 4 = 10000 := rfl
  omega
theorem go_bd {s form : List UInt8} : ∀ (k j fr : Nat) (acc xs : List Int), maxF form k j fr = true → (∀ x ∈ acc, 0 ≤ x ∧ x ≤ 9999) → go s form k j fr acc = some xs → ∀ x ∈ xs, 0 ≤ x ∧ x ≤ 9999 := by
  intro k
  induction k with
  | zero => intro j fr acc xs _ ha h; rw [go] at h; injection h with h; rw [← h]; exact ha
  | succ k ih =>
    intro j fr acc xs hm ha h
    rw [go] at h
    rw [maxF] at hm
    split at h
    · rename_i h1; rw [if_pos h1] at hm; exact ih _ _ _ _ hm ha h
    · rename_i h1
      rw [if_neg h1, Bool.and_eq_true] at hm
      have h4 := of_decide_eq_true hm.1
      unfold grp at h
      by_cases c : fr < j
      · rw [if_pos c] at h
        split at h
        · rename_i hd
          rw [Option.bind_some] at h
          split at h
          · exact absurd h (by simp)
          · refine ih _ _ _ _ hm.2 (fun x hx => ?_) h
            rcases List.mem_append.1 hx with hx | hx
            · exact ha x hx
            · obtain rfl := List.mem_singleton.1 hx
              have := win_small h4 hd
              omega
        · exact absurd h (by simp)
      · rw [if_neg c, Option.bind_some] at h
        split at h
        · exact absurd h (by simp)
        · exact ih _ _ _ _ hm.2 ha h
theorem six_of {s form : List UInt8} (h1 : cntF form (form.length + 1) 0 0 = 6) (h2 : maxF form (form.length + 1) 0 0 = true) : Six (res s form) := by
  intro xs h
  unfold res at h
  split at h
  · refine ⟨?_, go_bd _ _ _ _ _ h2 (fun x hx => by simp at hx) h⟩
    have := go_len _ _ _ _ _ h
    rw [this, h1]; rfl
  · exact absurd h (by simp)
/-- The form of ReadPlain, and that of ReadStamp's local time. -/
def plainF : List UInt8 := [48, 48, 48, 48, 58, 48, 48, 58, 48, 48, 32, 48, 48, 58, 48, 48, 58, 48, 48]
def stampF : List UInt8 := [48, 48, 48, 48, 45, 48, 48, 45, 48, 48, 84, 48, 48, 58, 48, 48, 58, 48, 48]
theorem few_plain : Few plainF := .inr ⟨by decide, 4, by decide, by decide⟩
theorem few_stamp : Few stampF := .inr ⟨by decide, 4, by decide, by decide⟩
theorem six_plain (s : List UInt8) : Six (res s plainF) := six_of (by decide) (by decide)
theorem six_stamp (s : List UInt8) : Six (res s stampF) := six_of (by decide) (by decide)
end Ft
open Go.RowKit Go.Sort Go.Shelf
set_option maxRecDepth 100000 in
set_option maxHeartbeats 1000000 in
theorem readPlain_is (s : List UInt8) (hs : s.length ≤ 1000000000000) (w : World) :
    Calls Tryd.prog 25 #[.string (Tx.mk s)] w fun e w' => e = .returned (.tuple #[.int .i64 ((Ft.loc (Ft.res s Ft.plainF)).getD 0), .int .i64 (if (Ft.loc (Ft.res s Ft.plainF)).isSome = true then 0 else 8)]) ∧ Below w.heap.size w w' := by
  have HL : Hid (∀ W, Calls Tryd.prog 58 #[.string (Tx.mk s), .string ⟨#[48, 48, 48, 48, 58, 48, 48, 58, 48, 48, 32, 48, 48, 58, 48, 48, 58, 48, 48]⟩] W fun e w' => e = .returned (.tuple #[.int .i64 ((Ft.loc (Ft.res s Ft.plainF)).getD 0), .bool (Ft.loc (Ft.res s Ft.plainF)).isSome]) ∧ Below W.heap.size W w') :=
    fun W => readLocal_is s Ft.plainF hs Ft.few_plain (Ft.six_plain s) W
  cases h : Ft.loc (Ft.res s Ft.plainF) with
  | none =>
    rw [h] at HL
    go_enter Tryd.func25, Tryd.ntmps25
    go_wp2_with (go_at_call 58; refine (HL.out _).mono ?_; rintro e w1 ⟨rfl, hB⟩)
    go_ret2
    exact ⟨rfl, hB⟩
  | some q =>
    rw [h] at HL
    go_enter Tryd.func25, Tryd.ntmps25
    go_wp2_with (go_at_call 58; refine (HL.out _).mono ?_; rintro e w1 ⟨rfl, hB⟩)
    go_ret2
    exact ⟨rfl, hB⟩
end Go.Proofs.YthldlffkgafgaaaDoor
