/- fits, as a plain function: the numbers at a form's digits. -/
import Derived.Test.YthldlffkgafgaaaDoorDigMath
namespace Go.Proofs.YthldlffkgafgaaaDoor
namespace Ft
/-- The bytes from fr on, up to j. -/
def win (s : List UInt8) (fr j : Nat) : List UInt8 := (s.drop fr).take (j - fr)
theorem win_len (s : List UInt8) (fr j : Nat) (h : j ≤ s.length) : (win s fr j).length = j - fr := by
  unfold win; rw [List.length_take, List.length_drop]; omega
theorem win_ne {s : List UInt8} {fr j : Nat} (h : fr < j) (hj : j ≤ s.length) : win s fr j ≠ [] := by
  intro e; have := win_len s fr j hj; rw [e] at this; simp at this; omega
/-- The number at a group's end, if there is a group: none, it is no number. -/
def grp (s : List UInt8) (fr j : Nat) (acc : List Int) : Option (List Int) :=
  if fr < j then (if Dg.allD (win s fr j) = true then some (acc ++ [(Dg.val (win s fr j) : Int)]) else none) else some acc
/-- k places are left; the first of them is j, its group began at fr. -/
def go (s form : List UInt8) : Nat → Nat → Nat → List Int → Option (List Int)
  | 0, _, _, acc => some acc
  | k + 1, j, fr, acc =>
    if form[j]? = some 48 then go s form k (j + 1) fr acc
    else (grp s fr j acc).bind fun acc' => if j < form.length ∧ s[j]? ≠ form[j]? then none else go s form k (j + 1) (j + 1) acc'
def res (s form : List UInt8) : Option (List Int) := if s.length = form.length then go s form (form.length + 1) 0 0 [] else none
theorem go_zero {s form : List UInt8} {k j fr : Nat} {acc : List Int} (h : form[j]? = some 48) : go s form (k + 1) j fr acc = go s form k (j + 1) fr acc := by
  rw [go, if_pos h]
theorem go_bad {s form : List UInt8} {k j fr : Nat} {acc : List Int} (h : form[j]? ≠ some 48) (h1 : fr < j) (h2 : Dg.allD (win s fr j) = false) : go s form (k + 1) j fr acc = none := by
  rw [go, if_neg h]; unfold grp; rw [if_pos h1, if_neg (by rw [h2]; simp)]; rfl
theorem go_num {s form : List UInt8} {k j fr : Nat} {acc : List Int} (h : form[j]? ≠ some 48) (h1 : fr < j) (h2 : Dg.allD (win s fr j) = true) (h3 : ¬ (j < form.length ∧ s[j]? ≠ form[j]?)) : go s form (k + 1) j fr acc = go s form k (j + 1) (j + 1) (acc ++ [(Dg.val (win s fr j) : Int)]) := by
  rw [go, if_neg h]; unfold grp; rw [if_pos h1, if_pos h2, Option.bind_some, if_neg h3]
theorem go_numSep {s form : List UInt8} {k j fr : Nat} {acc : List Int} (h : form[j]? ≠ some 48) (h1 : fr < j) (h2 : Dg.allD (win s fr j) = true) (h3 : j < form.length) (h4 : s[j]? ≠ form[j]?) : go s form (k + 1) j fr acc = none := by
  rw [go, if_neg h]; unfold grp; rw [if_pos h1, if_pos h2, Option.bind_some, if_pos ⟨h3, h4⟩]
theorem go_sep {s form : List UInt8} {k j fr : Nat} {acc : List Int} (h : form[j]? ≠ some 48) (h1 : ¬ fr < j) (h3 : ¬ (j < form.length ∧ s[j]? ≠ form[j]?)) : go s form (k + 1) j fr acc = go s form k (j + 1) (j + 1) acc := by
  rw [go, if_neg h]; unfold grp; rw [if_neg h1, Option.bind_some, if_neg h3]
theorem go_sepBad {s form : List UInt8} {k j fr : Nat} {acc : List Int} (h : form[j]? ≠ some 48) (h1 : ¬ fr < j) (h3 : j < form.length) (h4 : s[j]? ≠ form[j]?) : go s form (k + 1) j fr acc = none := by
  rw [go, if_neg h]; unfold grp; rw [if_neg h1, Option.bind_some, if_pos ⟨h3, h4⟩]
/-- No group of digits has more than 18. -/
def Few (form : List UInt8) : Prop := form.length ≤ 18 ∨ (form.length ≤ 19 ∧ ∃ p, p < form.length ∧ form[p]? ≠ some 48)
theorem few {form : List UInt8} (h : Few form) {fr j : Nat} (hj : j ≤ form.length) (hf : fr ≤ j) (ha : ∀ k, fr ≤ k → k < j → form[k]? = some 48) : j - fr ≤ 18 := by
  rcases h with h | ⟨h, p, hp, hn⟩
  · omega
  · by_cases c : fr ≤ p ∧ p < j
    · exact absurd (ha p c.1 c.2) hn
    · omega
end Ft
theorem ext_mk (s : List UInt8) (fr j : Nat) : (Tx.mk s).extract fr j = Tx.mk (Ft.win s fr j) := by
  apply ByteArray.ext
  unfold Ft.win
  simp [ByteArray.data_extract]
end Go.Proofs.YthldlffkgafgaaaDoor
