/- Runs of colours: the text of an image, as a plain list of bytes. -/
import Derived.Test.YtpgjpnnjlilokaaDoorTxMath
namespace Go.Proofs.YtpgjpnnjlilokaaDoor
namespace Pt
open Go.Lib
/-- A hexadecimal digit; a byte in two of them. -/
def hx (k : Nat) : UInt8 := if k < 10 then UInt8.ofNat (48 + k) else UInt8.ofNat (87 + k)
def hex2 (c : Nat) : List UInt8 := [hx (c / 16), hx (c % 16)]
/-- Do two places have the same colours? -/
def same (px : Nat → Int) (a b : Nat) : Bool := decide (px (3 * a) = px (3 * b) ∧ px (3 * a + 1) = px (3 * b + 1) ∧ px (3 * a + 2) = px (3 * b + 2))
theorem same_refl (px : Nat → Int) (a : Nat) : same px a a = true := by simp [same]
/-- The first place from 'to' on that is not as p. -/
def stop (px : Nat → Int) (all p to : Nat) : Nat :=
  if h : to < all ∧ same px to p = true then stop px all p (to + 1) else to
termination_by all - to
decreasing_by omega
theorem stop_go {px : Nat → Int} {all p to : Nat} (h : to < all) (hs : same px to p = true) : stop px all p to = stop px all p (to + 1) := by rw [stop, dif_pos ⟨h, hs⟩]
theorem stop_end {px : Nat → Int} {all p : Nat} : stop px all p all = all := by rw [stop, dif_neg (by omega)]
theorem stop_not {px : Nat → Int} {all p to : Nat} (hs : same px to p = false) : stop px all p to = to := by rw [stop, dif_neg (by rw [hs]; simp)]
theorem stop_bd (px : Nat → Int) (all p : Nat) : ∀ k to, all - to = k → to ≤ all → to ≤ stop px all p to ∧ stop px all p to ≤ all := by
  intro k
  induction k with
  | zero => intro to hk h; obtain rfl : to = all := by omega
            rw [stop_end]; omega
  | succ k ih =>
    intro to hk h
    by_cases hs : same px to p = true
    · rw [stop_go (by omega) hs]; have := ih (to + 1) (by omega) (by omega); omega
    · rw [stop_not (by simpa using hs)]; omega
theorem stop_gt {px : Nat → Int} {all f : Nat} (h : f < all) : f < stop px all f f ∧ stop px all f f ≤ all := by
  rw [stop_go h (same_refl px f)]
  have := stop_bd px all f _ (f + 1) rfl (by omega)
  omega
/-- A line: how many, and their colours. -/
def cols (px : Nat → Int) (p : Nat) : List UInt8 := hex2 (px (3 * p)).toNat ++ hex2 (px (3 * p + 1)).toNat ++ hex2 (px (3 * p + 2)).toNat
def line (px : Nat → Int) (n p : Nat) : List UInt8 := decDigits n ++ [32] ++ cols px p ++ [10]
/-- The lines from a place on. -/
def txt (px : Nat → Int) (all f : Nat) : List UInt8 :=
  if _h : f < all then line px (stop px all f f - f) f ++ txt px all (stop px all f f) else []
termination_by all - f
decreasing_by have := stop_gt (px := px) _h; omega
theorem txt_go {px : Nat → Int} {all f : Nat} (h : f < all) : txt px all f = line px (stop px all f f - f) f ++ txt px all (stop px all f f) := by rw [txt, dif_pos h]
theorem txt_end {px : Nat → Int} {all : Nat} : txt px all all = [] := by rw [txt, dif_neg (by omega)]
/-- The colours of a place, the first c of them. -/
def hexes (px : Nat → Int) (p : Nat) : Nat → List UInt8
  | 0 => []
  | c + 1 => hexes px p c ++ hex2 (px (3 * p + c)).toNat
theorem hexes_three (px : Nat → Int) (p : Nat) : hexes px p 3 = cols px p := by simp [hexes, cols]
theorem hexes_len (px : Nat → Int) (p c : Nat) : (hexes px p c).length = 2 * c := by
  induction c with
  | zero => rfl
  | succ c ih => simp only [hexes, List.length_append, ih]; simp [hex2]; omega
theorem cols_len (px : Nat → Int) (p : Nat) : (cols px p).length = 6 := rfl
theorem line_len (px : Nat → Int) (n p : Nat) (h : n ≤ 9223372036854775807) : (line px n p).length ≤ 27 := by
  have := Tx.dl_le n h
  unfold Tx.dl at this
  unfold line
  simp only [List.length_append, cols_len, List.length_singleton]; omega
theorem txt_len (px : Nat → Int) (all : Nat) (ha : all ≤ 1000000) : ∀ k f, all - f ≤ k → f ≤ all → (txt px all f).length ≤ 27 * (all - f) := by
  intro k
  induction k with
  | zero => intro f hk h; obtain rfl : f = all := by omega
            rw [txt_end]; simp
  | succ k ih =>
    intro f hk h
    by_cases hf : f < all
    · have hg := stop_gt (px := px) hf
      rw [txt_go hf, List.length_append]
      have h1 := line_len px (stop px all f f - f) f (by omega)
      have h2 := ih (stop px all f f) (by omega) (by omega)
      omega
    · obtain rfl : f = all := by omega
      rw [txt_end]; simp
/-- The head: the two sizes. -/
def head (W H : Nat) : List UInt8 := [105, 109, 97, 103, 101, 32] ++ decDigits W ++ [32] ++ decDigits H ++ [10]
/-- The text of an image. -/
def text (W H : Nat) (px : Nat → Int) : List UInt8 := head W H ++ txt px (W * H) 0
end Pt
end Go.Proofs.YtpgjpnnjlilokaaDoor
