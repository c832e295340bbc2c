/- Sharpness: plain mathematics. -/
import Derived.Test.YtkebkbjkapfgkaaPixGreyMath
namespace Go.Proofs.Ytkebkbjkapfgkaa.Im
def ad (a b : Int) : Int := if a < b then b - a else a - b
theorem ad_bd {a b : Int} (h1 : 0 ≤ a ∧ a ≤ 255) (h2 : 0 ≤ b ∧ b ≤ 255) : 0 ≤ ad a b ∧ ad a b ≤ 255 := by unfold ad; split <;> omega
/-- The differences to the right and below. -/
def near1 (g : Nat → Nat → Int) (W x y : Nat) : Int := if x + 1 < W then ad (g x y) (g (x + 1) y) else 0
def near2 (g : Nat → Nat → Int) (H x y : Nat) : Int := if y + 1 < H then ad (g x y) (g x (y + 1)) else 0
def rowSum (g : Nat → Nat → Int) (W H y : Nat) : Nat → Int
  | 0 => 0
  | x + 1 => rowSum g W H y x + near1 g W x y + near2 g H x y
def sharp (g : Nat → Nat → Int) (W H : Nat) : Nat → Int
  | 0 => 0
  | y + 1 => sharp g W H y + rowSum g W H y W
theorem rowSum_bd {g : Nat → Nat → Int} {W H : Nat} (hg : ∀ x y, 0 ≤ g x y ∧ g x y ≤ 255) (y x : Nat) : 0 ≤ rowSum g W H y x ∧ rowSum g W H y x ≤ 510 * x := by
  induction x with
  | zero => simp [rowSum]
  | succ x ih =>
    have h1 : 0 ≤ near1 g W x y ∧ near1 g W x y ≤ 255 := by
      unfold near1; split
      · exact ad_bd (hg _ _) (hg _ _)
      · omega
    have h2 : 0 ≤ near2 g H x y ∧ near2 g H x y ≤ 255 := by
      unfold near2; split
      · exact ad_bd (hg _ _) (hg _ _)
      · omega
    simp only [rowSum]; omega
theorem sharp_bd {g : Nat → Nat → Int} {W H : Nat} (hg : ∀ x y, 0 ≤ g x y ∧ g x y ≤ 255) (hW : W ≤ 64) (y : Nat) : 0 ≤ sharp g W H y ∧ sharp g W H y ≤ 32640 * y := by
  induction y with
  | zero => simp [sharp]
  | succ y ih =>
    have h1 := rowSum_bd (W := W) (H := H) hg y W
    simp only [sharp]; omega
end Go.Proofs.Ytkebkbjkapfgkaa.Im
