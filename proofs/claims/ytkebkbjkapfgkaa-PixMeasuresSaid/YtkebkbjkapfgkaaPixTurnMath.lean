/- Plain mathematics of turns. -/
import Derived.Test.YtkebkbjkapfgkaaPixMath
namespace Go.Proofs.Ytkebkbjkapfgkaa.Im
/-- Where the pixel (x, y) of an image turned by t was: its column, its row. -/
def tx (t w x y : Nat) : Nat := if t = 2 ∨ t = 3 then w - 1 - x else if t = 5 ∨ t = 6 then y else if t = 7 ∨ t = 8 then w - 1 - y else x
def ty (t h x y : Nat) : Nat := if t = 3 ∨ t = 4 then h - 1 - y else if t = 5 ∨ t = 8 then x else if t = 6 ∨ t = 7 then h - 1 - x else y
/-- The sides of a turned image. -/
def sw (t w h : Nat) : Nat := if 5 ≤ t then h else w
def sh (t w h : Nat) : Nat := if 5 ≤ t then w else h
theorem one_to_eight {t : Nat} (h : 1 ≤ t ∧ t ≤ 8) : t = 1 ∨ t = 2 ∨ t = 3 ∨ t = 4 ∨ t = 5 ∨ t = 6 ∨ t = 7 ∨ t = 8 := by omega
theorem t_lt {t w h x y : Nat} (ht : 1 ≤ t ∧ t ≤ 8) (hx : x < sw t w h) (hy : y < sh t w h) : tx t w x y < w ∧ ty t h x y < h := by
  rcases one_to_eight ht with rfl | rfl | rfl | rfl | rfl | rfl | rfl | rfl <;> simp [tx, ty, sw, sh] at * <;> omega
theorem s_bd {t w h : Nat} (hW : 1 ≤ w ∧ w ≤ 64 ∧ 1 ≤ h ∧ h ≤ 64) : 1 ≤ sw t w h ∧ sw t w h ≤ 64 ∧ 1 ≤ sh t w h ∧ sh t w h ≤ 64 := by
  unfold sw sh; split <;> omega
theorem s_mul (t w h : Nat) : sh t w h * sw t w h = h * w := by
  unfold sw sh; split
  · exact Nat.mul_comm _ _
  · rfl
/-- The bytes of a turned image. -/
def turnOf (t w h : Nat) (px : Nat → Int) : Nat → Int := content (sw t w h) (fun x y c => pix px w (tx t w x y) (ty t h x y) c)
/-- The turn that does two turns; the one that turns back. -/
def cmb (a b : Nat) : Nat := (([[], [0, 1, 2, 3, 4, 5, 6, 7, 8], [0, 2, 1, 4, 3, 8, 7, 6, 5], [0, 3, 4, 1, 2, 7, 8, 5, 6], [0, 4, 3, 2, 1, 6, 5, 8, 7], [0, 5, 6, 7, 8, 1, 2, 3, 4], [0, 6, 5, 8, 7, 4, 3, 2, 1], [0, 7, 8, 5, 6, 3, 4, 1, 2], [0, 8, 7, 6, 5, 2, 1, 4, 3]] : List (List Nat)).getD a []).getD b 0
def bk (a : Nat) : Nat := ([0, 1, 2, 3, 4, 5, 8, 7, 6] : List Nat).getD a 0
/-- Do an image's turns a, then b, look as its turn t? -/
def alike (w h : Nat) (px : Nat → Int) (a b t : Nat) : Bool :=
  (sw t w h == sw b (sw a w h) (sh a w h)) && (sh t w h == sh b (sw a w h) (sh a w h)) && (List.range (3 * (h * w))).all fun i => turnOf t w h px i == turnOf b (sw a w h) (sh a w h) (turnOf a w h px) i
/-- The bytes of the two samples. -/
def samp (i : Nat) : Int := i
def sampR (i : Nat) : Int := (i / 3 : Nat)
def all3 (p : Nat → Nat → Nat → Bool) : Bool := (List.range 8).all fun a => (List.range 8).all fun b => (List.range 8).all fun c => p (a + 1) (b + 1) (c + 1)
theorem all3_at {p : Nat → Nat → Nat → Bool} (h : all3 p = true) {a b c : Nat} (ha : 1 ≤ a ∧ a ≤ 8) (hb : 1 ≤ b ∧ b ≤ 8) (hc : 1 ≤ c ∧ c ≤ 8) : p a b c = true := by
  unfold all3 at h
  have h1 := List.all_eq_true.1 (List.all_eq_true.1 (List.all_eq_true.1 h (a - 1) (List.mem_range.2 (by omega))) (b - 1) (List.mem_range.2 (by omega))) (c - 1) (List.mem_range.2 (by omega))
  rwa [show a - 1 + 1 = a by omega, show b - 1 + 1 = b by omega, show c - 1 + 1 = c by omega] at h1
theorem cmb_range {a b : Nat} (ha : 1 ≤ a ∧ a ≤ 8) (hb : 1 ≤ b ∧ b ≤ 8) : 1 ≤ cmb a b ∧ cmb a b ≤ 8 := by
  have := all3_at (p := fun a b _ => decide (1 ≤ cmb a b ∧ cmb a b ≤ 8)) (by decide +kernel) ha hb ha
  simpa using this
theorem alike_samp {a b t : Nat} (ha : 1 ≤ a ∧ a ≤ 8) (hb : 1 ≤ b ∧ b ≤ 8) (ht : 1 ≤ t ∧ t ≤ 8) : alike 2 3 samp a b t = (t == cmb a b) := by
  have := all3_at (p := fun a b t => alike 2 3 samp a b t == (t == cmb a b)) (by decide +kernel) ha hb ht
  exact beq_iff_eq.1 this
theorem alike_sampR {a b t : Nat} (ha : 1 ≤ a ∧ a ≤ 8) (hb : 1 ≤ b ∧ b ≤ 8) (ht : 1 ≤ t ∧ t ≤ 8) : alike 3 2 sampR a b t = (t == cmb a b) := by
  have := all3_at (p := fun a b t => alike 3 2 sampR a b t == (t == cmb a b)) (by decide +kernel) ha hb ht
  exact beq_iff_eq.1 this
theorem bk_is {a t : Nat} (ha : 1 ≤ a ∧ a ≤ 8) (ht : 1 ≤ t ∧ t ≤ 8) : (cmb a t == 1) = (t == bk a) := by
  have := all3_at (p := fun a t _ => (cmb a t == 1) == (t == bk a)) (by decide +kernel) ha ht ht
  exact beq_iff_eq.1 this
theorem bk_range {a : Nat} (ha : 1 ≤ a ∧ a ≤ 8) : 1 ≤ bk a ∧ bk a ≤ 8 := by
  have := all3_at (p := fun a _ _ => decide (1 ≤ bk a ∧ bk a ≤ 8)) (by decide +kernel) ha ha ha
  simpa using this
theorem cmb_assoc {a b c : Nat} (ha : 1 ≤ a ∧ a ≤ 8) (hb : 1 ≤ b ∧ b ≤ 8) (hc : 1 ≤ c ∧ c ≤ 8) : cmb (cmb a b) c = cmb a (cmb b c) := by
  have := all3_at (p := fun a b c => cmb (cmb a b) c == cmb a (cmb b c)) (by decide +kernel) ha hb hc
  exact beq_iff_eq.1 this
theorem back_place {t w h x y : Nat} (ht : 1 ≤ t ∧ t ≤ 8) (hx : x < w) (hy : y < h) :
    sw (bk t) (sw t w h) (sh t w h) = w ∧ sh (bk t) (sw t w h) (sh t w h) = h ∧
    tx t w (tx (bk t) (sw t w h) x y) (ty (bk t) (sh t w h) x y) = x ∧ ty t h (tx (bk t) (sw t w h) x y) (ty (bk t) (sh t w h) x y) = y := by
  rcases one_to_eight ht with rfl | rfl | rfl | rfl | rfl | rfl | rfl | rfl <;> simp [tx, ty, sw, sh, bk] <;> omega
theorem turn_back (t w h : Nat) (px : Nat → Int) (ht : 1 ≤ t ∧ t ≤ 8) (i : Nat) (hi : i < 3 * (h * w)) :
    turnOf (bk t) (sw t w h) (sh t w h) (turnOf t w h px) i = px i := by
  have hw : 0 < w := by
    rcases Nat.eq_zero_or_pos w with e | e
    · subst e; simp at hi
    · exact e
  have hx : i / 3 % w < w := Nat.mod_lt _ hw
  have hy : i / 3 / w < h := by rw [Nat.div_lt_iff_lt_mul hw]; omega
  obtain ⟨e1, e2, e3, e4⟩ := back_place (t := t) ht hx hy
  have hb := bk_range ht
  have hl := t_lt (t := bk t) (w := sw t w h) (h := sh t w h) (x := i / 3 % w) (y := i / 3 / w) hb (by rw [e1]; exact hx) (by rw [e2]; exact hy)
  unfold turnOf
  rw [e1]
  show pix (content (sw t w h) (fun x y c => pix px w (tx t w x y) (ty t h x y) c)) (sw t w h) (tx (bk t) (sw t w h) (i / 3 % w) (i / 3 / w)) (ty (bk t) (sh t w h) (i / 3 % w) (i / 3 / w)) (i % 3) = _
  rw [content_pix _ _ _ _ _ hl.1 (by omega), e3, e4]
  unfold pix
  congr 1
  have := Nat.div_add_mod (i / 3) w
  have := Nat.div_add_mod i 3
  have : i / 3 / w * w = w * (i / 3 / w) := Nat.mul_comm _ _
  omega
end Go.Proofs.Ytkebkbjkapfgkaa.Im
