/- Plain mathematics of images: the bytes of an image by place and colour. -/
namespace Go.Proofs.YtpgjpnnjlilokaaDoor.Im
/-- The bytes of an image of width w, told by column, row and colour. -/
def content (w : Nat) (g : Nat → Nat → Nat → Int) (j : Nat) : Int := g (j / 3 % w) (j / 3 / w) (j % 3)
theorem content_at (w : Nat) (g : Nat → Nat → Nat → Int) (x y c : Nat) (hx : x < w) (hc : c < 3) : content w g (3 * (y * w + x) + c) = g x y c := by
  unfold content
  have h1 : (3 * (y * w + x) + c) / 3 = y * w + x := by omega
  have h2 : (3 * (y * w + x) + c) % 3 = c := by omega
  have h3 : (y * w + x) % w = x := by rw [Nat.add_comm, Nat.add_mul_mod_self_right]; exact Nat.mod_eq_of_lt hx
  have h4 : (y * w + x) / w = y := by
    rw [Nat.add_comm, Nat.add_mul_div_right _ _ (by omega), Nat.div_eq_of_lt hx, Nat.zero_add]
  rw [h1, h2, h3, h4]
/-- Colour c of the pixel at (x, y) of an image of width w with these bytes. -/
def pix (px : Nat → Int) (w x y c : Nat) : Int := px (3 * (y * w + x) + c)
theorem content_pix (w : Nat) (g : Nat → Nat → Nat → Int) (x y c : Nat) (hx : x < w) (hc : c < 3) : pix (content w g) w x y c = g x y c := content_at w g x y c hx hc
theorem content_congr (w h : Nat) (g g' : Nat → Nat → Nat → Int) (e : ∀ x y c, x < w → y < h → c < 3 → g x y c = g' x y c) (j : Nat) (hj : j < 3 * (h * w)) : content w g j = content w g' j := by
  unfold content
  have hw : 0 < w := by
    rcases Nat.eq_zero_or_pos w with e0 | e0
    · subst e0; omega
    · exact e0
  apply e
  · exact Nat.mod_lt _ hw
  · rw [Nat.div_lt_iff_lt_mul hw]; omega
  · omega
theorem place_lt (w h x y : Nat) (hx : x < w) (hy : y < h) : y * w + x + 1 ≤ h * w := by
  have : (y + 1) * w ≤ h * w := Nat.mul_le_mul_right w hy
  rw [Nat.add_mul] at this; omega
/-- The bytes f with three of them replaced from place k on. -/
def upd (f : Nat → Int) (k : Nat) (p0 p1 p2 : Int) (i : Nat) : Int := if i = k then p0 else if i = k + 1 then p1 else if i = k + 2 then p2 else f i
/-- The bytes f up to place k, and 0 from there on. -/
def mk (k : Nat) (f : Nat → Int) (i : Nat) : Int := if i < k then f i else 0
theorem upd_mk (k : Nat) (f : Nat → Int) : upd (mk k f) k (f k) (f (k + 1)) (f (k + 2)) = mk (k + 3) f := by
  funext i
  unfold upd mk
  by_cases h0 : i = k
  · subst h0; simp
  · by_cases h1 : i = k + 1
    · subst h1; simp
    · by_cases h2 : i = k + 2
      · subst h2; simp
      · simp only [if_neg h0, if_neg h1, if_neg h2]
        by_cases h : i < k
        · rw [if_pos h, if_pos (by omega)]
        · rw [if_neg h, if_neg (by omega)]
theorem mk_zero (f : Nat → Int) : mk 0 f = fun _ => 0 := by funext i; simp [mk]
def err (w h : Int) (n : Nat) : Int := if w < 1 ∨ 64 < w ∨ h < 1 ∨ 64 < h then 2 else if (n : Int) = 3 * w * h then 0 else 1
end Go.Proofs.YtpgjpnnjlilokaaDoor.Im
