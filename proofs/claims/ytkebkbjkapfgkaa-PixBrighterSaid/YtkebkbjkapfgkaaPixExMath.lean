/- Turning and scaling can be exchanged; scaling to its own size changes nothing; one colour stays. -/
import Derived.Test.YtkebkbjkapfgkaaPixScaleMath
import Derived.Test.YtkebkbjkapfgkaaPixTurnMath
namespace Go.Proofs.Ytkebkbjkapfgkaa.Im
theorem sumTo_front (f : Nat → Int) (a n : Nat) : sumTo f a (n + 1) = f a + sumTo f (a + 1) n := by
  rw [show n + 1 = 1 + n by omega, sumTo_add]; simp [sumTo]
theorem sumTo_same (f g : Nat → Int) (a b n : Nat) (h : ∀ k, k < n → f (a + k) = g (b + k)) : sumTo f a n = sumTo g b n := by
  induction n with
  | zero => rfl
  | succ n ih => rw [sumTo, sumTo, ih (fun k hk => h k (by omega)), h n (by omega)]
theorem sumTo_rev (f g : Nat → Int) (a b n : Nat) (h : ∀ k, k < n → f (a + k) = g (b + (n - 1 - k))) : sumTo f a n = sumTo g b n := by
  induction n generalizing b with
  | zero => rfl
  | succ n ih =>
    rw [sumTo_front g, sumTo, ih (b + 1) (fun k hk => ?_), h n (by omega), show b + (n + 1 - 1 - n) = b by omega, Int.add_comm]
    rw [h k (by omega)]; congr 1; omega
theorem sumTo_zero (a n : Nat) : sumTo (fun _ => 0) a n = 0 := by
  rw [sumTo_const]; simp
theorem sumTo_swap (F : Nat → Nat → Int) (a n b m : Nat) : sumTo (fun j => sumTo (fun i => F i j) a n) b m = sumTo (fun i => sumTo (fun j => F i j) b m) a n := by
  induction m with
  | zero => simp only [sumTo]; rw [sumTo_zero]
  | succ m ih => simp only [sumTo]; rw [ih, sumTo_plus]
/-- A place from the left, or from the right. -/
def side (r : Bool) (w x : Nat) : Nat := if r then w - 1 - x else x
theorem side_lt {r : Bool} {w x : Nat} (h : x < w) : side r w x < w := by unfold side; split <;> omega
theorem div_rev {W w x k : Nat} (hx : x < w) (hk : k < W) : (W * (w - 1 - x) + (W - 1 - k)) / w = W - 1 - (W * x + k) / w := by
  have hw : 0 < w := by omega
  have e : W * (w - 1 - x) + (W - 1 - k) = W * w - 1 - (W * x + k) := by
    have : W * w = W * (w - 1 - x) + W * x + W := by
      rw [← Nat.mul_add, ← Nat.mul_succ]; congr 1; omega
    omega
  have hlt : W * x + k < W * w := by
    have : W * (x + 1) ≤ W * w := Nat.mul_le_mul_left W hx
    rw [Nat.mul_add] at this; omega
  rw [e]
  have h1 := Nat.div_add_mod (W * x + k) w
  have h2 := Nat.mod_lt (W * x + k) hw
  generalize (W * x + k) / w = q at *
  generalize (W * x + k) % w = r at *
  have hq : q < W := by
    rcases Nat.lt_or_ge q W with h | h
    · exact h
    · have := Nat.mul_le_mul_left w h
      rw [Nat.mul_comm w W] at this; omega
  have h3 : W * w = w * (W - 1 - q) + (w * q + w) := by
    rw [← Nat.mul_succ, ← Nat.mul_add, Nat.mul_comm W w]; congr 1; omega
  rw [show W * w - 1 - (W * x + k) = w * (W - 1 - q) + (w - 1 - r) by omega, Nat.mul_add_div hw, Nat.div_eq_of_lt (by omega)]; omega
/-- One side: the places that a scaled place covers, seen from the other end. -/
theorem sumTo_side (r : Bool) (F : Nat → Int) (W w x : Nat) (hx : x < w) : sumTo (fun i => F (side r W (i / w))) (W * x) W = sumTo (fun i => F (i / w)) (W * side r w x) W := by
  cases r with
  | false => rfl
  | true =>
    refine sumTo_rev _ _ _ _ _ fun k hk => ?_
    show F (W - 1 - (W * x + k) / w) = F ((W * (w - 1 - x) + (W - 1 - k)) / w)
    rw [div_rev hx hk]
/-- Which ends a turn goes by. -/
def rx (t : Nat) : Bool := t == 2 || t == 3 || t == 7 || t == 8
def ry (t : Nat) : Bool := t == 3 || t == 4 || t == 6 || t == 7
theorem t_low {t w h x y : Nat} (ht : 1 ≤ t ∧ t ≤ 8) (h5 : ¬ 5 ≤ t) : tx t w x y = side (rx t) w x ∧ ty t h x y = side (ry t) h y := by
  rcases one_to_eight ht with rfl | rfl | rfl | rfl | rfl | rfl | rfl | rfl <;> simp [tx, ty, side, rx, ry] at * 
theorem t_high {t w h x y : Nat} (ht : 1 ≤ t ∧ t ≤ 8) (h5 : 5 ≤ t) : tx t w x y = side (rx t) w y ∧ ty t h x y = side (ry t) h x := by
  rcases one_to_eight ht with rfl | rfl | rfl | rfl | rfl | rfl | rfl | rfl <;> simp [tx, ty, side, rx, ry] at * 
theorem scSum_congr (W H : Nat) (g g' : Nat → Nat → Int) (w h x y : Nat) (hx : x < w) (hy : y < h) (e : ∀ i j, i < W → j < H → g i j = g' i j) : scSum W H g w h x y = scSum W H g' w h x y := by
  unfold scSum
  refine sumTo_congr _ _ _ _ fun j hj1 hj2 => sumTo_congr _ _ _ _ fun i hi1 hi2 => ?_
  refine e _ _ ((Nat.div_lt_iff_lt_mul (by omega)).2 ?_) ((Nat.div_lt_iff_lt_mul (by omega)).2 ?_)
  · have := Nat.mul_le_mul_left W (show x + 1 ≤ w from hx); rw [Nat.mul_add] at this; omega
  · have := Nat.mul_le_mul_left H (show y + 1 ≤ h from hy); rw [Nat.mul_add] at this; omega
theorem scSum_low (W H : Nat) (g : Nat → Nat → Int) (r s : Bool) (w h x y : Nat) (hx : x < w) (hy : y < h) :
    scSum W H (fun i j => g (side r W i) (side s H j)) w h x y = scSum W H g w h (side r w x) (side s h y) := by
  unfold scSum
  rw [sumTo_congr _ (fun j => sumTo (fun i => g (i / w) (side s H (j / h))) (W * side r w x) W) _ _ (fun j _ _ => sumTo_side r (fun a => g a (side s H (j / h))) W w x hx)]
  exact sumTo_side s (fun b => sumTo (fun i => g (i / w) b) (W * side r w x) W) H h y hy
theorem scSum_high (W H : Nat) (g : Nat → Nat → Int) (r s : Bool) (w h x y : Nat) (hx : x < h) (hy : y < w) :
    scSum H W (fun i j => g (side r W j) (side s H i)) h w x y = scSum W H g w h (side r w y) (side s h x) := by
  rw [← scSum_low W H g r s w h y x hy hx]
  unfold scSum
  exact sumTo_swap (fun i j => g (side r W (j / w)) (side s H (i / h))) _ _ _ _
theorem pix_turn (t W H : Nat) (px : Nat → Int) (i j c : Nat) (hi : i < sw t W H) (hc : c < 3) : pix (turnOf t W H px) (sw t W H) i j c = pix px W (tx t W i j) (ty t H i j) c :=
  content_pix _ _ _ _ _ hi hc
theorem turn_scale_at (t W H w h : Nat) (px : Nat → Int) (ht : 1 ≤ t ∧ t ≤ 8) (x y c : Nat) (hx : x < sw t w h) (hy : y < sh t w h) (hc : c < 3) :
    pix (scOf W H px w h) w (tx t w x y) (ty t h x y) c = scCol (sw t W H) (sh t W H) (fun i j => pix (turnOf t W H px) (sw t W H) i j c) (sw t w h) (sh t w h) x y := by
  have hl := t_lt ht hx hy
  rw [show pix (scOf W H px w h) w (tx t w x y) (ty t h x y) c = scCol W H (fun i j => pix px W i j c) w h (tx t w x y) (ty t h x y) from content_pix _ _ _ _ _ hl.1 hc]
  unfold scCol
  rw [scSum_congr (sw t W H) (sh t W H) _ (fun i j => pix px W (tx t W i j) (ty t H i j) c) _ _ x y hx hy (fun i j hi _ => pix_turn t W H px i j c hi hc)]
  by_cases h5 : 5 ≤ t
  · have ew : ∀ a b, sw t a b = b := fun a b => by simp [sw, h5]
    have eh : ∀ a b, sh t a b = a := fun a b => by simp [sh, h5]
    simp only [ew, eh] at hx hy ⊢
    rw [show (fun i j => pix px W (tx t W i j) (ty t H i j) c) = (fun i j => pix px W (side (rx t) W j) (side (ry t) H i) c) from by funext i j; rw [(t_high (h := H) ht h5).1, (t_high (w := W) ht h5).2], (t_high (h := h) ht h5).1, (t_high (w := w) ht h5).2]
    rw [scSum_high W H (fun a b => pix px W a b c) (rx t) (ry t) w h x y hx hy, Int.mul_comm (H : Int) (W : Int)]
  · have ew : ∀ a b, sw t a b = a := fun a b => by simp [sw, h5]
    have eh : ∀ a b, sh t a b = b := fun a b => by simp [sh, h5]
    simp only [ew, eh] at hx hy ⊢
    rw [show (fun i j => pix px W (tx t W i j) (ty t H i j) c) = (fun i j => pix px W (side (rx t) W i) (side (ry t) H j) c) from by funext i j; rw [(t_low (h := H) ht h5).1, (t_low (w := W) ht h5).2], (t_low (h := h) ht h5).1, (t_low (w := w) ht h5).2]
    rw [scSum_low W H (fun a b => pix px W a b c) (rx t) (ry t) w h x y hx hy]
theorem place_of {w h i : Nat} (hi : i < 3 * (h * w)) : i / 3 % w < w ∧ i / 3 / w < h := by
  have hw : 0 < w := by
    rcases Nat.eq_zero_or_pos w with e | e
    · subst e; simp at hi
    · exact e
  exact ⟨Nat.mod_lt _ hw, by rw [Nat.div_lt_iff_lt_mul hw]; omega⟩
/-- Turning and scaling can be exchanged. -/
theorem turn_scale (t W H w h : Nat) (px : Nat → Int) (ht : 1 ≤ t ∧ t ≤ 8) (i : Nat) (hi : i < 3 * (h * w)) :
    turnOf t w h (scOf W H px w h) i = scOf (sw t W H) (sh t W H) (turnOf t W H px) (sw t w h) (sh t w h) i := by
  have hp := place_of (w := sw t w h) (h := sh t w h) (i := i) (by rw [s_mul]; exact hi)
  exact turn_scale_at t W H w h px ht _ _ _ hp.1 hp.2 (by omega)
theorem scCol_const (W H : Nat) (v : Int) (w h x y : Nat) (g : Nat → Nat → Int) (hWH : 1 ≤ H * W) (e : scSum W H g w h x y = v * W * H) : scCol W H g w h x y = v := by
  have hA : (1 : Int) ≤ (W : Int) * H := by rw [Int.mul_comm]; exact_mod_cast hWH
  unfold scCol
  rw [e, Int.mul_assoc]
  generalize (W : Int) * H = a at *
  rw [show 2 * (v * a) + a = a + v * (2 * a) by rw [Int.mul_left_comm]; omega, Int.add_mul_ediv_right _ _ (by omega), Int.ediv_eq_zero_of_lt (by omega) (by omega)]; omega
/-- Scaling to its own size changes nothing. -/
theorem scale_own (W H : Nat) (px : Nat → Int) (i : Nat) (hi : i < 3 * (H * W)) : scOf W H px W H i = px i := by
  have hp := place_of hi
  have hWH : 1 ≤ H * W := by omega
  have h1 : scOf W H px W H i = pix px W (i / 3 % W) (i / 3 / W) (i % 3) := by
    refine scCol_const W H _ W H _ _ _ hWH ?_
    unfold scSum
    have hdiv : ∀ S y j, S * y ≤ j → j < S * y + S → j / S = y := fun S y j h1 h2 => Nat.div_eq_of_lt_le (by rw [Nat.mul_comm]; exact h1) (by rw [Nat.succ_mul, Nat.mul_comm]; exact h2)
    rw [sumTo_congr _ (fun _ => pix px W (i / 3 % W) (i / 3 / W) (i % 3) * W) _ _ (fun j h1 h2 => ?_), sumTo_const]
    rw [sumTo_congr _ (fun _ => pix px W (i / 3 % W) (i / 3 / W) (i % 3)) _ _ (fun k g1 g2 => ?_), sumTo_const]
    show pix px W (k / W) (j / H) (i % 3) = _
    rw [hdiv _ _ _ h1 h2, hdiv _ _ _ g1 g2]
  rw [h1]
  unfold pix
  congr 1
  have := Nat.div_add_mod (i / 3) W
  have := Nat.div_add_mod i 3
  have : i / 3 / W * W = W * (i / 3 / W) := Nat.mul_comm _ _
  omega
/-- One colour stays. -/
theorem scale_one (W H w h : Nat) (px : Nat → Int) (e : ∀ i, i < 3 * (H * W) → px i = px (i % 3)) (i : Nat) (hi : i < 3 * (h * w)) (hWH : 1 ≤ H * W) : scOf W H px w h i = px (i % 3) := by
  have hp := place_of hi
  refine scCol_const W H _ w h _ _ _ hWH ?_
  rw [scSum_congr W H _ (fun _ _ => px (i % 3)) w h _ _ hp.1 hp.2 (fun a b ha hb => ?_)]
  · unfold scSum
    simp only [sumTo_const]
  · show px (3 * (b * W + a) + i % 3) = _
    have := place_lt W H a b ha hb
    rw [e _ (by omega)]; congr 1; omega
end Go.Proofs.Ytkebkbjkapfgkaa.Im
