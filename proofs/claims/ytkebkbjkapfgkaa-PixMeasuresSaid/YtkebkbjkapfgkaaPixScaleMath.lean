/- Plain mathematics of scaling: sums over stretches, shares, and the colours of a scaled image. -/
import Derived.Test.YtkebkbjkapfgkaaPixMath
namespace Go.Proofs.Ytkebkbjkapfgkaa.Im
/-- The sum of f over the n places from a on. -/
def sumTo (f : Nat → Int) (a : Nat) : Nat → Int
  | 0 => 0
  | n + 1 => sumTo f a n + f (a + n)
theorem sumTo_add (f : Nat → Int) (a n m : Nat) : sumTo f a (n + m) = sumTo f a n + sumTo f (a + n) m := by
  induction m with
  | zero => simp [sumTo]
  | succ m ih => rw [← Nat.add_assoc, sumTo, sumTo, ih, Nat.add_assoc, Int.add_assoc]
theorem sumTo_congr (f g : Nat → Int) (a n : Nat) (h : ∀ j, a ≤ j → j < a + n → f j = g j) : sumTo f a n = sumTo g a n := by
  induction n with
  | zero => rfl
  | succ n ih => rw [sumTo, sumTo, ih (fun j h1 h2 => h j h1 (by omega)), h (a + n) (by omega) (by omega)]
theorem sumTo_const (c : Int) (a n : Nat) : sumTo (fun _ => c) a n = c * n := by
  induction n with
  | zero => simp [sumTo]
  | succ n ih => rw [sumTo, ih]; simp [Int.mul_add]
theorem sumTo_plus (f g : Nat → Int) (a n : Nat) : sumTo (fun j => f j + g j) a n = sumTo f a n + sumTo g a n := by
  induction n with
  | zero => rfl
  | succ n ih => simp only [sumTo, ih]; omega
theorem sumTo_bd (f : Nat → Int) (B : Int) (h : ∀ j, 0 ≤ f j ∧ f j ≤ B) (a n : Nat) : 0 ≤ sumTo f a n ∧ sumTo f a n ≤ B * n := by
  induction n with
  | zero => simp [sumTo]
  | succ n ih =>
    have := h (a + n)
    rw [sumTo, show B * ((n + 1 : Nat) : Int) = B * n + B by rw [Int.natCast_succ, Int.mul_add, Int.mul_one]]
    omega
/-- A list of shares, told by places and parts: the weighted sum of g. -/
def ws (g : Nat → Int) (A P : Nat → Nat) : Nat → Int
  | 0 => 0
  | n + 1 => ws g A P n + g (A n) * P n
theorem ws_congr (g : Nat → Int) (A P A' P' : Nat → Nat) (n : Nat) (h : ∀ i, i < n → A i = A' i ∧ P i = P' i) : ws g A P n = ws g A' P' n := by
  induction n with
  | zero => rfl
  | succ n ih => rw [ws, ws, ih (fun i hi => h i (by omega)), (h n (by omega)).1, (h n (by omega)).2]
theorem ws_bd (g : Nat → Int) (A P : Nat → Nat) (B : Int) (h : ∀ x, 0 ≤ g x ∧ g x ≤ B) (n : Nat) : 0 ≤ ws g A P n ∧ ws g A P n ≤ B * ws (fun _ => 1) A P n := by
  induction n with
  | zero => simp [ws]
  | succ n ih =>
    have h1 := h (A n)
    have h2 : 0 ≤ g (A n) * (P n : Int) := Int.mul_nonneg h1.1 (by omega)
    have h3 : g (A n) * (P n : Int) ≤ B * (P n : Int) := Int.mul_le_mul_of_nonneg_right h1.2 (by omega)
    simp only [ws, Int.one_mul, Int.mul_add]
    omega
theorem ws_mono (A P : Nat → Nat) (g : Nat → Int) (h : ∀ x, 0 ≤ g x) {m n : Nat} (hm : m ≤ n) : ws g A P m ≤ ws g A P n := by
  induction n with
  | zero =>
    obtain rfl : m = 0 := by omega
    exact Int.le_refl _
  | succ n ih =>
    rcases Nat.lt_or_ge n m with e | e
    · obtain rfl : m = n + 1 := by omega
      exact Int.le_refl _
    · have := ih e
      have h2 : 0 ≤ g (A n) * (P n : Int) := Int.mul_nonneg (h _) (by omega)
      rw [ws]; omega
/-- The shares A, P cover the p places from a on, of which each lies in a side's place by out. -/
def Cover (out inn a : Nat) (A P : Nat → Nat) (l p : Nat) : Prop :=
  (∀ g : Nat → Int, ws g A P l = sumTo (fun j => g (j / out)) a p) ∧ ∀ i, i < l → A i < inn ∧ P i ≤ 64
theorem cover_none (out inn a : Nat) (A P : Nat → Nat) : Cover out inn a A P 0 0 := ⟨fun _ => rfl, fun i hi => by omega⟩
theorem cover_step {out inn a l p k e : Nat} {A P : Nat → Nat} (h : Cover out inn a A P l p) (hk : k = (a + p) / out) (hki : k < inn) (he : e ≤ 64) (hend : a + p + e ≤ (k + 1) * out) :
    Cover out inn a (fun i => if i = l then k else A i) (fun i => if i = l then e else P i) (l + 1) (p + e) := by
  refine ⟨fun g => ?_, fun i hi => ?_⟩
  · rw [ws, if_pos rfl, if_pos rfl, sumTo_add, ws_congr g _ _ A P l (fun i hi => by simp [show i ≠ l by omega]), h.1 g]
    congr 1
    rw [sumTo_congr (fun j => g (j / out)) (fun _ => g k) (a + p) e (fun j h1 h2 => ?_), sumTo_const]
    have h3 : k * out ≤ a + p := by rw [hk]; exact Nat.div_mul_le_self _ _
    congr 1
    exact Nat.div_eq_of_lt_le (by omega) (by omega)
  · by_cases e1 : i = l
    · simp [e1]; omega
    · simp [e1]; exact h.2 i (by omega)
/-- The sum of a scaled pixel's colour, and the colour. -/
def scSum (W H : Nat) (g : Nat → Nat → Int) (w h x y : Nat) : Int := sumTo (fun j => sumTo (fun i => g (i / w) (j / h)) (W * x) W) (H * y) H
def scCol (W H : Nat) (g : Nat → Nat → Int) (w h x y : Nat) : Int := (2 * scSum W H g w h x y + W * H) / (2 * (W * H))
/-- The bytes of a scaled image. -/
def scOf (W H : Nat) (px : Nat → Int) (w h : Nat) : Nat → Int := content w (fun x y c => scCol W H (fun i j => pix px W i j c) w h x y)
theorem scSum_bd (W H : Nat) (g : Nat → Nat → Int) (w h x y : Nat) (hg : ∀ i j, 0 ≤ g i j ∧ g i j ≤ 255) : 0 ≤ scSum W H g w h x y ∧ scSum W H g w h x y ≤ 255 * (W * H) := by
  have := sumTo_bd (fun j => sumTo (fun i => g (i / w) (j / h)) (W * x) W) (255 * W) (fun j => sumTo_bd _ 255 (fun i => hg _ _) _ _) (H * y) H
  rw [Int.mul_assoc] at this
  exact this
theorem scCol_bd (W H : Nat) (g : Nat → Nat → Int) (w h x y : Nat) (hg : ∀ i j, 0 ≤ g i j ∧ g i j ≤ 255) (hWH : 1 ≤ H * W) : 0 ≤ scCol W H g w h x y ∧ scCol W H g w h x y ≤ 255 := by
  have hs := scSum_bd W H g w h x y hg
  have hA : (1 : Int) ≤ (W : Int) * H := by rw [Int.mul_comm]; exact_mod_cast hWH
  unfold scCol
  generalize scSum W H g w h x y = s at *
  generalize (W : Int) * H = a at *
  refine ⟨Int.ediv_nonneg (by omega) (by omega), ?_⟩
  have : (2 * s + a) / (2 * a) < 256 := Int.ediv_lt_of_lt_mul (by omega) (by omega)
  omega
/-- The program's two loops over rows and columns of shares come to the sum. -/
theorem ws_ws {W H w h x y lr lc : Nat} {A P A' P' : Nat → Nat} (hr : Cover h H (H * y) A P lr H) (hc : Cover w W (W * x) A' P' lc W) (g : Nat → Nat → Int) :
    ws (fun r => ws (fun i => g i r) A' P' lc) A P lr = scSum W H g w h x y := by
  rw [hr.1]
  unfold scSum
  exact sumTo_congr _ _ _ _ fun j _ _ => hc.1 _
end Go.Proofs.Ytkebkbjkapfgkaa.Im
