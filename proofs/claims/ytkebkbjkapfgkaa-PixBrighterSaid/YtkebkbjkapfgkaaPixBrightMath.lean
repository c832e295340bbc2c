/- A brighter image: the hash stays, and Apart is the number. -/
import Derived.Test.YtkebkbjkapfgkaaPixHashMath
import Derived.Test.YtkebkbjkapfgkaaPixExMath
namespace Go.Proofs.Ytkebkbjkapfgkaa.Im
theorem scSum_up (W H : Nat) (g : Nat → Nat → Int) (d : Int) (w h x y : Nat) : scSum W H (fun i j => g i j + d) w h x y = scSum W H g w h x y + d * W * H := by
  unfold scSum
  rw [sumTo_congr _ (fun j => sumTo (fun i => g (i / w) (j / h)) (W * x) W + d * W) _ _ (fun j _ _ => ?_), sumTo_plus, sumTo_const]
  rw [sumTo_plus (fun i => g (i / w) (j / h)) (fun _ => d), sumTo_const]
theorem scCol_up (W H : Nat) (g : Nat → Nat → Int) (d : Int) (w h x y : Nat) (hWH : 1 ≤ H * W) : scCol W H (fun i j => g i j + d) w h x y = scCol W H g w h x y + d := by
  have hA : (1 : Int) ≤ (W : Int) * H := by rw [Int.mul_comm]; exact_mod_cast hWH
  unfold scCol
  rw [scSum_up, Int.mul_assoc]
  generalize scSum W H g w h x y = s
  generalize (W : Int) * H = a at *
  rw [show 2 * (s + d * a) + a = (2 * s + a) + d * (2 * a) by rw [Int.mul_add, Int.mul_left_comm 2 d a]; omega, Int.add_mul_ediv_right _ _ (by omega)]
theorem scCol_congr (W H : Nat) (g g' : Nat → Nat → Int) (w h x y : Nat) (hx : x < w) (hy : y < h) (e : ∀ i j, i < W → j < H → g i j = g' i j) : scCol W H g w h x y = scCol W H g' w h x y := by
  unfold scCol; rw [scSum_congr W H g g' w h x y hx hy e]
theorem hash_up (W H : Nat) (px qx : Nat → Int) (d : Int) (hWH : 1 ≤ H * W) (e : ∀ i, i < 3 * (H * W) → qx i = px i + d) : hashOf W H qx = hashOf W H px := by
  unfold hashOf
  refine hashTo_congr _ _ _ fun k hk => ?_
  have hp : ∀ x y, x < 9 → y < 8 → pix (hashPx W H qx) 9 x y 0 = pix (hashPx W H px) 9 x y 0 + d := by
    intro x y hx hy
    unfold hashPx
    have hsc : ∀ s, pix (scOf W H s 9 8) 9 x y 0 = scCol W H (fun i j => pix s W i j 0) 9 8 x y := fun s => content_pix _ _ _ _ _ hx (by omega)
    rw [hsc, hsc, ← scCol_up W H _ d 9 8 x y hWH]
    refine scCol_congr W H _ _ 9 8 x y hx hy fun i j hi hj => ?_
    rw [content_pix _ _ _ _ _ hi (by omega), content_pix _ _ _ _ _ hi (by omega)]
    have hpl := place_lt W H i j hi hj
    have e0 : pix qx W i j 0 = pix px W i j 0 + d := e _ (by omega)
    have e1 : pix qx W i j 1 = pix px W i j 1 + d := e _ (by omega)
    have e2 : pix qx W i j 2 = pix px W i j 2 + d := e _ (by omega)
    rw [e0, e1, e2]
    unfold grey
    omega
  unfold hashBit
  rw [hp _ _ (by omega) (by omega), hp _ _ (by omega) (by omega)]
  congr 1
  exact propext ⟨fun h => by omega, fun h => by omega⟩
end Go.Proofs.Ytkebkbjkapfgkaa.Im
