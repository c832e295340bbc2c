/- The reference's Scaled. -/
import Derived.Test.YtkebkbjkapfgkaaPixScaled0
import Derived.Deep.RegionHeld
namespace Go.Proofs.Ytkebkbjkapfgkaa
open Go.RowKit Go.Sort Go.Shelf
set_option linter.unusedVariables false
set_option linter.unusedSimpArgs false
attribute [local go_sem ↓] Go.wp_at_zero Go.wp_at_succ
theorem bytes_one (k : Nat) (f : Nat → Int) (a : Int) (h : f k = a) : bytes k f ++ [.int .u8 a] = bytes (k + 1) f := by
  subst h; simp [bytes, List.range_succ]
set_option maxRecDepth 100000 in
set_option maxHeartbeats 2000000 in
theorem rscaled_is (W H cw ch : Nat) (a : Option Addr) (ca : Nat) (px : Nat → Int) (w : World) (hW : 1 ≤ W ∧ W ≤ 64 ∧ 1 ≤ H ∧ H ≤ 64) (hs : 1 ≤ cw ∧ cw ≤ 64 ∧ 1 ≤ ch ∧ ch ≤ 64) (hr : Bytes w a (3 * (H * W)) px)
    (hca : 3 * (H * W) ≤ ca) (hca2 : ca ≤ 9223372036854775807) (hpx : ∀ i, 0 ≤ px i ∧ px i ≤ 255) :
    Calls Try.prog 34 #[.agg #[.int .i64 W, .int .i64 H, .slice a (3 * (H * W)) ca], .int .i64 cw, .int .i64 ch] w (ImgPost w cw ch (3 * (ch * cw)) (Im.scOf W H px cw ch)) := by
  have hWH : H * W ≤ 4096 := Nat.mul_le_mul hW.2.2.2 hW.2.1
  have hWH1 : 1 ≤ H * W := Nat.mul_le_mul (show 1 ≤ H from hW.2.2.1) hW.1
  have hc2 : ch * cw ≤ 4096 := Nat.mul_le_mul hs.2.2.2 hs.2.1
  have hc1 : 1 ≤ ch * cw := Nat.mul_le_mul (show 1 ≤ ch from hs.2.2.1) hs.1
  obtain ⟨b0, off0, rfl, hb0, hc0⟩ := hr (by omega)
  have HC := Lib.hid hc0; clear hc0 hr
  obtain ⟨f, hf⟩ : ∃ f, Im.scOf W H px cw ch = f := ⟨_, rfl⟩
  have hfat : ∀ x y c, x < cw → c < 3 → f (3 * (y * cw + x) + c) = Im.scCol W H (fun i j => Im.pix px W i j c) cw ch x y := fun x y c h1 h2 => by rw [← hf]; exact Im.content_at _ _ _ _ _ h1 h2
  rw [hf]
  have HF := Lib.hid hfat; clear hfat hf
  have HPX := Lib.hid hpx; clear hpx
  have gall : (W : Int) * (H : Int) = ((H * W : Nat) : Int) := by rw [Int.mul_comm]; simp
  have gall2 : 2 * (W : Int) * (H : Int) = 2 * ((H * W : Nat) : Int) := by rw [Int.mul_assoc, gall]
  obtain ⟨N, hN⟩ : ∃ N, H * W = N := ⟨_, rfl⟩
  rw [hN] at gall gall2
  have HNN := Lib.hid hN
  obtain ⟨M, hM⟩ : ∃ M, ch * cw = M := ⟨_, rfl⟩
  have HM := Lib.hid hM
  rw [hN] at hca hWH hWH1 HC ⊢
  rw [hM] at hc1 hc2 ⊢
  clear hN hM
  obtain ⟨i0, hi0, hz0, hz1, hz2⟩ := info_parts infoByte2
  have HI0 := Lib.hid hi0; have HI1 := Lib.hid hz0; have HI2 := Lib.hid hz1; have HI3 := Lib.hid hz2
  clear hi0 hz0 hz1 hz2
  -- .int .i64 W, .int .i64 H, .slice (some ⟨b0, off0, none⟩) (3 * N) ca: the image's fields; the parameter's box and the result's box (a zero image) under names
  obtain ⟨W1, HW1, hP, hs1, hB1⟩ := box w #[.int .i64 W, .int .i64 H, .slice (some ⟨b0, off0, none⟩) (3 * N) ca] 24
  obtain ⟨W2, HW2, hR, hs2, hB2⟩ := box W1 #[.int .i64 0, .int .i64 0, .slice none 0 0] 24
  have hP := hP.keep hB2
  rw [hs1] at hR hs2
  have hB12 := below_up hB1 hB2
  have H1 := Lib.hid HW1; have H2 := Lib.hid HW2; clear HW1 HW2 hB1 hB2 hs1
  obtain ⟨w3, HW3, hO3, hs3, hB3⟩ := box W2 #[.int .i64 cw, .int .i64 ch, .slice none 0 0] 24
  have hs2' : W2.heap.size = w.heap.size + 2 := by omega
  rw [hs2'] at hO3
  have hG : Grow w w3 (.int .i64 W) (.int .i64 H) (.slice (some ⟨b0, off0, none⟩) (3 * N) ca) (.int .i64 cw) (.int .i64 ch) (.slice none 0 0) 0 f :=
    ⟨hP.keep hB3, hR.keep hB3, hO3, ⟨by simp [bytes], .inl ⟨rfl, rfl⟩⟩, below_up hB12 hB3⟩
  have H3 := Lib.hid HW3; clear HW3
  go_enter Try.func34, Try.ntmps34
  go_wp2_with fail
  try rw [H1.out, H2.out, H3.out]
  clear H1 H2 H3 hO3 hP hR hB3 hB12 hs2 hs2' hs3
  go_loopg [18] ch (fun gk v wr => ∃ (j : Nat) (vv : Value), j ≤ ch ∧ gk = ch - j ∧ v = .int .i64 j ∧ Grow w wr (.int .i64 W) (.int .i64 H) (.slice (some ⟨b0, off0, none⟩) (3 * N) ca) (.int .i64 cw) (.int .i64 ch) vv (3 * (j * cw)) f)
  case atStart => exact ⟨0, _, by omega, rfl, rfl, hG.cast (by simp)⟩
  case round =>
    clear hG
    obtain ⟨j, v1, hj, rfl, rfl, hG⟩ := hrel
    by_cases hlt : j < ch
    · go_wp2_with fail
      go_loopg [22] cw (fun gk v wr => ∃ (i : Nat) (vv : Value), i ≤ cw ∧ gk = cw - i ∧ v = .int .i64 i ∧ Grow w wr (.int .i64 W) (.int .i64 H) (.slice (some ⟨b0, off0, none⟩) (3 * N) ca) (.int .i64 cw) (.int .i64 ch) vv (3 * (j * cw + i)) f)
      case atStart => exact ⟨0, _, by omega, rfl, rfl, hG⟩
      case round =>
        clear hG
        obtain ⟨i, v2, hi, rfl, rfl, hG⟩ := hrel
        by_cases hlt2 : i < cw
        · have hpl0 := Im.place_lt cw ch i j hlt2 hlt
          rw [HM.out] at hpl0
          obtain ⟨aj, haj⟩ : ∃ a, H * j = a := ⟨_, rfl⟩
          obtain ⟨ai, hai⟩ : ∃ a, W * i = a := ⟨_, rfl⟩
          have haj2 : aj + H ≤ H * ch := by rw [← haj]; have := Nat.mul_le_mul_left H (show j + 1 ≤ ch from hlt); rw [Nat.mul_add] at this; omega
          have hai2 : ai + W ≤ W * cw := by rw [← hai]; have := Nat.mul_le_mul_left W (show i + 1 ≤ cw from hlt2); rw [Nat.mul_add] at this; omega
          have hHc : H * ch ≤ 4096 := Nat.mul_le_mul hW.2.2.2 hs.2.2.2
          have hWc : W * cw ≤ 4096 := Nat.mul_le_mul hW.2.1 hs.2.1
          have gj : (H : Int) * (j : Int) = (aj : Int) := by rw [← haj]; simp
          have gi : (W : Int) * (i : Int) = (ai : Int) := by rw [← hai]; simp
          have gj1 : (H : Int) * ((j : Int) + 1) = ((aj + H : Nat) : Int) := by rw [← haj, Int.mul_add]; simp
          have gi1 : (W : Int) * ((i : Int) + 1) = ((ai + W : Nat) : Int) := by rw [← hai, Int.mul_add]; simp
          have HSU : Hid (∀ c, Im.scCol W H (fun i j => Im.pix px W i j c) cw ch i j = (2 * Im.sumTo (fun jj => Im.sumTo (fun ii => Im.pix px W (ii / cw) (jj / ch) c) ai W) aj H + (N : Int)) / (2 * (N : Int))) := by
            intro c; unfold Im.scCol Im.scSum; rw [haj, hai, gall]
          clear haj hai
          go_wp2_with fail
          go_loopg [25] 3 (fun gk v wr => ∃ (c : Nat) (vv : Value), c ≤ 3 ∧ gk = 3 - c ∧ v = .int .i64 c ∧ Grow w wr (.int .i64 W) (.int .i64 H) (.slice (some ⟨b0, off0, none⟩) (3 * N) ca) (.int .i64 cw) (.int .i64 ch) vv (3 * (j * cw + i) + c) f)
          case atStart => exact ⟨0, _, by omega, rfl, rfl, hG⟩
          case round =>
            clear hG
            obtain ⟨c, v3, hc, rfl, rfl, hG⟩ := hrel
            by_cases hlt3 : c < 3
            · have hv := (HF.out i j c hlt2 hlt3).trans (HSU.out c)
              have hsb := Im.scCol_bd W H (fun i j => Im.pix px W i j c) cw ch i j (fun _ _ => HPX.out _) (by rw [HNN.out]; exact hWH1)
              rw [HSU.out c] at hsb
              have hgb : ∀ x y, 0 ≤ Im.pix px W x y c ∧ Im.pix px W x y c ≤ 255 := fun _ _ => HPX.out _
              have HV := Lib.hid hv; have HSB := Lib.hid hsb; have HGB := Lib.hid hgb
              clear hv hsb hgb
              have hd3 : decide ((c : Int) < 3) = true := by simp; omega
              obtain ⟨p0, p1, p2, o0, o1, o2⟩ := hG.six
              go_wp2_with fail
              clear p0 p1 p2 o0 o1 o2
              go_loopg [11, 12] H (fun gk s v wr => ∃ (p : Nat), p ≤ H ∧ gk = H - p ∧ v = .int .i64 ((aj : Int) + (p : Int)) ∧ s = .int .i64 (Im.sumTo (fun jj => Im.sumTo (fun ii => Im.pix px W (ii / cw) (jj / ch) c) ai W) aj p) ∧ Grow w wr (.int .i64 W) (.int .i64 H) (.slice (some ⟨b0, off0, none⟩) (3 * N) ca) (.int .i64 cw) (.int .i64 ch) v3 (3 * (j * cw + i) + c) f)
              case atStart => exact ⟨0, by omega, rfl, by simp, rfl, hG⟩
              case round =>
                clear hG
                obtain ⟨p, hp, rfl, rfl, rfl, hG⟩ := hrel
                obtain ⟨p0, p1, p2, o0, o1, o2⟩ := hG.six
                by_cases hlt4 : p < H
                · have hYH : (aj + p) / ch < H := (Nat.div_lt_iff_lt_mul hs.2.2.1).2 (by omega)
                  obtain ⟨Y, hY⟩ : ∃ Y, (aj + p) / ch = Y := ⟨_, rfl⟩
                  have gY : ((aj : Int) + (p : Int)) / (ch : Int) = (Y : Int) := by rw [← hY]; simp
                  have gY2 : (((aj : Int) + (p : Int))).tdiv (ch : Int) = (Y : Int) := by rw [Int.tdiv_eq_ediv_of_nonneg (by omega)]; exact gY
                  rw [hY] at hYH
                  have hA := Im.sumTo_bd (fun jj => Im.sumTo (fun ii => Im.pix px W (ii / cw) (jj / ch) c) ai W) (255 * W) (fun jj => Im.sumTo_bd _ 255 (fun ii => HGB.out _ _) _ _) aj p
                  have hA2 : 255 * (W : Int) * (p : Int) ≤ 255 * 64 * 64 := Int.mul_le_mul (by omega) (by omega) (by omega) (by omega)
                  have HNX : Hid (∀ q, q = W → Im.sumTo (fun jj => Im.sumTo (fun ii => Im.pix px W (ii / cw) (jj / ch) c) ai W) aj (p + 1) = Im.sumTo (fun jj => Im.sumTo (fun ii => Im.pix px W (ii / cw) (jj / ch) c) ai W) aj p + Im.sumTo (fun ii => Im.pix px W (ii / cw) Y c) ai q) := by
                    intro q hq; rw [hq, Im.sumTo, hY]
                  obtain ⟨A, hAA⟩ : ∃ A, Im.sumTo (fun jj => Im.sumTo (fun ii => Im.pix px W (ii / cw) (jj / ch) c) ai W) aj p = A := ⟨_, rfl⟩
                  rw [hAA] at hA HNX ⊢
                  have hA3 : 0 ≤ A ∧ A ≤ 1044480 := by omega
                  clear hY hA hA2 hAA
                  go_wp2_with fail
                  clear p0 p1 p2 o0 o1 o2
                  go_loopg [11, 13] W (fun gk s v wr => ∃ (q : Nat), q ≤ W ∧ gk = W - q ∧ v = .int .i64 ((ai : Int) + (q : Int)) ∧ s = .int .i64 (A + Im.sumTo (fun ii => Im.pix px W (ii / cw) Y c) ai q) ∧ Grow w wr (.int .i64 W) (.int .i64 H) (.slice (some ⟨b0, off0, none⟩) (3 * N) ca) (.int .i64 cw) (.int .i64 ch) v3 (3 * (j * cw + i) + c) f)
                  case atStart => exact ⟨0, by omega, rfl, by simp, by simp [Im.sumTo], hG⟩
                  case round =>
                    clear hG
                    obtain ⟨q, hq, rfl, rfl, rfl, hG⟩ := hrel
                    obtain ⟨p0, p1, p2, o0, o1, o2⟩ := hG.six
                    by_cases hlt5 : q < W
                    · have hXW : (ai + q) / cw < W := (Nat.div_lt_iff_lt_mul hs.1).2 (by omega)
                      obtain ⟨X, hX⟩ : ∃ X, (ai + q) / cw = X := ⟨_, rfl⟩
                      have gX : ((ai : Int) + (q : Int)) / (cw : Int) = (X : Int) := by rw [← hX]; simp
                      have gX2 : (((ai : Int) + (q : Int))).tdiv (cw : Int) = (X : Int) := by rw [Int.tdiv_eq_ediv_of_nonneg (by omega)]; exact gX
                      rw [hX] at hXW
                      have HQ : Hid (Im.sumTo (fun ii => Im.pix px W (ii / cw) Y c) ai (q + 1) = Im.sumTo (fun ii => Im.pix px W (ii / cw) Y c) ai q + Im.pix px W X Y c) := by
                        show _ = _; rw [Im.sumTo, hX]
                      have hB := Im.sumTo_bd (fun ii => Im.pix px W (ii / cw) Y c) 255 (fun ii => HGB.out _ _) ai q
                      generalize Im.sumTo (fun ii => Im.pix px W (ii / cw) Y c) ai q = B at *
                      have hpl := Im.place_lt W H X Y hXW hYH
                      rw [HNN.out] at hpl
                      have hg := HGB.out X Y
                      have HPT := Lib.hid (fun V (hV : Below w.heap.size w V) => show V.cell? ⟨b0, off0 + 3 * (Y * W + X) + c, none⟩ = some (.int .u8 (Im.pix px W X Y c)) by rw [Nat.add_assoc]; exact (hV.cell (p := ⟨b0, off0 + (3 * (Y * W + X) + c), none⟩) hb0).trans (HC.out (3 * (Y * W + X) + c) (by omega)))
                      generalize Im.pix px W X Y c = g at *
                      have q1 : IntKind.i64.wrap g = g := by rw [IntKind.wrap_i64]; omega
                      have q2 : IntKind.i64.wrap (A + B + g) = A + B + g := by rw [IntKind.wrap_i64]; omega
                      have c1 : (0 : Int) ≤ (c : Int) := by omega
                      have c2 : (c : Int) < 3 := by omega
                      have gX3 : IntKind.i64.wrap (X : Int) = X := by rw [IntKind.wrap_i64]; omega
                      have gY3 : IntKind.i64.wrap (Y : Int) = Y := by rw [IntKind.wrap_i64]; omega
                      have d1 : (1 : Int) ≤ (cw : Int) := by omega
                      have d2 : (1 : Int) ≤ (ch : Int) := by omega
                      have dz1 : ((cw : Int) == 0) = false := by simp; omega
                      have dz2 : ¬ (cw : Int) = 0 := by omega
                      have dz3 : ((ch : Int) == 0) = false := by simp; omega
                      have dz4 : ¬ (ch : Int) = 0 := by omega
                      have dz5 : ¬ cw = 0 := by omega
                      have dz6 : ¬ ch = 0 := by omega
                      have GX5 : Hid (IntKind.i64.wrap (((ai : Int) + (q : Int)).tdiv (cw : Int)) = X) := by show _ = _; rw [gX2]; exact gX3
                      have GY5 : Hid (IntKind.i64.wrap (((aj : Int) + (p : Int)).tdiv (ch : Int)) = Y) := by show _ = _; rw [gY2]; exact gY3
                      clear hX
                      go_wp2_with fail
                      clear p0 p1 p2 o0 o1 o2
                      go_region_held3 (fun w' => w'.cell? ⟨w.heap.size, 0, none⟩ = some (.int .i64 W) ∧ w'.cell? ⟨w.heap.size, 1, none⟩ = some (.int .i64 H) ∧ w'.cell? ⟨w.heap.size, 2, none⟩ = some (.slice (some ⟨b0, off0, none⟩) (3 * N) ca) ∧ w'.cell? ⟨b0, off0 + 3 * (Y * W + X) + c, none⟩ = some (.int .u8 g))
                        (first | exact ⟨hG.drew.six.1, hG.drew.six.2.1, hG.drew.six.2.2.1, HPT.out _ hG.drew.bel⟩ | exact ⟨hG4.six.1, hG4.six.2.1, hG4.six.2.2.1, HPT.out _ hG4.bel⟩)
                        ((go_at_call 68; refine (pixel_int W H X Y _ _ (by first | rfl | exact GX5.out) (by first | rfl | exact GY5.out) b0 off0 (3 * N) ca _ (by omega) (by omega) hca hca2).mono ?_; rintro e w4 ⟨rfl, hB4⟩; have hG4 := hG.drew.keep hB4))
                      go_wp2_with fail
                      go_roundg (W - (q + 1))
                      case rel => exact ⟨q + 1, by omega, rfl, by simp [Int.add_assoc], by rw [HQ.out, Int.add_assoc], hG4⟩
                      case measure => omega
                    · have hq2 : q = W := by omega
                      have HE := Lib.hid (HNX.out q hq2)
                      have hq3 : W ≤ q := by omega
                      clear hq2
                      go_wp2_with fail
                      go_roundg (H - (p + 1))
                      case rel => exact ⟨p + 1, by omega, rfl, by simp [Int.add_assoc], by rw [HE.out], hG⟩
                      case measure => omega
                · have hp2 : p = H := by omega
                  have hp3 : H ≤ p := by omega
                  have hv := HV.out
                  have hsb := HSB.out
                  rw [← hp2] at hv hsb
                  have hA := Im.sumTo_bd (fun jj => Im.sumTo (fun ii => Im.pix px W (ii / cw) (jj / ch) c) ai W) (255 * W) (fun jj => Im.sumTo_bd _ 255 (fun ii => HGB.out _ _) _ _) aj p
                  have hA2 : 255 * (W : Int) * (p : Int) ≤ 255 * 64 * 64 := Int.mul_le_mul (by omega) (by omega) (by omega) (by omega)
                  generalize Im.sumTo (fun jj => Im.sumTo (fun ii => Im.pix px W (ii / cw) (jj / ch) c) ai W) aj p = A at *
                  have hA3 : 0 ≤ A ∧ A ≤ 1044480 := by omega
                  clear hA hA2 hp2
                  obtain ⟨V, hV⟩ : ∃ V, (2 * A + (N : Int)) / (2 * (N : Int)) = V := ⟨_, rfl⟩
                  rw [hV] at hv hsb
                  have hby1 := Lib.hid (bytes_one _ _ _ hv)
                  have gv2 : (2 * A + (N : Int)).tdiv (2 * (N : Int)) = V := by rw [Int.tdiv_eq_ediv_of_nonneg (by omega)]; exact hV
                  have qa : IntKind.i64.wrap (2 * A) = 2 * A := by rw [IntKind.wrap_i64]; omega
                  have qb : IntKind.i64.wrap (N : Int) = N := by rw [IntKind.wrap_i64]; omega
                  have qc : IntKind.i64.wrap (2 * A + (N : Int)) = 2 * A + N := by rw [IntKind.wrap_i64]; omega
                  have qd : IntKind.i64.wrap (2 * (W : Int)) = 2 * (W : Int) := by rw [IntKind.wrap_i64]; omega
                  have qe : IntKind.i64.wrap (2 * (N : Int)) = 2 * (N : Int) := by rw [IntKind.wrap_i64]; omega
                  have qf : IntKind.i64.wrap V = V := by rw [IntKind.wrap_i64]; omega
                  have qg : IntKind.u8.wrap V = V := by simp [IntKind.wrap, IntKind.bits, IntKind.signed]; omega
                  have dz1 : ¬ 2 * (N : Int) = 0 := by omega
                  have dz2 : ¬ (N : Int) = 0 := by omega
                  have dz3 : ¬ N = 0 := by omega
                  have hmx : 3 * (j * cw + i) + c + 1 ≤ maxLen := by unfold maxLen; omega
                  have hbz : (3 * (j * cw + i) + c + 1) * 1 ≤ 140737488355328 := by omega
                  have H1p : Hid ((0 : Nat) < 1) := by show (0 : Nat) < 1; omega
                  have hGA := hG.drew.keep (below_allocs (Below.refl _ wr.drew) (.cells #[.int .u8 V] 5))
                  obtain ⟨q0, q1, q2, z0, z1, z2⟩ := hGA.six
                  clear hv
                  have HVV := Lib.hid hV; clear hV
                  go_wp2_with fail
                  refine wp_region_held_drew (S := fun w' => w'.cell? ⟨w.heap.size, 0, none⟩ = some (.int .i64 W) ∧ w'.cell? ⟨w.heap.size, 1, none⟩ = some (.int .i64 H)) (by kernel_rfl) ⟨hG.drew.six.1, hG.drew.six.2.1⟩ (fun hHeld => ?_)
                  -- takes operation 0 of a drawn region first (Derived/OrdersHeld's law by hand: no word where the loads of a cell that the region itself stores into are left to branch)
                  refine wpAnyH_take (i := 0) (v := ?_) rfl (by kernel_rfl) (by kernel_rfl) (by kernel_rfl) (fun _ _ _ h => h) (Or.inl ⟨by rfl, ?_⟩) (by assumption) ?_
                  rotate_left
                  · (intro w hSw; (try dsimp only at hSw); go_simp; try (with_reducible rfl))
                  try simp only [Act.put, List.setIfInBounds_toArray, List.set_cons_zero, List.set_cons_succ]
                  -- takes operation 2 of a drawn region first (Derived/OrdersHeld's law by hand: no word where the loads of a cell that the region itself stores into are left to branch)
                  refine wpAnyH_take (i := 2) (v := ?_) rfl (by kernel_rfl) (by kernel_rfl) (by kernel_rfl) (fun _ _ _ h => h) (Or.inl ⟨by rfl, ?_⟩) (by assumption) ?_
                  rotate_left
                  · (intro w hSw; (try dsimp only at hSw); go_simp; try (with_reducible rfl))
                  try simp only [Act.put, List.setIfInBounds_toArray, List.set_cons_zero, List.set_cons_succ]
                  -- takes operation 3 of a drawn region first (Derived/OrdersHeld's law by hand: no word where the loads of a cell that the region itself stores into are left to branch)
                  refine wpAnyH_take (i := 3) (v := ?_) rfl (by kernel_rfl) (by kernel_rfl) (by kernel_rfl) (fun _ _ _ h => h) (Or.inl ⟨by rfl, ?_⟩) (by assumption) ?_
                  rotate_left
                  · (intro w hSw; (try dsimp only at hSw); go_simp; try (with_reducible rfl))
                  try simp only [Act.put, List.setIfInBounds_toArray, List.set_cons_zero, List.set_cons_succ]
                  -- takes operation 4 of a drawn region first (Derived/OrdersHeld's law by hand: no word where the loads of a cell that the region itself stores into are left to branch)
                  refine wpAnyH_take (i := 4) (v := ?_) rfl (by kernel_rfl) (by kernel_rfl) (by kernel_rfl) (fun _ _ _ h => h) (Or.inl ⟨by rfl, ?_⟩) (by assumption) ?_
                  rotate_left
                  · (intro w hSw; (try dsimp only at hSw); go_simp; try (with_reducible rfl))
                  try simp only [Act.put, List.setIfInBounds_toArray, List.set_cons_zero, List.set_cons_succ]
                  -- takes operation 5 of a drawn region first (Derived/OrdersHeld's law by hand: no word where the loads of a cell that the region itself stores into are left to branch)
                  refine wpAnyH_take (i := 5) (v := ?_) rfl (by kernel_rfl) (by kernel_rfl) (by kernel_rfl) (fun _ _ _ h => h) (Or.inl ⟨by rfl, ?_⟩) (by assumption) ?_
                  rotate_left
                  · (intro w hSw; (try dsimp only at hSw); go_simp; try (with_reducible rfl))
                  try simp only [Act.put, List.setIfInBounds_toArray, List.set_cons_zero, List.set_cons_succ]
                  -- takes operation 6 of a drawn region first (Derived/OrdersHeld's law by hand: no word where the loads of a cell that the region itself stores into are left to branch)
                  refine wpAnyH_take (i := 6) (v := ?_) rfl (by kernel_rfl) (by kernel_rfl) (by kernel_rfl) (fun _ _ _ h => h) (Or.inl ⟨by rfl, ?_⟩) (by assumption) ?_
                  rotate_left
                  · (intro w hSw; (try dsimp only at hSw); go_simp; try (with_reducible rfl))
                  try simp only [Act.put, List.setIfInBounds_toArray, List.set_cons_zero, List.set_cons_succ]
                  -- takes operation 7 of a drawn region first (Derived/OrdersHeld's law by hand: no word where the loads of a cell that the region itself stores into are left to branch)
                  refine wpAnyH_take (i := 7) (v := ?_) rfl (by kernel_rfl) (by kernel_rfl) (by kernel_rfl) (fun _ _ _ h => h) (Or.inl ⟨by rfl, ?_⟩) (by assumption) ?_
                  rotate_left
                  · (intro w hSw; (try dsimp only at hSw); go_simp; try (with_reducible rfl))
                  try simp only [Act.put, List.setIfInBounds_toArray, List.set_cons_zero, List.set_cons_succ]
                  -- takes operation 8 of a drawn region first (Derived/OrdersHeld's law by hand: no word where the loads of a cell that the region itself stores into are left to branch)
                  refine wpAnyH_take (i := 8) (v := ?_) rfl (by kernel_rfl) (by kernel_rfl) (by kernel_rfl) (fun _ _ _ h => h) (Or.inl ⟨by rfl, ?_⟩) (by assumption) ?_
                  rotate_left
                  · (intro w hSw; (try dsimp only at hSw); go_simp; try (with_reducible rfl))
                  try simp only [Act.put, List.setIfInBounds_toArray, List.set_cons_zero, List.set_cons_succ]
                  -- takes operation 9 of a drawn region first (Derived/OrdersHeld's law by hand: no word where the loads of a cell that the region itself stores into are left to branch)
                  refine wpAnyH_take (i := 9) (v := ?_) rfl (by kernel_rfl) (by kernel_rfl) (by kernel_rfl) (fun _ _ _ h => h) (Or.inl ⟨by rfl, ?_⟩) (by assumption) ?_
                  rotate_left
                  · (intro w hSw; (try dsimp only at hSw); go_simp; try (with_reducible rfl))
                  try simp only [Act.put, List.setIfInBounds_toArray, List.set_cons_zero, List.set_cons_succ]
                  -- takes operation 10 of a drawn region first (Derived/OrdersHeld's law by hand: no word where the loads of a cell that the region itself stores into are left to branch)
                  refine wpAnyH_take (i := 10) (v := ?_) rfl (by kernel_rfl) (by kernel_rfl) (by kernel_rfl) (fun _ _ _ h => h) (Or.inl ⟨by rfl, ?_⟩) (by assumption) ?_
                  rotate_left
                  · (intro w hSw; (try dsimp only at hSw); go_simp; try (with_reducible rfl))
                  try simp only [Act.put, List.setIfInBounds_toArray, List.set_cons_zero, List.set_cons_succ]
                  -- takes operation 11 of a drawn region first (Derived/OrdersHeld's law by hand: no word where the loads of a cell that the region itself stores into are left to branch)
                  refine wpAnyH_take (i := 11) (v := ?_) rfl (by kernel_rfl) (by kernel_rfl) (by kernel_rfl) (fun _ _ _ h => h) (Or.inl ⟨by rfl, ?_⟩) (by assumption) ?_
                  rotate_left
                  · (intro w hSw; (try dsimp only at hSw); go_simp; try (with_reducible rfl))
                  try simp only [Act.put, List.setIfInBounds_toArray, List.set_cons_zero, List.set_cons_succ]
                  -- takes operation 12 of a drawn region first (Derived/OrdersHeld's law by hand: no word where the loads of a cell that the region itself stores into are left to branch)
                  refine wpAnyH_take (i := 12) (v := ?_) rfl (by kernel_rfl) (by kernel_rfl) (by kernel_rfl) (fun _ _ _ h => h) (Or.inl ⟨by rfl, ?_⟩) (by assumption) ?_
                  rotate_left
                  · (intro w hSw; (try dsimp only at hSw); go_simp; try (with_reducible rfl))
                  try simp only [Act.put, List.setIfInBounds_toArray, List.set_cons_zero, List.set_cons_succ]
                  -- takes operation 13 of a drawn region first (Derived/OrdersHeld's law by hand: no word where the loads of a cell that the region itself stores into are left to branch)
                  refine wpAnyH_take (i := 13) (v := ?_) rfl (by kernel_rfl) (by kernel_rfl) (by kernel_rfl) (fun _ _ _ h => h) (Or.inl ⟨by rfl, ?_⟩) (by assumption) ?_
                  rotate_left
                  · (intro w hSw; (try dsimp only at hSw); go_simp; try (with_reducible rfl))
                  try simp only [Act.put, List.setIfInBounds_toArray, List.set_cons_zero, List.set_cons_succ]
                  -- takes operation 14 of a drawn region first (Derived/OrdersHeld's law by hand: no word where the loads of a cell that the region itself stores into are left to branch)
                  refine wpAnyH_take (i := 14) (v := ?_) rfl (by kernel_rfl) (by kernel_rfl) (by kernel_rfl) (fun _ _ _ h => h) (Or.inl ⟨by rfl, ?_⟩) (by assumption) ?_
                  rotate_left
                  · (intro w hSw; (try dsimp only at hSw); go_simp; try (with_reducible rfl))
                  try simp only [Act.put, List.setIfInBounds_toArray, List.set_cons_zero, List.set_cons_succ]
                  -- takes operation 15 of a drawn region first (Derived/OrdersHeld's law by hand: no word where the loads of a cell that the region itself stores into are left to branch)
                  refine wpAnyH_take (i := 15) (v := ?_) rfl (by kernel_rfl) (by kernel_rfl) (by kernel_rfl) (fun _ _ _ h => h) (Or.inl ⟨by rfl, ?_⟩) (by assumption) ?_
                  rotate_left
                  · (intro w hSw; (try dsimp only at hSw); go_simp; try (with_reducible rfl))
                  try simp only [Act.put, List.setIfInBounds_toArray, List.set_cons_zero, List.set_cons_succ]
                  -- takes operation 16 of a drawn region first (Derived/OrdersHeld's law by hand: no word where the loads of a cell that the region itself stores into are left to branch)
                  refine wpAnyH_take (i := 16) (v := ?_) rfl (by kernel_rfl) (by kernel_rfl) (by kernel_rfl) (fun _ _ _ h => h) (Or.inl ⟨by rfl, ?_⟩) (by assumption) ?_
                  rotate_left
                  · (intro w hSw; (try dsimp only at hSw); go_simp; try (with_reducible rfl))
                  try simp only [Act.put, List.setIfInBounds_toArray, List.set_cons_zero, List.set_cons_succ]
                  -- takes operation 17 of a drawn region first (Derived/OrdersHeld's law by hand: no word where the loads of a cell that the region itself stores into are left to branch)
                  refine wpAnyH_take (i := 17) (v := ?_) rfl (by kernel_rfl) (by kernel_rfl) (by kernel_rfl) (fun _ _ _ h => h) (Or.inl ⟨by rfl, ?_⟩) (by assumption) ?_
                  rotate_left
                  · (intro w hSw; (try dsimp only at hSw); go_simp; try (with_reducible rfl))
                  try simp only [Act.put, List.setIfInBounds_toArray, List.set_cons_zero, List.set_cons_succ]
                  have hS2 := hGA.six
                  have hNW : (wr.drew.alloc (.cells #[.int .u8 V] 5)).heap[wr.heap.size]? = some (.cells #[.int .u8 V] 5 (0, 0)) := heap_alloc_new wr.drew _
                  have HNW := Lib.hid hNW; clear hNW
                  refine wpAnyH_ready (rs := [1, 18]) (by kernel_rfl) (by simp) ?_
                  refine AllReadyH.cons rfl (fun K hK => ?_) (AllReadyH.cons rfl (fun K hK => ?_) AllReadyH.nil)
                  · go_simp
                    refine hK.out _ _ hHeld (fun hHeld => ?_)
                    clear hK K
                    try simp only [Act.put, List.setIfInBounds_toArray, List.set_cons_zero, List.set_cons_succ]
                    refine wpAnyH_ready (rs := [18]) (by kernel_rfl) (by simp) ?_
                    refine AllReadyH.cons rfl (fun K hK => ?_) AllReadyH.nil
                    go_simp
                    refine hK.out _ _ ⟨hS2.1, hS2.2.1⟩ (fun hHeld => ?_)
                    clear hK K
                    try simp only [Act.put, List.setIfInBounds_toArray, List.set_cons_zero, List.set_cons_succ]
                    refine wpAnyH_ready (rs := [19]) (by kernel_rfl) (by simp) ?_
                    refine AllReadyH.cons rfl (fun K hK => ?_) AllReadyH.nil
                    refine step_append_lies _ (by rfl) _ _ _ (by rfl) (w.heap.size + 3) 5 i0 (.int .u8 0) 1 1 Try.underlying22 HI0.out HI1.out HI2.out HI3.out rfl (by decide) v3 (3 * (j * cw + i) + c) (bytes (3 * (j * cw + i) + c) f) (by rfl) hGA.own ⟨wr.heap.size, 0, none⟩ 1 1 [.int .u8 V] (by rfl) (by rfl) (World.news_of_block (cs := #[.int .u8 V]) (t := 5) (fr := (0, 0)) HNW.out) (by simp [Value.oneCell']) H1p.out hmx hbz hGA.big _ rfl ?_
                    intro gg cap w5 hown5 hgrow5 hat5 hlt5
                    have hM5 := hGA.par.grown hgrow5 (hGA.own_ne _ (by omega))
                    refine hK.out _ _ ⟨hM5.three.1, hM5.three.2.1⟩ (fun hHeld => ?_)
                    clear hK K
                    try simp only [Act.put, List.setIfInBounds_toArray, List.set_cons_zero, List.set_cons_succ]
                    have hG5 := hGA.out.grown hgrow5 (hGA.own_ne _ (by omega)); have hf5 := hG5.free; obtain ⟨y0, y1, y2⟩ := hG5.three
                    have hG6 := hGA.more hgrow5 (hby1.out ▸ hown5)
                    refine wpAnyH_ready (rs := [20]) (by kernel_rfl) (by simp) ?_
                    refine AllReadyH.cons rfl (fun K hK => ?_) AllReadyH.nil
                    go_simp
                    refine hK.out _ _ hHeld (fun hHeld => ?_)
                    clear hK K
                    try simp only [Act.put, List.setIfInBounds_toArray, List.set_cons_zero, List.set_cons_succ]
                    refine wpAnyH_ready (rs := [21]) (by kernel_rfl) (by simp) ?_
                    refine AllReadyH.cons rfl (fun K hK => ?_) AllReadyH.nil
                    go_simp
                    refine hK.out _ _ ⟨hG6.six.1, hG6.six.2.1⟩ (fun hHeld => ?_)
                    clear hK K
                    refine wpAnyH_done (by kernel_rfl) ?_ _
                    go_wp2_with fail
                    go_roundg (3 - (c + 1))
                    case rel => exact ⟨c + 1, _, by omega, rfl, by go_num, hG6.cast (by omega)⟩
                    case measure => omega
                  · have hGB := (hG.keep (below_allocs (Below.refl _ wr) (.cells #[.int .u8 V] 5))).drew
                    have hSB := hGB.six
                    have HNB := Lib.hid (show ((wr.alloc (.cells #[.int .u8 V] 5)).drew).heap[wr.heap.size]? = some (.cells #[.int .u8 V] 5 (0, 0)) from heap_alloc_new wr _)
                    go_simp
                    refine hK.out _ _ ⟨hSB.1, hSB.2.1⟩ (fun hHeld => ?_)
                    clear hK K
                    try simp only [Act.put, List.setIfInBounds_toArray, List.set_cons_zero, List.set_cons_succ]
                    clear q0 q1 q2 z0 z1 z2 hGA hS2 HNW
                    generalize (wr.alloc (.cells #[.int .u8 V] 5)).drew = wx at *
                    have hx2 := hSB.2.2.2.2.2
                    refine wpAnyH_ready (rs := [1]) (by kernel_rfl) (by simp) ?_
                    refine AllReadyH.cons rfl (fun K hK => ?_) AllReadyH.nil
                    go_simp
                    refine hK.out _ _ ⟨hSB.1, hSB.2.1⟩ (fun hHeld => ?_)
                    clear hK K
                    try simp only [Act.put, List.setIfInBounds_toArray, List.set_cons_zero, List.set_cons_succ]
                    refine wpAnyH_ready (rs := [19]) (by kernel_rfl) (by simp) ?_
                    refine AllReadyH.cons rfl (fun K hK => ?_) AllReadyH.nil
                    refine step_append_lies _ (by rfl) _ _ _ (by rfl) (w.heap.size + 3) 5 i0 (.int .u8 0) 1 1 Try.underlying22 HI0.out HI1.out HI2.out HI3.out rfl (by decide) v3 (3 * (j * cw + i) + c) (bytes (3 * (j * cw + i) + c) f) (by rfl) hGB.own ⟨wr.heap.size, 0, none⟩ 1 1 [.int .u8 V] (by rfl) (by rfl) (World.news_of_block (cs := #[.int .u8 V]) (t := 5) (fr := (0, 0)) HNB.out) (by simp [Value.oneCell']) H1p.out hmx hbz hGB.big _ rfl ?_
                    intro gg cap w5 hown5 hgrow5 hat5 hlt5
                    have hM5 := hGB.par.grown hgrow5 (hGB.own_ne _ (by omega))
                    refine hK.out _ _ ⟨hM5.three.1, hM5.three.2.1⟩ (fun hHeld => ?_)
                    clear hK K
                    try simp only [Act.put, List.setIfInBounds_toArray, List.set_cons_zero, List.set_cons_succ]
                    have hG5 := hGB.out.grown hgrow5 (hGB.own_ne _ (by omega)); have hf5 := hG5.free; obtain ⟨y0, y1, y2⟩ := hG5.three
                    have hG6 := hGB.more hgrow5 (hby1.out ▸ hown5)
                    refine wpAnyH_ready (rs := [20]) (by kernel_rfl) (by simp) ?_
                    refine AllReadyH.cons rfl (fun K hK => ?_) AllReadyH.nil
                    go_simp
                    refine hK.out _ _ hHeld (fun hHeld => ?_)
                    clear hK K
                    try simp only [Act.put, List.setIfInBounds_toArray, List.set_cons_zero, List.set_cons_succ]
                    refine wpAnyH_ready (rs := [21]) (by kernel_rfl) (by simp) ?_
                    refine AllReadyH.cons rfl (fun K hK => ?_) AllReadyH.nil
                    go_simp
                    refine hK.out _ _ ⟨hG6.six.1, hG6.six.2.1⟩ (fun hHeld => ?_)
                    clear hK K
                    refine wpAnyH_done (by kernel_rfl) ?_ _
                    go_wp2_with fail
                    go_roundg (3 - (c + 1))
                    case rel => exact ⟨c + 1, _, by omega, rfl, by go_num, hG6.cast (by omega)⟩
                    case measure => omega
            · obtain rfl : c = 3 := by omega
              go_wp2_with fail
              go_roundg (cw - (i + 1))
              case rel => exact ⟨i + 1, _, by omega, rfl, by go_num, hG.cast (by omega)⟩
              case measure => omega
        · obtain rfl : i = cw := by omega
          go_wp2_with fail
          go_roundg (ch - (j + 1))
          case rel => exact ⟨j + 1, _, by omega, rfl, by go_num, hG.cast (by rw [Nat.add_mul]; omega)⟩
          case measure => omega
    · obtain rfl : j = ch := by omega
      have hG := hG.cast (by rw [HM.out])
      obtain ⟨g, cap, rfl, hcap1, hcap2⟩ := hG.form (by omega)
      obtain ⟨p0, p1, p2, o0, o1, o2⟩ := hG.six
      have hFr := hG.res.free
      obtain ⟨r0, r1, r2⟩ := hG.res.three
      go_wp2_with fail
      have hend := hG.ret (.int .i64 cw) (.int .i64 j) (.slice (some ⟨g, 0, none⟩) (3 * M) cap)
      exact bodyPost_ret (v := .agg #[.int .i64 cw, .int .i64 j, .slice (some ⟨g, 0, none⟩) (3 * M) cap]) (by simp [results, Try.results34, go_sem, r0, r1, r2]) rfl ⟨_, _, rfl, bytes_of_own hend.1, hcap1, by unfold maxLen at hcap2; omega, hend.2⟩
end Go.Proofs.Ytkebkbjkapfgkaa
