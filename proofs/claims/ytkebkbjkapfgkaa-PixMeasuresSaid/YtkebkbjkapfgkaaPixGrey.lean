/- grey: the image in grey. -/
import Derived.Test.YtkebkbjkapfgkaaPixFill
import Derived.Test.YtkebkbjkapfgkaaPixGreyMath
namespace Go.Proofs.Ytkebkbjkapfgkaa
open Go.RowKit Go.Sort
set_option linter.unusedVariables false
set_option maxRecDepth 100000 in
set_option maxHeartbeats 2000000 in
theorem grey_is (W H : Nat) (a : Option Addr) (ca : Nat) (px : Nat → Int) (w : World) (hW : 1 ≤ W ∧ W ≤ 64 ∧ 1 ≤ H ∧ H ≤ 64) (hr : Row w a (3 * (H * W)) (fun i => .int .u8 (px i)))
    (hca : 3 * (H * W) ≤ ca) (hca2 : ca ≤ 9223372036854775807) (hpx : ∀ i, 0 ≤ px i ∧ px i ≤ 255) :
    Calls Try.prog 76 #[.agg #[.int .i64 W, .int .i64 H, .slice a (3 * (H * W)) ca]] w fun e w' => ∃ b, e = .returned (.agg #[.int .i64 W, .int .i64 H, .slice (some ⟨b, 0, none⟩) (3 * (H * W)) (3 * (H * W))]) ∧ w.heap.size ≤ b ∧
      Out w' b (3 * (H * W)) (Im.content W (fun i k c => Im.grey (Im.pix px W i k 0) (Im.pix px W i k 1) (Im.pix px W i k 2))) ∧ Below w.heap.size w w' := by
  have hWH : H * W ≤ 4096 := Nat.mul_le_mul hW.2.2.2 hW.2.1
  have hWH1 : 1 ≤ H * W := Nat.mul_le_mul (show 1 ≤ H from hW.2.2.1) hW.1
  obtain ⟨b0, off0, rfl, hb0, hc0⟩ := hr (by omega)
  have HC := Lib.hid hc0; clear hc0 hr
  obtain ⟨f, hf⟩ : ∃ f, Im.content W (fun i k c => Im.grey (Im.pix px W i k 0) (Im.pix px W i k 1) (Im.pix px W i k 2)) = f := ⟨_, rfl⟩
  rw [hf]
  have hfat : ∀ i k c, i < W → c < 3 → f (3 * (k * W + i) + c) = Im.grey (Im.pix px W i k 0) (Im.pix px W i k 1) (Im.pix px W i k 2) := fun i k c h1 h2 => by rw [← hf]; exact Im.content_at _ _ _ _ _ h1 h2
  have HF := Lib.hid hfat; clear hfat hf
  have HPX := Lib.hid hpx; clear hpx
  -- .int .i64 W, .int .i64 H, .slice (some ⟨b0, off0, none⟩) (3 * (H * W)) ca: the image's fields; the parameter's box and the result's box (a zero image) under names
  obtain ⟨W1, HW1, hP, hs1, hB1⟩ := box w #[.int .i64 W, .int .i64 H, .slice (some ⟨b0, off0, none⟩) (3 * (H * W)) ca] 24
  obtain ⟨W2, HW2, hR, hs2, hB2⟩ := box W1 #[.int .i64 0, .int .i64 0, .slice none 0 0] 24
  have hP := hP.keep hB2
  rw [hs1] at hR hs2
  have hB12 := below_up hB1 hB2
  have H1 := Lib.hid HW1; have H2 := Lib.hid HW2; clear HW1 HW2 hB1 hB2 hs1
  go_enter Try.func76, Try.ntmps76
  go_wp2_with (go_at_call 64; rw [H1.out, H2.out]; refine (blank_is W H _ hW.1 hW.2.1 hW.2.2.1 hW.2.2.2).mono ?_; rintro e w2 ⟨b, rfl, hbb, hO, hB2⟩; obtain ⟨p0, p1, p2⟩ := ((hP.keep hB2).alloc (.cells #[.int .i64 W, .int .i64 H, .slice (some ⟨b, 0, none⟩) (3 * (H * W)) (3 * (H * W))] 24)).three)
  obtain ⟨w3, HW3, hO3, hs3, hB3⟩ := box w2 #[.int .i64 W, .int .i64 H, .slice (some ⟨b, 0, none⟩) (3 * (H * W)) (3 * (H * W))] 24
  rw [HW3]
  have hbl := hO.lt
  have hF : Fill w w3 (.int .i64 W) (.int .i64 H) (.slice (some ⟨b0, off0, none⟩) (3 * (H * W)) ca) (.int .i64 W) (.int .i64 H) (.slice (some ⟨b, 0, none⟩) (3 * (H * W)) (3 * (H * W))) w2.heap.size b (3 * (H * W)) 0 f :=
    ⟨(hP.keep hB2).keep hB3, (hR.keep hB2).keep hB3, hO3, by rw [Im.mk_zero]; exact hO.keep hB3, below_up (below_up hB12 hB2) hB3, hbl, by omega⟩
  obtain ⟨o, ho⟩ : ∃ o, o = w2.heap.size := ⟨_, rfl⟩
  rw [← ho] at hF ⊢
  clear hO3 hO hP hR p0 p1 p2 hB2 hB3 HW3 ho H1 H2 hB12 hs2 hs3
  have hS := hF.six
  go_wp2_with fail
  clear hS
  go_loopg [15] H (fun gk v wr => ∃ j : Nat, j ≤ H ∧ gk = H - j ∧ v = .int .i64 j ∧ Fill w wr (.int .i64 W) (.int .i64 H) (.slice (some ⟨b0, off0, none⟩) (3 * (H * W)) ca) (.int .i64 W) (.int .i64 H) (.slice (some ⟨b, 0, none⟩) (3 * (H * W)) (3 * (H * W))) o b (3 * (H * W)) (3 * (j * W)) f)
  case atStart => exact ⟨0, by omega, rfl, rfl, hF.cast (by simp)⟩
  case round =>
    clear hF
    obtain ⟨j, hj, rfl, rfl, hF⟩ := hrel
    obtain ⟨p0, p1, p2, o0, o1, o2⟩ := hF.six
    by_cases hlt : j < H
    · go_wp2_with fail
      go_loopg [20] W (fun gk v wr => ∃ i : Nat, i ≤ W ∧ gk = W - i ∧ v = .int .i64 i ∧ Fill w wr (.int .i64 W) (.int .i64 H) (.slice (some ⟨b0, off0, none⟩) (3 * (H * W)) ca) (.int .i64 W) (.int .i64 H) (.slice (some ⟨b, 0, none⟩) (3 * (H * W)) (3 * (H * W))) o b (3 * (H * W)) (3 * (j * W + i)) f)
      case atStart => exact ⟨0, by omega, rfl, rfl, hF⟩
      case round =>
        clear hF p0 p1 p2 o0 o1 o2
        obtain ⟨i, hi, rfl, rfl, hF⟩ := hrel
        by_cases hlt2 : i < W
        · obtain ⟨p0, p1, p2, o0, o1, o2⟩ := hF.six
          have hpl := Im.place_lt W H i j hlt2 hlt
          have hF0 := HF.out i j 0 hlt2 (by omega)
          have hF1 := HF.out i j 1 hlt2 (by omega)
          have hF2 := HF.out i j 2 hlt2 (by omega)
          have b1 : 0 ≤ Im.pix px W i j 0 ∧ Im.pix px W i j 0 ≤ 255 := HPX.out _
          have b2 : 0 ≤ Im.pix px W i j 1 ∧ Im.pix px W i j 1 ≤ 255 := HPX.out _
          have b3 : 0 ≤ Im.pix px W i j 2 ∧ Im.pix px W i j 2 ≤ 255 := HPX.out _
          have HAT := Lib.hid (fun V (hV : Below w.heap.size w V) => at_int W H i j i j rfl rfl b0 off0 (3 * (H * W)) ca px V w hb0 HC.out hV (by omega) (by omega) hca hca2)
          generalize Im.pix px W i j 0 = c0 at *
          generalize Im.pix px W i j 1 = c1 at *
          generalize Im.pix px W i j 2 = c2 at *
          have hgv : 0 ≤ (299 * c0 + 587 * c1 + 114 * c2 + 500) / 1000 ∧ (299 * c0 + 587 * c1 + 114 * c2 + 500) / 1000 ≤ 255 := Im.grey_bd b1 b2 b3
          have HHF := Lib.hid (And.intro hF0 (And.intro hF1 hF2)); clear hF0 hF1 hF2
          go_wp2_with (first
            | (go_at_call 66; refine (HAT.out _ hF.bel).mono ?_; rintro e w4 ⟨rfl, hB4⟩; have hF5 := (hF.keep hB4).keep (below_allocs (Below.refl _ w4) (.cells #[.int .u8 c0, .int .u8 c1, .int .u8 c2] 93)); obtain ⟨q0, q1, q2, s0, s1, s2⟩ := hF5.six)
            | (go_at_call 65; refine (set_is W H i j b (3 * (H * W)) _ _ _ _ _ hF5.row (by omega) (by omega)).mono ?_; rintro e w5 ⟨rfl, hO5, hg5⟩; have hF6 := hF5.fill hg5 hO5 HHF.out.1 HHF.out.2.1 HHF.out.2.2))
          go_roundg (W - (i + 1))
          case rel => exact ⟨i + 1, by omega, rfl, by go_num, hF6.cast (by omega)⟩
          case measure => omega
        · obtain rfl : i = W := by omega
          go_wp2_with fail
          go_roundg (H - (j + 1))
          case rel => exact ⟨j + 1, by omega, rfl, by go_num, hF.cast (by rw [Nat.add_mul]; omega)⟩
          case measure => omega
    · obtain rfl : j = H := by omega
      have hFr := hF.res.free
      obtain ⟨r0, r1, r2⟩ := hF.res.three
      go_wp2_with fail
      -- tintype/pix.grey: the function; .int .i64 W .int .i64 j .slice (some ⟨b, 0, none⟩) (3 * (j * W)) (3 * (j * W)): the image's fields; .agg #[.int .i64 W, .int .i64 j, .slice (some ⟨b, 0, none⟩) (3 * (j * W)) (3 * (j * W))]: the result as a value; r0 r1 r2: the result's box; the rest is left as a goal
      have hBf := ((hF.bel.setCell (p := ⟨w.heap.size + 1, 0, none⟩) (by simp) (.int .i64 W)).setCell (p := ⟨w.heap.size + 1, 1, none⟩) (by simp) (.int .i64 j)).setCell (p := ⟨w.heap.size + 1, 2, none⟩) (by simp) (.slice (some ⟨b, 0, none⟩) (3 * (j * W)) (3 * (j * W)))
      have hOf := hF.whole
      have hOb := hF.ob
      have hOf := ((Blk.setOther hOf (a := ⟨w.heap.size + 1, 0, none⟩) (by simp; omega) (.int .i64 W)).setOther (a := ⟨w.heap.size + 1, 1, none⟩) (by simp; omega) (.int .i64 j)).setOther (a := ⟨w.heap.size + 1, 2, none⟩) (by simp; omega) (.slice (some ⟨b, 0, none⟩) (3 * (j * W)) (3 * (j * W)))
      exact bodyPost_ret (v := .agg #[.int .i64 W, .int .i64 j, .slice (some ⟨b, 0, none⟩) (3 * (j * W)) (3 * (j * W))]) (by simp [results, Try.results76, go_sem, r0, r1, r2]) rfl ⟨_, rfl, by omega, hOf, hBf⟩
end Go.Proofs.Ytkebkbjkapfgkaa
