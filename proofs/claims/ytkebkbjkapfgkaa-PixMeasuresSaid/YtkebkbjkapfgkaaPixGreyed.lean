/- The reference's Greyed. -/
import Derived.Test.YtkebkbjkapfgkaaPixCropped
import Derived.Test.YtkebkbjkapfgkaaPixGreyMath
namespace Go.Proofs.Ytkebkbjkapfgkaa
open Go.RowKit Go.Sort
set_option linter.unusedVariables false
attribute [local go_sem ↓] Go.wp_at_zero Go.wp_at_succ
set_option maxRecDepth 100000 in
set_option maxHeartbeats 2000000 in
theorem greyed_is (W H : Nat) (a : Option Addr) (ca : Nat) (px : Nat → Int) (w : World) (hW : 1 ≤ W ∧ W ≤ 64 ∧ 1 ≤ H ∧ H ≤ 64) (hr : Row w a (3 * (H * W)) (fun i => .int .u8 (px i)))
    (hca : 3 * (H * W) ≤ ca) (hca2 : ca ≤ 9223372036854775807) (hpx : ∀ i, 0 ≤ px i ∧ px i ≤ 255) :
    Calls Try.prog 38 #[.agg #[.int .i64 W, .int .i64 H, .slice a (3 * (H * W)) ca]] w fun e w' => ∃ g cap, e = .returned (.agg #[.int .i64 W, .int .i64 H, .slice (some ⟨g, 0, none⟩) (3 * (H * W)) cap]) ∧ 3 * (H * W) ≤ cap ∧ cap ≤ maxLen ∧
      w'.ownsRow (w.heap.size + 3) 5 1 (.slice (some ⟨g, 0, none⟩) (3 * (H * W)) cap) (3 * (H * W)) (bytes (3 * (H * W)) (Im.content W (fun i k c => Im.grey (Im.pix px W i k 0) (Im.pix px W i k 1) (Im.pix px W i k 2)))) ∧ Below w.heap.size w w' := by
  have hWH : H * W ≤ 4096 := Nat.mul_le_mul hW.2.2.2 hW.2.1
  have hWH1 : 1 ≤ H * W := Nat.mul_le_mul (show 1 ≤ H from hW.2.2.1) hW.1
  obtain ⟨b0, off0, rfl, hb0, hc0⟩ := hr (by omega)
  have HC := Lib.hid hc0; clear hc0 hr
  obtain ⟨f, hf⟩ : ∃ f, Im.content W (fun i k c => Im.grey (Im.pix px W i k 0) (Im.pix px W i k 1) (Im.pix px W i k 2)) = f := ⟨_, rfl⟩
  rw [hf]
  have hfat : ∀ i k c, i < W → c < 3 → f (3 * (k * W + i) + c) = Im.grey (Im.pix px W i k 0) (Im.pix px W i k 1) (Im.pix px W i k 2) := fun i k c h1 h2 => by rw [← hf]; exact Im.content_at _ _ _ _ _ h1 h2
  have HF := Lib.hid hfat; clear hfat hf
  have HPX := Lib.hid hpx; clear hpx
  obtain ⟨i0, hi0, hz0, hz1, hz2⟩ := info_parts infoByte2
  have HI0 := Lib.hid hi0; have HI1 := Lib.hid hz0; have HI2 := Lib.hid hz1; have HI3 := Lib.hid hz2
  clear hi0 hz0 hz1 hz2
  -- .int .i64 W, .int .i64 H, .slice (some ⟨b0, off0, none⟩) (3 * (H * W)) ca: the image's fields; the parameter's box and the result's box (a zero image) under names
  obtain ⟨W1, HW1, hP, hs1, hB1⟩ := box w #[.int .i64 W, .int .i64 H, .slice (some ⟨b0, off0, none⟩) (3 * (H * W)) ca] 24
  obtain ⟨W2, HW2, hR, hs2, hB2⟩ := box W1 #[.int .i64 0, .int .i64 0, .slice none 0 0] 24
  have hP := hP.keep hB2
  rw [hs1] at hR hs2
  have hB12 := below_up hB1 hB2
  have H1 := Lib.hid HW1; have H2 := Lib.hid HW2; clear HW1 HW2 hB1 hB2 hs1
  obtain ⟨w3, HW3, hO3, hs3, hB3⟩ := box W2 #[.int .i64 W, .int .i64 H, .slice none 0 0] 24
  have hs2' : W2.heap.size = w.heap.size + 2 := by omega
  rw [hs2'] at hO3
  have hG : Grow w w3 (.int .i64 W) (.int .i64 H) (.slice (some ⟨b0, off0, none⟩) (3 * (H * W)) ca) (.int .i64 W) (.int .i64 H) (.slice none 0 0) 0 f :=
    ⟨hP.keep hB3, hR.keep hB3, hO3, ⟨by simp [bytes], .inl ⟨rfl, rfl⟩⟩, below_up hB12 hB3⟩
  have H3 := Lib.hid HW3; clear HW3
  obtain ⟨p0, p1, p2, o0, o1, o2⟩ := hG.six
  go_enter Try.func38, Try.ntmps38
  go_wp2_with fail
  try rw [H1.out, H2.out, H3.out]
  go_wp2_with fail
  clear H1 H2 H3 hO3 hP hR hB3 hB12 hs2 hs2' hs3 p0 p1 p2 o0 o1 o2
  go_loopg [15] H (fun gk v wr => ∃ (j : Nat) (vv : Value), j ≤ H ∧ gk = H - j ∧ v = .int .i64 j ∧ Grow w wr (.int .i64 W) (.int .i64 H) (.slice (some ⟨b0, off0, none⟩) (3 * (H * W)) ca) (.int .i64 W) (.int .i64 H) vv (3 * (j * W)) f)
  case atStart => exact ⟨0, _, by omega, rfl, rfl, hG.cast (by simp)⟩
  case round =>
    clear hG
    obtain ⟨j, v1, hj, rfl, rfl, hG⟩ := hrel
    by_cases hlt : j < H
    · obtain ⟨p0, p1, p2, o0, o1, o2⟩ := hG.six
      go_wp2_with fail
      clear p0 p1 p2 o0 o1 o2
      go_loopg [20] W (fun gk v wr => ∃ (i : Nat) (vv : Value), i ≤ W ∧ gk = W - i ∧ v = .int .i64 i ∧ Grow w wr (.int .i64 W) (.int .i64 H) (.slice (some ⟨b0, off0, none⟩) (3 * (H * W)) ca) (.int .i64 W) (.int .i64 H) vv (3 * (j * W + i)) f)
      case atStart => exact ⟨0, _, by omega, rfl, rfl, hG⟩
      case round =>
        clear hG
        obtain ⟨i, v2, hi, rfl, rfl, hG⟩ := hrel
        by_cases hlt2 : i < W
        · obtain ⟨p0, p1, p2, o0, o1, o2⟩ := hG.six
          have hpl := Im.place_lt W H i j hlt2 hlt
          have e0 : f (3 * (j * W + i)) = Im.grey (Im.pix px W i j 0) (Im.pix px W i j 1) (Im.pix px W i j 2) := HF.out i j 0 hlt2 (by omega)
          have e1 : f (3 * (j * W + i) + 1) = Im.grey (Im.pix px W i j 0) (Im.pix px W i j 1) (Im.pix px W i j 2) := HF.out i j 1 hlt2 (by omega)
          have e2 : f (3 * (j * W + i) + 2) = Im.grey (Im.pix px W i j 0) (Im.pix px W i j 1) (Im.pix px W i j 2) := HF.out i j 2 hlt2 (by omega)
          have hby3 := Lib.hid (bytes_more _ _ _ _ _ e0 e1 e2); clear e0 e1 e2
          have b1 : 0 ≤ Im.pix px W i j 0 ∧ Im.pix px W i j 0 ≤ 255 := HPX.out _
          have b2 : 0 ≤ Im.pix px W i j 1 ∧ Im.pix px W i j 1 ≤ 255 := HPX.out _
          have b3 : 0 ≤ Im.pix px W i j 2 ∧ Im.pix px W i j 2 ≤ 255 := HPX.out _
          have HPT := Lib.hid (fun V (hV : Below w.heap.size w V) => And.intro ((hV.cell (p := ⟨b0, off0 + 3 * (j * W + i), none⟩) hb0).trans (HC.out (3 * (j * W + i)) (by omega))) (And.intro ((hV.cell (p := ⟨b0, off0 + (3 * (j * W + i) + 1), none⟩) hb0).trans (HC.out (3 * (j * W + i) + 1) (by omega))) ((hV.cell (p := ⟨b0, off0 + (3 * (j * W + i) + 2), none⟩) hb0).trans (HC.out (3 * (j * W + i) + 2) (by omega)))))
          have HPT2 : Hid (∀ V, Below w.heap.size w V → V.cell? ⟨b0, off0 + 3 * (j * W + i), none⟩ = some (.int .u8 (Im.pix px W i j 0)) ∧ V.cell? ⟨b0, off0 + 3 * (j * W + i) + 1, none⟩ = some (.int .u8 (Im.pix px W i j 1)) ∧ V.cell? ⟨b0, off0 + 3 * (j * W + i) + 2, none⟩ = some (.int .u8 (Im.pix px W i j 2))) := HPT.out
          clear HPT
          generalize Im.pix px W i j 0 = c0 at *
          generalize Im.pix px W i j 1 = c1 at *
          generalize Im.pix px W i j 2 = c2 at *
          have hgv : 0 ≤ (299 * c0 + 587 * c1 + 114 * c2 + 500) / 1000 ∧ (299 * c0 + 587 * c1 + 114 * c2 + 500) / 1000 ≤ 255 := Im.grey_bd b1 b2 b3
          go_wp2_with (go_at_call 68; refine (pixel_int W H i j i j rfl rfl b0 off0 (3 * (H * W)) ca _ (by omega) (by omega) hca hca2).mono ?_; rintro e w4 ⟨rfl, hB4⟩; have hG4 := hG.keep hB4; obtain ⟨k0, k1, k2⟩ := HPT2.out _ hG4.bel)
          go_quiet (fail)
          have hG5 := hG4.keep (below_drewN (Below.refl _ w4) nq)
          clear k0 k1 k2 hG4 hB4 p0 p1 p2 o0 o1 o2 hG HPT2
          generalize w4.drewN nq = w5 at *
          obtain ⟨v, hv⟩ : ∃ v, (299 * c0 + 587 * c1 + 114 * c2 + 500) / 1000 = v := ⟨_, rfl⟩
          have hby4 : Hid (bytes (3 * (j * W + i)) f ++ [.int .u8 v, .int .u8 v, .int .u8 v] = bytes (3 * (j * W + i) + 3) f) := by rw [← hv]; exact hby3.out
          have HV := Lib.hid hv
          rw [hv] at hgv ⊢
          clear hv hby3
          have hG6 := hG5.keep (below_allocs (Below.refl _ w5) (.cells #[.int .u8 v, .int .u8 v, .int .u8 v] 5))
          obtain ⟨p0, p1, p2, o0, o1, o2⟩ := hG6.six
          obtain ⟨m0, m1, m2, n0, n1, n2⟩ := hG5.six
          have hmx : 3 * (j * W + i) + 3 ≤ maxLen := by unfold maxLen; omega
          have hbz : (3 * (j * W + i) + 3) * 1 ≤ 140737488355328 := by omega
          go_wp2_with (at_builtin; refine wpList_append_own2 _ rfl _ _ 22 rfl (w.heap.size + 3) 5 i0 (.int .u8 0) 1 1 Try.underlying22 HI0.out HI1.out HI2.out HI3.out rfl (by decide) v2 (3 * (j * W + i)) (bytes (3 * (j * W + i)) f) rfl hG6.own ⟨w5.heap.size, 0, none⟩ 3 3 [.int .u8 v, .int .u8 v, .int .u8 v] rfl (by decide) rfl (World.news_of_block (cs := #[.int .u8 v, .int .u8 v, .int .u8 v]) (t := 5) (fr := (0, 0)) (heap_alloc_new w5 _)) (by simp [Value.oneCell']) hmx hbz hG6.big ?_; intro gg cap w7 hown7 hgrow7 hnew7; have hG7 := hG6.out.grown hgrow7 (hG6.own_ne _ (by omega)); have hf7 := hG7.free; obtain ⟨y0, y1, y2⟩ := hG7.three)
          have hG8 := hG6.more hgrow7 (hby4.out ▸ hown7)
          go_roundg (W - (i + 1))
          case rel => exact ⟨i + 1, _, by omega, rfl, by go_num, hG8.cast (by omega)⟩
          case measure => omega
        · obtain rfl : i = W := by omega
          go_wp2_with fail
          go_roundg (H - (j + 1))
          case rel => exact ⟨j + 1, _, by omega, rfl, by go_num, hG.cast (by rw [Nat.add_mul]; omega)⟩
          case measure => omega
    · obtain rfl : j = H := by omega
      obtain ⟨g, cap, rfl, hcap1, hcap2⟩ := hG.form (by omega)
      obtain ⟨p0, p1, p2, o0, o1, o2⟩ := hG.six
      have hFr := hG.res.free
      obtain ⟨r0, r1, r2⟩ := hG.res.three
      go_wp2_with fail
      have hend := hG.ret (.int .i64 W) (.int .i64 j) (.slice (some ⟨g, 0, none⟩) (3 * (j * W)) cap)
      exact bodyPost_ret (v := .agg #[.int .i64 W, .int .i64 j, .slice (some ⟨g, 0, none⟩) (3 * (j * W)) cap]) (by simp [results, Try.results38, go_sem, r0, r1, r2]) rfl ⟨_, _, rfl, hcap1, hcap2, hend.1, hend.2⟩
end Go.Proofs.Ytkebkbjkapfgkaa
