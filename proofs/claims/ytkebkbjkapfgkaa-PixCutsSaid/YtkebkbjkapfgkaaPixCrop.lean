/- Crop: a part of an image. -/
import Derived.Test.YtkebkbjkapfgkaaPixFill
namespace Go.Proofs.Ytkebkbjkapfgkaa
open Go.RowKit Go.Sort
set_option linter.unusedVariables false
attribute [local go_sem ↓] Go.wp_at_zero Go.wp_at_succ
set_option maxRecDepth 100000 in
set_option maxHeartbeats 2000000 in
theorem crop_ok (W H x y cw ch : Nat) (a : Option Addr) (ca : Nat) (px : Nat → Int) (w : World) (hW : 1 ≤ W ∧ W ≤ 64 ∧ 1 ≤ H ∧ H ≤ 64) (hr : Row w a (3 * (H * W)) (fun i => .int .u8 (px i)))
    (hca : 3 * (H * W) ≤ ca) (hca2 : ca ≤ 9223372036854775807) (h1 : 1 ≤ cw) (h2 : 1 ≤ ch) (hx : x + cw ≤ W) (hy : y + ch ≤ H) :
    Calls Try.prog 14 #[.agg #[.int .i64 W, .int .i64 H, .slice a (3 * (H * W)) ca], .int .i64 x, .int .i64 y, .int .i64 cw, .int .i64 ch] w fun e w' => ∃ b, e = .returned (.tuple #[.agg #[.int .i64 cw, .int .i64 ch, .slice (some ⟨b, 0, none⟩) (3 * (ch * cw)) (3 * (ch * cw))], .int .i64 0]) ∧ w.heap.size ≤ b ∧
      Out w' b (3 * (ch * cw)) (Im.content cw (fun i k c => Im.pix px W (x + i) (y + k) c)) ∧ Below w.heap.size w w' := by
  have hWH : H * W ≤ 4096 := Nat.mul_le_mul hW.2.2.2 hW.2.1
  have hWH1 : 1 ≤ H * W := Nat.mul_le_mul (show 1 ≤ H from hW.2.2.1) hW.1
  have hc2 : ch * cw ≤ 4096 := Nat.mul_le_mul (by omega : ch ≤ 64) (by omega : cw ≤ 64)
  obtain ⟨b0, off0, rfl, hb0, hc0⟩ := hr (by omega)
  have HC := Lib.hid hc0; clear hc0 hr
  have he : Im.err (W : Int) (H : Int) (3 * (H * W)) = 0 := by
    unfold Im.err
    rw [if_neg (by omega), if_pos (by rw [Int.mul_assoc, Int.mul_comm (W : Int)]; simp)]
  have HE := Lib.hid he; clear he
  obtain ⟨f, hf⟩ : ∃ f, Im.content cw (fun i k c => Im.pix px W (x + i) (y + k) c) = f := ⟨_, rfl⟩
  rw [hf]
  have hfat : ∀ i k c, i < cw → c < 3 → f (3 * (k * cw + i) + c) = Im.pix px W (x + i) (y + k) c := fun i k c h1 h2 => by rw [← hf]; exact Im.content_at _ _ _ _ _ h1 h2
  have HF := Lib.hid hfat; clear hfat hf
  -- .int .i64 W, .int .i64 H, .slice (some ⟨b0, off0, none⟩) (3 * (H * W)) ca: the image's fields; the parameter's box and the result's box (a zero image) under names
  obtain ⟨W1, HW1, hP, hs1, hB1⟩ := box w #[.int .i64 W, .int .i64 H, .slice (some ⟨b0, off0, none⟩) (3 * (H * W)) ca] 24
  obtain ⟨W2, HW2, hR, hs2, hB2⟩ := box W1 #[.int .i64 0, .int .i64 0, .slice none 0 0] 24
  have hP := hP.keep hB2
  rw [hs1] at hR hs2
  have hB12 := below_up hB1 hB2
  have H1 := Lib.hid HW1; have H2 := Lib.hid HW2; clear HW1 HW2 hB1 hB2 hs1
  go_enter Try.func14, Try.ntmps14
  go_wp2_with (first | (go_at_call 28; rw [H1.out, H2.out]; refine (check_is _ _ _ _ _ _ (by omega)).mono ?_; rw [HE.out]; rintro e w1 ⟨rfl, hB⟩; have hR1 := hR.keep hB; have hP1 := hP.keep hB; obtain ⟨p0, p1, p2⟩ := hP1.three) | (go_at_call 63; refine (outside_no _ _ _ _ (by omega) (by omega)).mono ?_; rintro e w' ⟨rfl, rfl⟩) | (go_at_call 64; refine (blank_is cw ch _ h1 (by omega) h2 (by omega)).mono ?_; rintro e w2 ⟨b, rfl, hbb, hO, hB2⟩))
  obtain ⟨w3, HW3, hO3, hs3, hB3⟩ := box w2 #[.int .i64 cw, .int .i64 ch, .slice (some ⟨b, 0, none⟩) (3 * (ch * cw)) (3 * (ch * cw))] 24
  rw [HW3]
  have hbl := hO.lt
  have hw1 : w.heap.size + 2 ≤ w1.heap.size := by have := hB.size; omega
  have hF : Fill w w3 (.int .i64 W) (.int .i64 H) (.slice (some ⟨b0, off0, none⟩) (3 * (H * W)) ca) (.int .i64 cw) (.int .i64 ch) (.slice (some ⟨b, 0, none⟩) (3 * (ch * cw)) (3 * (ch * cw))) w2.heap.size b (3 * (ch * cw)) 0 f :=
    ⟨(hP1.keep hB2).keep hB3, (hR1.keep hB2).keep hB3, hO3, by rw [Im.mk_zero]; exact hO.keep hB3, below_up (below_up (below_up hB12 hB) hB2) hB3, hbl, by omega⟩
  obtain ⟨o, ho⟩ : ∃ o, o = w2.heap.size := ⟨_, rfl⟩
  rw [← ho] at hF ⊢
  clear hO3 hO hP1 hR1 hP hR p0 p1 p2 hB hB2 hB3 HW3 ho H1 H2 HE hB12 hs2 hs3
  go_loopg [61] ch (fun gk v wr => ∃ j : Nat, j ≤ ch ∧ gk = ch - j ∧ v = .int .i64 j ∧ Fill w wr (.int .i64 W) (.int .i64 H) (.slice (some ⟨b0, off0, none⟩) (3 * (H * W)) ca) (.int .i64 cw) (.int .i64 ch) (.slice (some ⟨b, 0, none⟩) (3 * (ch * cw)) (3 * (ch * cw))) o b (3 * (ch * cw)) (3 * (j * cw)) f)
  case atStart => exact ⟨0, by omega, rfl, rfl, hF.cast (by simp)⟩
  case round =>
    clear hF
    obtain ⟨j, hj, rfl, rfl, hF⟩ := hrel
    by_cases hlt : j < ch
    · go_wp2_with fail
      go_loopg [65] cw (fun gk v wr => ∃ i : Nat, i ≤ cw ∧ gk = cw - i ∧ v = .int .i64 i ∧ Fill w wr (.int .i64 W) (.int .i64 H) (.slice (some ⟨b0, off0, none⟩) (3 * (H * W)) ca) (.int .i64 cw) (.int .i64 ch) (.slice (some ⟨b, 0, none⟩) (3 * (ch * cw)) (3 * (ch * cw))) o b (3 * (ch * cw)) (3 * (j * cw + i)) f)
      case atStart => exact ⟨0, by omega, rfl, rfl, hF⟩
      case round =>
        clear hF
        obtain ⟨i, hi, rfl, rfl, hF⟩ := hrel
        by_cases hlt2 : i < cw
        · have hS := hF.six
          have hpl := Im.place_lt cw ch i j hlt2 hlt
          have hpl2 := Im.place_lt W H (x + i) (y + j) (by omega) (by omega)
          have hF0 := HF.out i j 0 hlt2 (by omega)
          have hF1 := HF.out i j 1 hlt2 (by omega)
          have hF2 := HF.out i j 2 hlt2 (by omega)
          have HHF := Lib.hid (And.intro hF0 (And.intro hF1 hF2)); clear hF0 hF1 hF2
          have hwb := Nat.lt_of_lt_of_le hb0 hF.bel.size
          go_wp2_with fail
          go_region_held3 (fun w' => w'.cell? ⟨w.heap.size, 0, none⟩ = some (.int .i64 W) ∧ w'.cell? ⟨w.heap.size, 1, none⟩ = some (.int .i64 H) ∧ w'.cell? ⟨w.heap.size, 2, none⟩ = some (.slice (some ⟨b0, off0, none⟩) (3 * (H * W)) ca) ∧
              w'.cell? ⟨o, 0, none⟩ = some (.int .i64 cw) ∧ w'.cell? ⟨o, 1, none⟩ = some (.int .i64 ch) ∧ w'.cell? ⟨o, 2, none⟩ = some (.slice (some ⟨b, 0, none⟩) (3 * (ch * cw)) (3 * (ch * cw))))
            (first | exact hF.drew.six | exact hFd.six | exact hFe.six)
            (first
              | (go_at_call 66; refine (at_int W H (x + i) (y + j) _ _ (by rw [IntKind.wrap_i64]; omega) (by rw [IntKind.wrap_i64]; omega) b0 off0 (3 * (H * W)) ca px _ w hb0 HC.out hF.drew.bel (by omega) (by omega) hca hca2).mono ?_; rintro e w4 ⟨rfl, hB4⟩; have hFd := hF.drew.keep hB4)
              | (go_at_call 65; refine (set_is cw ch i j b (3 * (ch * cw)) _ _ _ _ _ hFd.row (by omega) (by omega)).mono ?_; rintro e w5 ⟨rfl, hO5, hg5⟩; have hFe := hFd.fill hg5 hO5 HHF.out.1 HHF.out.2.1 HHF.out.2.2))
          go_wp2_with fail
          go_roundg (cw - (i + 1))
          case rel => exact ⟨i + 1, by omega, rfl, by go_num, hFe.cast (by omega)⟩
          case measure => omega
        · obtain rfl : i = cw := by omega
          go_wp2_with fail
          go_roundg (ch - (j + 1))
          case rel => exact ⟨j + 1, by omega, rfl, by go_num, hF.cast (by rw [Nat.add_mul]; omega)⟩
          case measure => omega
    · obtain rfl : j = ch := by omega
      obtain ⟨p0, p1, p2, o0, o1, o2⟩ := hF.six
      have hFr := hF.res.free
      obtain ⟨r0, r1, r2⟩ := hF.res.three
      go_wp2_with fail
      -- tintype/pix.Crop: the function; .int .i64 cw .int .i64 j .slice (some ⟨b, 0, none⟩) (3 * (j * cw)) (3 * (j * cw)): the image's fields; .tuple #[.agg #[.int .i64 cw, .int .i64 j, .slice (some ⟨b, 0, none⟩) (3 * (j * cw)) (3 * (j * cw))], .int .i64 0]: the result as a value; r0 r1 r2: the result's box; the rest is left as a goal
      have hBf := ((hF.bel.setCell (p := ⟨w.heap.size + 1, 0, none⟩) (by simp) (.int .i64 cw)).setCell (p := ⟨w.heap.size + 1, 1, none⟩) (by simp) (.int .i64 j)).setCell (p := ⟨w.heap.size + 1, 2, none⟩) (by simp) (.slice (some ⟨b, 0, none⟩) (3 * (j * cw)) (3 * (j * cw)))
      have hOf := hF.whole
      have hOb := hF.ob
      have hOf := ((Blk.setOther hOf (a := ⟨w.heap.size + 1, 0, none⟩) (by simp; omega) (.int .i64 cw)).setOther (a := ⟨w.heap.size + 1, 1, none⟩) (by simp; omega) (.int .i64 j)).setOther (a := ⟨w.heap.size + 1, 2, none⟩) (by simp; omega) (.slice (some ⟨b, 0, none⟩) (3 * (j * cw)) (3 * (j * cw)))
      exact bodyPost_ret (v := .tuple #[.agg #[.int .i64 cw, .int .i64 j, .slice (some ⟨b, 0, none⟩) (3 * (j * cw)) (3 * (j * cw))], .int .i64 0]) (by simp [results, Try.results14, go_sem, r0, r1, r2]) rfl ⟨_, rfl, by omega, hOf, hBf⟩
end Go.Proofs.Ytkebkbjkapfgkaa
