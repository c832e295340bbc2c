/- The reference's Cropped. -/
import Derived.Test.YtkebkbjkapfgkaaPixGrow
import Derived.Deep.DrawnRows
import Derived.Deep.AppendLies
namespace Go.Proofs.Ytkebkbjkapfgkaa
open Go.RowKit Go.Sort
set_option linter.unusedVariables false
attribute [local go_sem ↓] Go.wp_at_zero Go.wp_at_succ
theorem infoByte2 : (Try.prog.info? 5).map (fun i => (i.zero, i.size, i.bytes)) = some (some (.int .u8 0), 1, 1) := by kernel_rfl
theorem pixel_int (W H x y : Nat) (X Y : Int) (hX : X = x) (hY : Y = y) (b off n ca : Nat) (w : World)
    (hk : 3 * (y * W + x) + 3 ≤ n) (hn : n ≤ 12288) (hca : n ≤ ca) (hca2 : ca ≤ 9223372036854775807) :
    Calls Try.prog 68 #[.agg #[.int .i64 W, .int .i64 H, .slice (some ⟨b, off, none⟩) n ca], .int .i64 X, .int .i64 Y] w fun e w' => e = .returned (.slice (some ⟨b, off + 3 * (y * W + x), none⟩) 3 (ca - 3 * (y * W + x))) ∧ Below w.heap.size w w' := by
  subst hX hY
  exact pixel_is W H x y b off n ca w hk hn hca hca2
theorem news3 {w : World} {b off n : Nat} {px : Nat → Int} (h : ∀ i, i < n → w.cell? ⟨b, off + i, none⟩ = some (.int .u8 (px i))) {k : Nat} (hk : k + 3 ≤ n) :
    ∀ j u, [Value.int .u8 (px k), .int .u8 (px (k + 1)), .int .u8 (px (k + 2))][j]? = some u → w.cell? ((⟨b, off + k, none⟩ : Addr).add j) = some u := by
  intro j u hu
  have hadd : (⟨b, off + k, none⟩ : Addr).add j = ⟨b, off + (k + j), none⟩ := by unfold Addr.add; split <;> simp_all [Nat.add_assoc]
  rw [hadd]
  match j, hu with
  | 0, hu => simp at hu; subst hu; exact h k (by omega)
  | 1, hu => simp at hu; subst hu; exact h (k + 1) (by omega)
  | 2, hu => simp at hu; subst hu; exact h (k + 2) (by omega)
  | j + 3, hu => simp at hu
set_option maxRecDepth 100000 in
set_option maxHeartbeats 2000000 in
theorem cropped_is (W H x y cw ch : Nat) (a : Option Addr) (ca : Nat) (px : Nat → Int) (w : World) (hW : 1 ≤ W ∧ W ≤ 64 ∧ 1 ≤ H ∧ H ≤ 64) (hr : Row w a (3 * (H * W)) (fun i => .int .u8 (px i)))
    (hca : 3 * (H * W) ≤ ca) (hca2 : ca ≤ 9223372036854775807) (h1 : 1 ≤ cw) (h2 : 1 ≤ ch) (hx : x + cw ≤ W) (hy : y + ch ≤ H) :
    Calls Try.prog 18 #[.agg #[.int .i64 W, .int .i64 H, .slice a (3 * (H * W)) ca], .int .i64 x, .int .i64 y, .int .i64 cw, .int .i64 ch] w fun e w' => ∃ g cap, e = .returned (.agg #[.int .i64 cw, .int .i64 ch, .slice (some ⟨g, 0, none⟩) (3 * (ch * cw)) cap]) ∧ 3 * (ch * cw) ≤ cap ∧ cap ≤ maxLen ∧
      w'.ownsRow (w.heap.size + 3) 5 1 (.slice (some ⟨g, 0, none⟩) (3 * (ch * cw)) cap) (3 * (ch * cw)) (bytes (3 * (ch * cw)) (Im.content cw (fun i k c => Im.pix px W (x + i) (y + k) c))) ∧ Below w.heap.size w w' := by
  have hWH : H * W ≤ 4096 := Nat.mul_le_mul hW.2.2.2 hW.2.1
  have hWH1 : 1 ≤ H * W := Nat.mul_le_mul (show 1 ≤ H from hW.2.2.1) hW.1
  have hc2 : ch * cw ≤ 4096 := Nat.mul_le_mul (by omega : ch ≤ 64) (by omega : cw ≤ 64)
  obtain ⟨b0, off0, rfl, hb0, hc0⟩ := hr (by omega)
  have HC := Lib.hid hc0; clear hc0 hr
  obtain ⟨f, hf⟩ : ∃ f, Im.content cw (fun i k c => Im.pix px W (x + i) (y + k) c) = f := ⟨_, rfl⟩
  rw [hf]
  have hfat : ∀ i k c, i < cw → c < 3 → f (3 * (k * cw + i) + c) = Im.pix px W (x + i) (y + k) c := fun i k c h1 h2 => by rw [← hf]; exact Im.content_at _ _ _ _ _ h1 h2
  have HF := Lib.hid hfat; clear hfat hf
  obtain ⟨i0, hi0, hz0, hz1, hz2⟩ := info_parts infoByte2
  have HI0 := Lib.hid hi0; have HI1 := Lib.hid hz0; have HI2 := Lib.hid hz1; have HI3 := Lib.hid hz2
  clear hi0 hz0 hz1 hz2
  -- .int .i64 W, .int .i64 H, .slice (some ⟨b0, off0, none⟩) (3 * (H * W)) ca: the image's fields; the parameter's box and the result's box (a zero image) under names
  obtain ⟨W1, HW1, hP, hs1, hB1⟩ := box w #[.int .i64 W, .int .i64 H, .slice (some ⟨b0, off0, none⟩) (3 * (H * W)) ca] 24
  obtain ⟨W2, HW2, hR, hs2, hB2⟩ := box W1 #[.int .i64 0, .int .i64 0, .slice none 0 0] 24
  have hP := hP.keep hB2
  rw [hs1] at hR hs2
  have hB12 := below_up hB1 hB2
  have H1 := Lib.hid HW1; have H2 := Lib.hid HW2; clear HW1 HW2 hB1 hB2 hs1
  obtain ⟨w3, HW3, hO3, hs3, hB3⟩ := box W2 #[.int .i64 cw, .int .i64 ch, .slice none 0 0] 24
  have hs2' : W2.heap.size = w.heap.size + 2 := by omega
  rw [hs2'] at hO3
  have hG : Grow w w3 (.int .i64 W) (.int .i64 H) (.slice (some ⟨b0, off0, none⟩) (3 * (H * W)) ca) (.int .i64 cw) (.int .i64 ch) (.slice none 0 0) 0 f :=
    ⟨hP.keep hB3, hR.keep hB3, hO3, ⟨by simp [bytes], .inl ⟨rfl, rfl⟩⟩, below_up hB12 hB3⟩
  have H3 := Lib.hid HW3; clear HW3
  go_enter Try.func18, Try.ntmps18
  go_wp2_with fail
  rw [H1.out, H2.out, H3.out]
  clear H1 H2 H3 hO3 hP hR hB3 hB12 hs2 hs2' hs3
  go_loopg [18] ch (fun gk v wr => ∃ (j : Nat) (vv : Value), j ≤ ch ∧ gk = ch - j ∧ v = .int .i64 j ∧ Grow w wr (.int .i64 W) (.int .i64 H) (.slice (some ⟨b0, off0, none⟩) (3 * (H * W)) ca) (.int .i64 cw) (.int .i64 ch) vv (3 * (j * cw)) f)
  case atStart => exact ⟨0, _, by omega, rfl, rfl, hG.cast (by simp)⟩
  case round =>
    clear hG
    obtain ⟨j, v1, hj, rfl, rfl, hG⟩ := hrel
    by_cases hlt : j < ch
    · go_wp2_with fail
      go_loopg [22] cw (fun gk v wr => ∃ (i : Nat) (vv : Value), i ≤ cw ∧ gk = cw - i ∧ v = .int .i64 i ∧ Grow w wr (.int .i64 W) (.int .i64 H) (.slice (some ⟨b0, off0, none⟩) (3 * (H * W)) ca) (.int .i64 cw) (.int .i64 ch) vv (3 * (j * cw + i)) f)
      case atStart => exact ⟨0, _, by omega, rfl, rfl, hG⟩
      case round =>
        clear hG
        obtain ⟨i, v2, hi, rfl, rfl, hG⟩ := hrel
        by_cases hlt2 : i < cw
        · have hS := hG.six
          have hpl := Im.place_lt cw ch i j hlt2 hlt
          have hpl2 := Im.place_lt W H (x + i) (y + j) (by omega) (by omega)
          have hF0 := HF.out i j 0 hlt2 (by omega)
          have hF1 := HF.out i j 1 hlt2 (by omega)
          have hF2 := HF.out i j 2 hlt2 (by omega)
          have HHF := Lib.hid (And.intro hF0 (And.intro hF1 hF2)); clear hF0 hF1 hF2
          go_wp2_with fail
          obtain ⟨p0, p1, p2, o0, o1, o2⟩ := hS
          have e0 : f (3 * (j * cw + i)) = px (3 * ((y + j) * W + (x + i))) := HHF.out.1
          have e1 : f (3 * (j * cw + i) + 1) = px (3 * ((y + j) * W + (x + i)) + 1) := HHF.out.2.1
          have e2 : f (3 * (j * cw + i) + 2) = px (3 * ((y + j) * W + (x + i)) + 2) := HHF.out.2.2
          have hby3 := Lib.hid (bytes_more _ _ _ _ _ e0 e1 e2); clear e0 e1 e2
          have hmx : 3 * (j * cw + i) + 3 ≤ maxLen := by unfold maxLen; omega
          have hby : (3 * (j * cw + i) + 3) * 1 ≤ 140737488355328 := by omega
          have hk3 : 3 * ((y + j) * W + (x + i)) + 3 ≤ 3 * (H * W) := by omega
          have H3p : Hid ((0 : Nat) < 3) := by show (0 : Nat) < 3; omega
          go_region_law (first
              | (refine step_append_lies _ (by rfl) _ _ _ (by rfl) (w.heap.size + 3) 5 i0 (.int .u8 0) 1 1 Try.underlying22 HI0.out HI1.out HI2.out HI3.out rfl (by decide) v2 (3 * (j * cw + i)) (bytes (3 * (j * cw + i)) f) (by rfl) hG4.own ⟨b0, off0 + 3 * ((y + j) * W + (x + i)), none⟩ 3 (ca - 3 * ((y + j) * W + (x + i)))
                  [.int .u8 (px (3 * ((y + j) * W + (x + i)))), .int .u8 (px (3 * ((y + j) * W + (x + i)) + 1)), .int .u8 (px (3 * ((y + j) * W + (x + i)) + 2))] (by rfl) (by rfl) (news3 (fun i hi => (hG4.bel.cell (p := ⟨b0, off0 + i, none⟩) hb0).trans (HC.out i hi)) hk3) (by simp [Value.oneCell']) H3p.out hmx hby hG4.big _ rfl ?_
                 intro gg cap w5 hown5 hgrow5 hat5 hlt5
                 have hG5 := hG4.out.grown hgrow5 (hG4.own_ne _ (by omega)); have hf5 := hG5.free; obtain ⟨y0, y1, y2⟩ := hG5.three)
              | (go_simp; refine (pixel_int W H (x + i) (y + j) _ _ (by rw [IntKind.wrap_i64]; omega) (by rw [IntKind.wrap_i64]; omega) b0 off0 (3 * (H * W)) ca _ (by omega) (by omega) hca hca2).mono ?_; rintro e w4 ⟨rfl, hB4⟩; have hG4 := hG.drew.keep hB4; obtain ⟨q0, q1, q2, z0, z1, z2⟩ := hG4.six))
          all_goals
            have hG6 := hG4.more hgrow5 (hby3.out ▸ hown5)
            go_wp2_with fail
            go_roundg (cw - (i + 1))
            case rel => exact ⟨i + 1, _, by omega, rfl, by go_num, hG6.cast (by omega)⟩
            case measure => omega
        · obtain rfl : i = cw := by omega
          go_wp2_with fail
          go_roundg (ch - (j + 1))
          case rel => exact ⟨j + 1, _, by omega, rfl, by go_num, hG.cast (by rw [Nat.add_mul]; omega)⟩
          case measure => omega
    · obtain rfl : j = ch := by omega
      have hcc1 : 1 ≤ j * cw := Nat.mul_le_mul h2 h1
      obtain ⟨g, cap, rfl, hcap1, hcap2⟩ := hG.form (by omega)
      obtain ⟨p0, p1, p2, o0, o1, o2⟩ := hG.six
      have hFr := hG.res.free
      obtain ⟨r0, r1, r2⟩ := hG.res.three
      go_wp2_with fail
      have hend := hG.ret (.int .i64 cw) (.int .i64 j) (.slice (some ⟨g, 0, none⟩) (3 * (j * cw)) cap)
      exact bodyPost_ret (v := .agg #[.int .i64 cw, .int .i64 j, .slice (some ⟨g, 0, none⟩) (3 * (j * cw)) cap]) (by simp [results, Try.results18, go_sem, r0, r1, r2]) rfl ⟨_, _, rfl, hcap1, hcap2, hend.1, hend.2⟩
end Go.Proofs.Ytkebkbjkapfgkaa
