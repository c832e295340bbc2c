/- The reference's Turned. -/
import Derived.Test.YtkebkbjkapfgkaaPixTab
namespace Go.Proofs.Ytkebkbjkapfgkaa
open Go.RowKit Go.Sort Go.Shelf
set_option linter.unusedVariables false
attribute [local go_sem ↓] Go.wp_at_zero Go.wp_at_succ
set_option maxRecDepth 100000 in
set_option maxHeartbeats 4000000 in
theorem rturned_low (t W H : Nat) (a : Option Addr) (ca : Nat) (px : Nat → Int) (w : World) (ht : 1 ≤ t ∧ t ≤ 8) (h5 : ¬ 5 ≤ t) (hW : 1 ≤ W ∧ W ≤ 64 ∧ 1 ≤ H ∧ H ≤ 64) (hr : Row w a (3 * (H * W)) (fun i => .int .u8 (px i)))
    (hca : 3 * (H * W) ≤ ca) (hca2 : ca ≤ 9223372036854775807) :
    Calls Try.prog 25 #[.agg #[.int .i64 W, .int .i64 H, .slice a (3 * (H * W)) ca], .int .i64 t] w (ImgPost w (Im.sw t W H) (Im.sh t W H) (3 * (H * W)) (Im.turnOf t W H px)) := by
  have ew : Im.sw t W H = W := by simp [Im.sw, h5]
  have eh : Im.sh t W H = H := by simp [Im.sh, h5]
  have hWH : H * W ≤ 4096 := Nat.mul_le_mul hW.2.2.2 hW.2.1
  have hWH1 : 1 ≤ H * W := Nat.mul_le_mul (show 1 ≤ H from hW.2.2.1) hW.1
  obtain ⟨b0, off0, rfl, hb0, hc0⟩ := hr (by omega)
  have HC := Lib.hid hc0; clear hc0 hr
  have hsb := Im.s_bd (t := t) hW
  have hmul := Im.s_mul t W H
  have hlt : ∀ x y, x < Im.sw t W H → y < Im.sh t W H → Im.tx t W x y < W ∧ Im.ty t H x y < H := fun x y h1 h2 => Im.t_lt ht h1 h2
  have hfr := fun V x y h1 h2 => rfrom_is t W H x y V ht hW.2.1 hW.2.2.2 h1 h2
  obtain ⟨f, hf⟩ : ∃ f, Im.turnOf t W H px = f := ⟨_, rfl⟩
  have hfat : ∀ x y c, x < Im.sw t W H → c < 3 → f (3 * (y * Im.sw t W H + x) + c) = Im.pix px W (Im.tx t W x y) (Im.ty t H x y) c := fun x y c h1 h2 => by rw [← hf]; exact Im.content_at _ _ _ _ _ h1 h2
  rw [hf]
  clear hf
  rw [ew] at hsb hmul hlt hfr hfat ⊢
  rw [eh] at hsb hmul hlt hfr ⊢
  generalize Im.tx t W = tx at *
  generalize Im.ty t H = ty at *
  have HF := Lib.hid hfat; have HL := Lib.hid hlt; have HFR := Lib.hid hfr; have HM := Lib.hid hmul
  have hle : H * W ≤ H * W := Nat.le_of_eq hmul
  clear hfat hlt hfr hmul
  obtain ⟨i0, hi0, hz0, hz1, hz2⟩ := info_parts infoByte2
  have HI0 := Lib.hid hi0; have HI1 := Lib.hid hz0; have HI2 := Lib.hid hz1; have HI3 := Lib.hid hz2
  clear hi0 hz0 hz1 hz2
  -- .int .i64 W, .int .i64 H, .slice (some ⟨b0, off0, none⟩) (3 * (H * W)) ca: the image's fields; the parameter's box and the result's box (a zero image) under names
  obtain ⟨W1, HW1, hP, hs1, hB1⟩ := box w #[.int .i64 W, .int .i64 H, .slice (some ⟨b0, off0, none⟩) (3 * (H * W)) ca] 24
  obtain ⟨W2, HW2, hR, hs2, hB2⟩ := box W1 #[.int .i64 0, .int .i64 0, .slice none 0 0] 24
  have hP := hP.keep hB2
  rw [hs1] at hR hs2
  have hB12 := below_up hB1 hB2
  have H1 := Lib.hid HW1; have H2 := Lib.hid HW2; clear HW1 HW2 hB1 hB2 hs1
  have hs2' : W2.heap.size = w.heap.size + 2 := by omega
  clear ew eh
  obtain ⟨w3, HW3, hO3, hs3, hB3⟩ := box W2 #[.int .i64 W, .int .i64 H, .slice none 0 0] 24
  rw [hs2'] at hO3
  have hG : Grow w w3 (.int .i64 W) (.int .i64 H) (.slice (some ⟨b0, off0, none⟩) (3 * (H * W)) ca) (.int .i64 W) (.int .i64 H) (.slice none 0 0) 0 f :=
    ⟨hP.keep hB3, hR.keep hB3, hO3, ⟨by simp [bytes], .inl ⟨rfl, rfl⟩⟩, below_up hB12 hB3⟩
  have H3 := Lib.hid HW3; clear HW3
  obtain ⟨p0, p1, p2, o0, o1, o2⟩ := hG.six
  go_enter Try.func25, Try.ntmps25
  go_wp2_with fail
  try rw [H1.out, H2.out, H3.out]
  go_wp2_with fail
  clear H1 H2 H3 hO3 hP hR hB3 hB12 hs2 hs2' hs3 p0 p1 p2 o0 o1 o2
  go_loopg [25] H (fun gk v wr => ∃ (j : Nat) (vv : Value), j ≤ H ∧ gk = H - j ∧ v = .int .i64 j ∧ Grow w wr (.int .i64 W) (.int .i64 H) (.slice (some ⟨b0, off0, none⟩) (3 * (H * W)) ca) (.int .i64 W) (.int .i64 H) vv (3 * (j * W)) f)
  case atStart => exact ⟨0, _, by omega, rfl, rfl, hG.cast (by simp)⟩
  case round =>
    clear hG
    obtain ⟨j, v1, hj, rfl, rfl, hG⟩ := hrel
    obtain ⟨p0, p1, p2, o0, o1, o2⟩ := hG.six
    by_cases hlt : j < H
    · go_wp2_with fail
      clear p0 p1 p2 o0 o1 o2
      go_loopg [30] W (fun gk v wr => ∃ (i : Nat) (vv : Value), i ≤ W ∧ gk = W - i ∧ v = .int .i64 i ∧ Grow w wr (.int .i64 W) (.int .i64 H) (.slice (some ⟨b0, off0, none⟩) (3 * (H * W)) ca) (.int .i64 W) (.int .i64 H) vv (3 * (j * W + i)) f)
      case atStart => exact ⟨0, _, by omega, rfl, rfl, hG⟩
      case round =>
        clear hG
        obtain ⟨i, v2, hi, rfl, rfl, hG⟩ := hrel
        by_cases hlt2 : i < W
        · obtain ⟨p0, p1, p2, o0, o1, o2⟩ := hG.six
          have hpl := Im.place_lt W H i j hlt2 hlt
          obtain ⟨hx2, hy2⟩ := HL.out i j hlt2 hlt
          have hpl2 := Im.place_lt W H (tx i j) (ty i j) hx2 hy2
          have hF0 := HF.out i j 0 hlt2 (by omega)
          have hF1 := HF.out i j 1 hlt2 (by omega)
          have hF2 := HF.out i j 2 hlt2 (by omega)
          have HHF := Lib.hid (And.intro hF0 (And.intro hF1 hF2)); clear hF0 hF1 hF2
          have HFX := Lib.hid (fun V => HFR.out V i j hlt2 hlt)
          generalize tx i j = x at *
          generalize ty i j = y at *
          go_wp2_with (go_at_call 72; refine (HFX.out _).mono ?_; rintro e w4 ⟨rfl, rfl⟩)
          have e0 : f (3 * (j * W + i)) = px (3 * (y * W + x)) := HHF.out.1
          have e1 : f (3 * (j * W + i) + 1) = px (3 * (y * W + x) + 1) := HHF.out.2.1
          have e2 : f (3 * (j * W + i) + 2) = px (3 * (y * W + x) + 2) := HHF.out.2.2
          have hby3 := Lib.hid (bytes_more _ _ _ _ _ e0 e1 e2); clear e0 e1 e2
          have hmx : 3 * (j * W + i) + 3 ≤ maxLen := by unfold maxLen; omega
          have hby : (3 * (j * W + i) + 3) * 1 ≤ 140737488355328 := by omega
          have hk3 : 3 * (y * W + x) + 3 ≤ 3 * (H * W) := by omega
          have H3p : Hid ((0 : Nat) < 3) := by show (0 : Nat) < 3; omega
          go_region_law (first
              | (refine step_append_lies _ (by rfl) _ _ _ (by rfl) (w.heap.size + 3) 5 i0 (.int .u8 0) 1 1 Try.underlying22 HI0.out HI1.out HI2.out HI3.out rfl (by decide) v2 (3 * (j * W + i)) (bytes (3 * (j * W + i)) f) (by rfl) hG4.own ⟨b0, off0 + 3 * (y * W + x), none⟩ 3 (ca - 3 * (y * W + x))
                  [.int .u8 (px (3 * (y * W + x))), .int .u8 (px (3 * (y * W + x) + 1)), .int .u8 (px (3 * (y * W + x) + 2))] (by rfl) (by rfl) (news3 (fun i hi => (hG4.bel.cell (p := ⟨b0, off0 + i, none⟩) hb0).trans (HC.out i hi)) hk3) (by simp [Value.oneCell']) H3p.out hmx hby hG4.big _ rfl ?_
                 intro gg cap w5 hown5 hgrow5 hat5 hlt5
                 have hG5 := hG4.out.grown hgrow5 (hG4.own_ne _ (by omega)); have hf5 := hG5.free; obtain ⟨y0, y1, y2⟩ := hG5.three)
              | (go_simp; refine (pixel_int W H x y _ _ rfl rfl b0 off0 (3 * (H * W)) ca _ (by omega) (by omega) hca hca2).mono ?_; rintro e w4 ⟨rfl, hB4⟩; have hG4 := hG.drew.keep hB4; obtain ⟨q0, q1, q2, z0, z1, z2⟩ := hG4.six))
          all_goals
            have hG6 := hG4.more hgrow5 (hby3.out ▸ hown5)
            go_wp2_with fail
            go_roundg (W - (i + 1))
            case rel => exact ⟨i + 1, _, by omega, rfl, by go_num, hG6.cast (by omega)⟩
            case measure => omega
        · obtain rfl : i = W := by omega
          go_wp2_with fail
          go_roundg (H - (j + 1))
          case rel => exact ⟨j + 1, _, by omega, rfl, by go_num, hG.cast (by rw [Nat.add_mul]; omega)⟩
          case measure => omega
    · obtain rfl : H = j := by omega
      have hG := hG.cast (by first | rfl | rw [HM.out])
      obtain ⟨g, cap, rfl, hcap1, hcap2⟩ := hG.form (by omega)
      have hFr := hG.res.free
      obtain ⟨r0, r1, r2⟩ := hG.res.three
      go_wp2_with fail
      have hend := hG.ret (.int .i64 W) (.int .i64 H) (.slice (some ⟨g, 0, none⟩) (3 * (H * W)) cap)
      exact bodyPost_ret (v := .agg #[.int .i64 W, .int .i64 H, .slice (some ⟨g, 0, none⟩) (3 * (H * W)) cap]) (by simp [results, Try.results25, go_sem, r0, r1, r2]) rfl ⟨_, _, rfl, bytes_of_own hend.1, hcap1, by unfold maxLen at hcap2; omega, hend.2⟩
set_option maxRecDepth 100000 in
set_option maxHeartbeats 4000000 in
theorem rturned_high (t W H : Nat) (a : Option Addr) (ca : Nat) (px : Nat → Int) (w : World) (ht : 1 ≤ t ∧ t ≤ 8) (h5 : 5 ≤ t) (hW : 1 ≤ W ∧ W ≤ 64 ∧ 1 ≤ H ∧ H ≤ 64) (hr : Row w a (3 * (H * W)) (fun i => .int .u8 (px i)))
    (hca : 3 * (H * W) ≤ ca) (hca2 : ca ≤ 9223372036854775807) :
    Calls Try.prog 25 #[.agg #[.int .i64 W, .int .i64 H, .slice a (3 * (H * W)) ca], .int .i64 t] w (ImgPost w (Im.sw t W H) (Im.sh t W H) (3 * (H * W)) (Im.turnOf t W H px)) := by
  have ew : Im.sw t W H = H := by simp [Im.sw, h5]
  have eh : Im.sh t W H = W := by simp [Im.sh, h5]
  have hWH : H * W ≤ 4096 := Nat.mul_le_mul hW.2.2.2 hW.2.1
  have hWH1 : 1 ≤ H * W := Nat.mul_le_mul (show 1 ≤ H from hW.2.2.1) hW.1
  obtain ⟨b0, off0, rfl, hb0, hc0⟩ := hr (by omega)
  have HC := Lib.hid hc0; clear hc0 hr
  have hsb := Im.s_bd (t := t) hW
  have hmul := Im.s_mul t W H
  have hlt : ∀ x y, x < Im.sw t W H → y < Im.sh t W H → Im.tx t W x y < W ∧ Im.ty t H x y < H := fun x y h1 h2 => Im.t_lt ht h1 h2
  have hfr := fun V x y h1 h2 => rfrom_is t W H x y V ht hW.2.1 hW.2.2.2 h1 h2
  obtain ⟨f, hf⟩ : ∃ f, Im.turnOf t W H px = f := ⟨_, rfl⟩
  have hfat : ∀ x y c, x < Im.sw t W H → c < 3 → f (3 * (y * Im.sw t W H + x) + c) = Im.pix px W (Im.tx t W x y) (Im.ty t H x y) c := fun x y c h1 h2 => by rw [← hf]; exact Im.content_at _ _ _ _ _ h1 h2
  rw [hf]
  clear hf
  rw [ew] at hsb hmul hlt hfr hfat ⊢
  rw [eh] at hsb hmul hlt hfr ⊢
  generalize Im.tx t W = tx at *
  generalize Im.ty t H = ty at *
  have HF := Lib.hid hfat; have HL := Lib.hid hlt; have HFR := Lib.hid hfr; have HM := Lib.hid hmul
  have hle : W * H ≤ H * W := Nat.le_of_eq hmul
  clear hfat hlt hfr hmul
  obtain ⟨i0, hi0, hz0, hz1, hz2⟩ := info_parts infoByte2
  have HI0 := Lib.hid hi0; have HI1 := Lib.hid hz0; have HI2 := Lib.hid hz1; have HI3 := Lib.hid hz2
  clear hi0 hz0 hz1 hz2
  -- .int .i64 W, .int .i64 H, .slice (some ⟨b0, off0, none⟩) (3 * (H * W)) ca: the image's fields; the parameter's box and the result's box (a zero image) under names
  obtain ⟨W1, HW1, hP, hs1, hB1⟩ := box w #[.int .i64 W, .int .i64 H, .slice (some ⟨b0, off0, none⟩) (3 * (H * W)) ca] 24
  obtain ⟨W2, HW2, hR, hs2, hB2⟩ := box W1 #[.int .i64 0, .int .i64 0, .slice none 0 0] 24
  have hP := hP.keep hB2
  rw [hs1] at hR hs2
  have hB12 := below_up hB1 hB2
  have H1 := Lib.hid HW1; have H2 := Lib.hid HW2; clear HW1 HW2 hB1 hB2 hs1
  have hs2' : W2.heap.size = w.heap.size + 2 := by omega
  clear ew eh
  obtain ⟨w3, HW3, hO3, hs3, hB3⟩ := box W2 #[.int .i64 W, .int .i64 H, .slice none 0 0] 24
  rw [hs2'] at hO3
  have hG : Grow w w3 (.int .i64 W) (.int .i64 H) (.slice (some ⟨b0, off0, none⟩) (3 * (H * W)) ca) (.int .i64 W) (.int .i64 H) (.slice none 0 0) 0 f :=
    ⟨hP.keep hB3, hR.keep hB3, hO3, ⟨by simp [bytes], .inl ⟨rfl, rfl⟩⟩, below_up hB12 hB3⟩
  have H3 := Lib.hid HW3; clear HW3
  obtain ⟨p0, p1, p2, o0, o1, o2⟩ := hG.six
  have hf3 := hO3.free
  go_enter Try.func25, Try.ntmps25
  go_wp2_with fail
  try rw [H1.out, H2.out, H3.out]
  go_wp2_with fail
  go_region
  go_wp2_with fail
  have hG2 : Grow w ((w3.setCell ⟨w.heap.size + 1 + 1, 0, none⟩ (.int .i64 H)).setCell ⟨w.heap.size + 1 + 1, 1, none⟩ (.int .i64 W)).drew (.int .i64 W) (.int .i64 H) (.slice (some ⟨b0, off0, none⟩) (3 * (H * W)) ca) (.int .i64 H) (.int .i64 W) (.slice none 0 0) 0 f :=
    Grow.drew ⟨(hG.par.setOther (by simp; omega) _).setOther (by simp; omega) _, (hG.res.setOther (by simp) _).setOther (by simp) _,
      by have := (hG.out.set 0 (.int .i64 H)).set 1 (.int .i64 W); simpa using this,
      Grow.kept_set (Grow.kept_set hG.own (by simp) _) (by simp) _, (hG.bel.setCell (by simp; omega) _).setCell (by simp; omega) _⟩
  generalize ((w3.setCell ⟨w.heap.size + 1 + 1, 0, none⟩ (.int .i64 H)).setCell ⟨w.heap.size + 1 + 1, 1, none⟩ (.int .i64 W)).drew = w4 at *
  clear H1 H2 H3 hO3 hP hR hB3 hB12 hs2 hs2' hs3 p0 p1 p2 o0 o1 o2 hf3 hG
  have hG := hG2; clear hG2
  go_loopg [25] W (fun gk v wr => ∃ (j : Nat) (vv : Value), j ≤ W ∧ gk = W - j ∧ v = .int .i64 j ∧ Grow w wr (.int .i64 W) (.int .i64 H) (.slice (some ⟨b0, off0, none⟩) (3 * (H * W)) ca) (.int .i64 H) (.int .i64 W) vv (3 * (j * H)) f)
  case atStart => exact ⟨0, _, by omega, rfl, rfl, hG.cast (by simp)⟩
  case round =>
    clear hG
    obtain ⟨j, v1, hj, rfl, rfl, hG⟩ := hrel
    obtain ⟨p0, p1, p2, o0, o1, o2⟩ := hG.six
    by_cases hlt : j < W
    · go_wp2_with fail
      clear p0 p1 p2 o0 o1 o2
      go_loopg [30] H (fun gk v wr => ∃ (i : Nat) (vv : Value), i ≤ H ∧ gk = H - i ∧ v = .int .i64 i ∧ Grow w wr (.int .i64 W) (.int .i64 H) (.slice (some ⟨b0, off0, none⟩) (3 * (H * W)) ca) (.int .i64 H) (.int .i64 W) vv (3 * (j * H + i)) f)
      case atStart => exact ⟨0, _, by omega, rfl, rfl, hG⟩
      case round =>
        clear hG
        obtain ⟨i, v2, hi, rfl, rfl, hG⟩ := hrel
        by_cases hlt2 : i < H
        · obtain ⟨p0, p1, p2, o0, o1, o2⟩ := hG.six
          have hpl := Im.place_lt H W i j hlt2 hlt
          obtain ⟨hx2, hy2⟩ := HL.out i j hlt2 hlt
          have hpl2 := Im.place_lt W H (tx i j) (ty i j) hx2 hy2
          have hF0 := HF.out i j 0 hlt2 (by omega)
          have hF1 := HF.out i j 1 hlt2 (by omega)
          have hF2 := HF.out i j 2 hlt2 (by omega)
          have HHF := Lib.hid (And.intro hF0 (And.intro hF1 hF2)); clear hF0 hF1 hF2
          have HFX := Lib.hid (fun V => HFR.out V i j hlt2 hlt)
          generalize tx i j = x at *
          generalize ty i j = y at *
          go_wp2_with (go_at_call 72; refine (HFX.out _).mono ?_; rintro e w4 ⟨rfl, rfl⟩)
          have e0 : f (3 * (j * H + i)) = px (3 * (y * W + x)) := HHF.out.1
          have e1 : f (3 * (j * H + i) + 1) = px (3 * (y * W + x) + 1) := HHF.out.2.1
          have e2 : f (3 * (j * H + i) + 2) = px (3 * (y * W + x) + 2) := HHF.out.2.2
          have hby3 := Lib.hid (bytes_more _ _ _ _ _ e0 e1 e2); clear e0 e1 e2
          have hmx : 3 * (j * H + i) + 3 ≤ maxLen := by unfold maxLen; omega
          have hby : (3 * (j * H + i) + 3) * 1 ≤ 140737488355328 := by omega
          have hk3 : 3 * (y * W + x) + 3 ≤ 3 * (H * W) := by omega
          have H3p : Hid ((0 : Nat) < 3) := by show (0 : Nat) < 3; omega
          go_region_law (first
              | (refine step_append_lies _ (by rfl) _ _ _ (by rfl) (w.heap.size + 3) 5 i0 (.int .u8 0) 1 1 Try.underlying22 HI0.out HI1.out HI2.out HI3.out rfl (by decide) v2 (3 * (j * H + i)) (bytes (3 * (j * H + i)) f) (by rfl) hG4.own ⟨b0, off0 + 3 * (y * W + x), none⟩ 3 (ca - 3 * (y * W + x))
                  [.int .u8 (px (3 * (y * W + x))), .int .u8 (px (3 * (y * W + x) + 1)), .int .u8 (px (3 * (y * W + x) + 2))] (by rfl) (by rfl) (news3 (fun i hi => (hG4.bel.cell (p := ⟨b0, off0 + i, none⟩) hb0).trans (HC.out i hi)) hk3) (by simp [Value.oneCell']) H3p.out hmx hby hG4.big _ rfl ?_
                 intro gg cap w5 hown5 hgrow5 hat5 hlt5
                 have hG5 := hG4.out.grown hgrow5 (hG4.own_ne _ (by omega)); have hf5 := hG5.free; obtain ⟨y0, y1, y2⟩ := hG5.three)
              | (go_simp; refine (pixel_int W H x y _ _ rfl rfl b0 off0 (3 * (H * W)) ca _ (by omega) (by omega) hca hca2).mono ?_; rintro e w4 ⟨rfl, hB4⟩; have hG4 := hG.drew.keep hB4; obtain ⟨q0, q1, q2, z0, z1, z2⟩ := hG4.six))
          all_goals
            have hG6 := hG4.more hgrow5 (hby3.out ▸ hown5)
            go_wp2_with fail
            go_roundg (H - (i + 1))
            case rel => exact ⟨i + 1, _, by omega, rfl, by go_num, hG6.cast (by omega)⟩
            case measure => omega
        · obtain rfl : i = H := by omega
          go_wp2_with fail
          go_roundg (W - (j + 1))
          case rel => exact ⟨j + 1, _, by omega, rfl, by go_num, hG.cast (by rw [Nat.add_mul]; omega)⟩
          case measure => omega
    · obtain rfl : W = j := by omega
      have hG := hG.cast (by rw [HM.out])
      obtain ⟨g, cap, rfl, hcap1, hcap2⟩ := hG.form (by omega)
      have hFr := hG.res.free
      obtain ⟨r0, r1, r2⟩ := hG.res.three
      go_wp2_with fail
      have hend := hG.ret (.int .i64 H) (.int .i64 W) (.slice (some ⟨g, 0, none⟩) (3 * (H * W)) cap)
      exact bodyPost_ret (v := .agg #[.int .i64 H, .int .i64 W, .slice (some ⟨g, 0, none⟩) (3 * (H * W)) cap]) (by simp [results, Try.results25, go_sem, r0, r1, r2]) rfl ⟨_, _, rfl, bytes_of_own hend.1, hcap1, by unfold maxLen at hcap2; omega, hend.2⟩
theorem rturned_is (t W H : Nat) (a : Option Addr) (ca : Nat) (px : Nat → Int) (w : World) (ht : 1 ≤ t ∧ t ≤ 8) (hW : 1 ≤ W ∧ W ≤ 64 ∧ 1 ≤ H ∧ H ≤ 64) (hr : Row w a (3 * (H * W)) (fun i => .int .u8 (px i)))
    (hca : 3 * (H * W) ≤ ca) (hca2 : ca ≤ 9223372036854775807) :
    Calls Try.prog 25 #[.agg #[.int .i64 W, .int .i64 H, .slice a (3 * (H * W)) ca], .int .i64 t] w (ImgPost w (Im.sw t W H) (Im.sh t W H) (3 * (H * W)) (Im.turnOf t W H px)) := by
  by_cases h5 : 5 ≤ t
  · exact rturned_high t W H a ca px w ht h5 hW hr hca hca2
  · exact rturned_low t W H a ca px w ht h5 hW hr hca hca2
end Go.Proofs.Ytkebkbjkapfgkaa
