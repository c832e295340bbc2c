/- turned: the image turned. -/
import Derived.Test.YtkebkbjkapfgkaaPixTab
namespace Go.Proofs.Ytkebkbjkapfgkaa
open Go.RowKit Go.Sort Go.Shelf
set_option linter.unusedVariables false
attribute [local go_sem ↓] Go.wp_at_zero Go.wp_at_succ
set_option maxRecDepth 100000 in
set_option maxHeartbeats 4000000 in
theorem turned_is (t W H : Nat) (a : Option Addr) (ca : Nat) (px : Nat → Int) (w : World) (ht : 1 ≤ t ∧ t ≤ 8) (hW : 1 ≤ W ∧ W ≤ 64 ∧ 1 ≤ H ∧ H ≤ 64) (hr : Row w a (3 * (H * W)) (fun i => .int .u8 (px i)))
    (hca : 3 * (H * W) ≤ ca) (hca2 : ca ≤ 9223372036854775807) :
    Calls Try.prog 70 #[.agg #[.int .i64 W, .int .i64 H, .slice a (3 * (H * W)) ca], .int .i64 t] w (ImgPost w (Im.sw t W H) (Im.sh t W H) (3 * (H * W)) (Im.turnOf t W H px)) := by
  have hWH : H * W ≤ 4096 := Nat.mul_le_mul hW.2.2.2 hW.2.1
  have hWH1 : 1 ≤ H * W := Nat.mul_le_mul (show 1 ≤ H from hW.2.2.1) hW.1
  obtain ⟨b0, off0, rfl, hb0, hc0⟩ := hr (by omega)
  have HC := Lib.hid hc0; clear hc0 hr
  have hsb := Im.s_bd (t := t) hW
  have hmul := Im.s_mul t W H
  have hlt : ∀ x y, x < Im.sw t W H → y < Im.sh t W H → Im.tx t W x y < W ∧ Im.ty t H x y < H := fun x y h1 h2 => Im.t_lt ht h1 h2
  have hfr := fun V x y h1 h2 => fromF_is t W H x y V ht hW.2.1 hW.2.2.2 h1 h2
  have heg := fromF_eg t ht
  have htab := fun V => tab_index t V ht
  have hsd := fun V => sides_is t W H V ht
  obtain ⟨f, hf⟩ : ∃ f, Im.turnOf t W H px = f := ⟨_, rfl⟩
  have hfat : ∀ x y c, x < Im.sw t W H → c < 3 → f (3 * (y * Im.sw t W H + x) + c) = Im.pix px W (Im.tx t W x y) (Im.ty t H x y) c := fun x y c h1 h2 => by rw [← hf]; exact Im.content_at _ _ _ _ _ h1 h2
  rw [hf]
  clear hf
  generalize Im.sw t W H = cw at *
  generalize Im.sh t W H = ch at *
  generalize Im.tx t W = tx at *
  generalize Im.ty t H = ty at *
  generalize fromF t = F at *
  have htn := turnings_is
  have hfd := fun b V => tab_field0 F b V
  generalize turnTab = tab at *
  generalize decide (5 ≤ t) = side at *
  have HF := Lib.hid hfat; have HL := Lib.hid hlt; have HFR := Lib.hid hfr; have HSD := Lib.hid hsd; have HTN := Lib.hid htn; have HM := Lib.hid hmul
  have hbl := fun V => blank_is cw ch V hsb.1 hsb.2.1 hsb.2.2.1 hsb.2.2.2
  simp only [hmul] at hbl
  have HBL := Lib.hid hbl
  have hle : ch * cw ≤ H * W := Nat.le_of_eq hmul
  clear hfat hlt hfr hsd htn hmul hbl
  -- .int .i64 W, .int .i64 H, .slice (some ⟨b0, off0, none⟩) (3 * (H * W)) ca: the image's fields; the parameter's box and the result's box (a zero image) under names
  obtain ⟨W1, HW1, hP, hs1, hB1⟩ := box w #[.int .i64 W, .int .i64 H, .slice (some ⟨b0, off0, none⟩) (3 * (H * W)) ca] 24
  obtain ⟨W2, HW2, hR, hs2, hB2⟩ := box W1 #[.int .i64 0, .int .i64 0, .slice none 0 0] 24
  have hP := hP.keep hB2
  rw [hs1] at hR hs2
  have hB12 := below_up hB1 hB2
  have H1 := Lib.hid HW1; have H2 := Lib.hid HW2; clear HW1 HW2 hB1 hB2 hs1
  go_enter Try.func70, Try.ntmps70
  go_wp2_with (first
    | (go_at_call 87; rw [H1.out, H2.out]; refine (HSD.out _).mono ?_; rintro e w1 ⟨rfl, hB⟩)
    | (go_at_call 64; refine (HBL.out _).mono ?_; rintro e w2 ⟨b, rfl, hbb, hO, hB2⟩)
    | (go_at_call 88; refine (HTN.out _).mono ?_; rintro e w3 ⟨rfl, hB3⟩; have hO3 := (Blk.new w2 #[.int .i64 cw, .int .i64 ch, .slice (some ⟨b, 0, none⟩) (3 * (H * W)) (3 * (H * W))] 24).keep hB3; obtain ⟨z0, z1, z2⟩ := hO3.three))
  have hbl := hO.lt
  have hw1 : w.heap.size + 2 ≤ w1.heap.size := by have := hB.size; omega
  have hB23 := below_up (below_allocs hB2 (.cells #[.int .i64 cw, .int .i64 ch, .slice (some ⟨b, 0, none⟩) (3 * (H * W)) (3 * (H * W))] 24)) hB3
  have hB13 := below_up hB hB23
  have hF : Fill w w3 (.int .i64 W) (.int .i64 H) (.slice (some ⟨b0, off0, none⟩) (3 * (H * W)) ca) (.int .i64 cw) (.int .i64 ch) (.slice (some ⟨b, 0, none⟩) (3 * (H * W)) (3 * (H * W))) w2.heap.size b (3 * (H * W)) 0 f :=
    ⟨hP.keep hB13, hR.keep hB13, hO3, by rw [Im.mk_zero]; exact Blk.keep hO (below_up (below_allocs (Below.refl _ _) _) hB3), below_up hB12 hB13, hbl, by omega⟩
  obtain ⟨o, ho⟩ : ∃ o, o = w2.heap.size := ⟨_, rfl⟩
  rw [← ho] at hF ⊢
  clear hO3 hO hP hR hB hB2 hB3 hB13 hB23 ho H1 H2 hB12 hs2 z0 z1 z2 htab hfd HTN HBL HSD hbb hbl hw1
  go_loopg [26] ch (fun gk v wr => ∃ j : Nat, j ≤ ch ∧ gk = ch - j ∧ v = .int .i64 j ∧ Fill w wr (.int .i64 W) (.int .i64 H) (.slice (some ⟨b0, off0, none⟩) (3 * (H * W)) ca) (.int .i64 cw) (.int .i64 ch) (.slice (some ⟨b, 0, none⟩) (3 * (H * W)) (3 * (H * W))) o b (3 * (H * W)) (3 * (j * cw)) f)
  case atStart => exact ⟨0, by omega, rfl, rfl, hF.cast (by simp)⟩
  case round =>
    clear hF
    obtain ⟨j, hj, rfl, rfl, hF⟩ := hrel
    obtain ⟨p0, p1, p2, o0, o1, o2⟩ := hF.six
    by_cases hlt : j < ch
    · go_wp2_with fail
      clear p0 p1 p2 o0 o1 o2
      go_loopg [31] cw (fun gk v wr => ∃ i : Nat, i ≤ cw ∧ gk = cw - i ∧ v = .int .i64 i ∧ Fill w wr (.int .i64 W) (.int .i64 H) (.slice (some ⟨b0, off0, none⟩) (3 * (H * W)) ca) (.int .i64 cw) (.int .i64 ch) (.slice (some ⟨b, 0, none⟩) (3 * (H * W)) (3 * (H * W))) o b (3 * (H * W)) (3 * (j * cw + i)) f)
      case atStart => exact ⟨0, by omega, rfl, rfl, hF⟩
      case round =>
        clear hF
        obtain ⟨i, hi, rfl, rfl, hF⟩ := hrel
        by_cases hlt2 : i < cw
        · obtain ⟨p0, p1, p2, o0, o1, o2⟩ := hF.six
          have hpl := Im.place_lt cw ch i j hlt2 hlt
          obtain ⟨hx2, hy2⟩ := HL.out i j hlt2 hlt
          have hpl2 := Im.place_lt W H (tx i j) (ty i j) hx2 hy2
          have hF0 := HF.out i j 0 hlt2 (by omega)
          have hF1 := HF.out i j 1 hlt2 (by omega)
          have hF2 := HF.out i j 2 hlt2 (by omega)
          have HHF := Lib.hid (And.intro hF0 (And.intro hF1 hF2)); clear hF0 hF1 hF2
          have HFX := Lib.hid (fun V => HFR.out V i j hlt2 hlt)
          generalize tx i j = x at *
          generalize ty i j = y at *
          go_wp2_with (go_at_fn F; refine (HFX.out _).mono ?_; rintro e w4 ⟨rfl, rfl⟩)
          clear p0 p1 p2 o0 o1 o2
          go_region_held3 (fun w' => w'.cell? ⟨w.heap.size, 0, none⟩ = some (.int .i64 W) ∧ w'.cell? ⟨w.heap.size, 1, none⟩ = some (.int .i64 H) ∧ w'.cell? ⟨w.heap.size, 2, none⟩ = some (.slice (some ⟨b0, off0, none⟩) (3 * (H * W)) ca) ∧
              w'.cell? ⟨o, 0, none⟩ = some (.int .i64 cw) ∧ w'.cell? ⟨o, 1, none⟩ = some (.int .i64 ch) ∧ w'.cell? ⟨o, 2, none⟩ = some (.slice (some ⟨b, 0, none⟩) (3 * (H * W)) (3 * (H * W))))
            (first | exact hF.drew.six | exact hFd.six | exact hFe.six)
            (first
              | (go_at_call 66; refine (at_int W H x y _ _ rfl rfl b0 off0 (3 * (H * W)) ca px _ w hb0 HC.out hF.drew.bel (by omega) (by omega) hca hca2).mono ?_; rintro e w4 ⟨rfl, hB4⟩; have hFd := hF.drew.keep hB4)
              | (go_at_call 65; refine (set_is cw ch i j b (3 * (H * W)) _ _ _ _ _ hFd.row (by omega) (by omega)).mono ?_; rintro e w5 ⟨rfl, hO5, hg5⟩; have hFe := hFd.fill hg5 hO5 HHF.out.1 HHF.out.2.1 HHF.out.2.2))
          go_wp2_with fail
          go_roundg (cw - (i + 1))
          case rel => exact ⟨i + 1, by omega, rfl, by go_num, hFe.cast (by omega)⟩
          case measure => omega
        · obtain rfl : i = cw := by omega
          go_wp2_with fail
          go_roundg (ch - (j + 1))
          case rel => exact ⟨j + 1, by omega, rfl, by go_num, hF.cast (by rw [Nat.add_mul]; omega)⟩
          case measure => omega
    · obtain rfl : j = ch := by omega
      have hFr := hF.res.free
      obtain ⟨r0, r1, r2⟩ := hF.res.three
      go_wp2_with fail
      have hF := hF.cast (by rw [HM.out])
      -- tintype/pix.turned: the function; .int .i64 cw .int .i64 j .slice (some ⟨b, 0, none⟩) (3 * (H * W)) (3 * (H * W)): the image's fields; .agg #[.int .i64 cw, .int .i64 j, .slice (some ⟨b, 0, none⟩) (3 * (H * W)) (3 * (H * W))]: the result as a value; the post is ImgPost
      have hBf := ((hF.bel.setCell (p := ⟨w.heap.size + 1, 0, none⟩) (by simp) (.int .i64 cw)).setCell (p := ⟨w.heap.size + 1, 1, none⟩) (by simp) (.int .i64 j)).setCell (p := ⟨w.heap.size + 1, 2, none⟩) (by simp) (.slice (some ⟨b, 0, none⟩) (3 * (H * W)) (3 * (H * W)))
      have hOf := hF.whole
      have hOb := hF.ob
      have hOf := ((Blk.setOther hOf (a := ⟨w.heap.size + 1, 0, none⟩) (by simp; omega) (.int .i64 cw)).setOther (a := ⟨w.heap.size + 1, 1, none⟩) (by simp; omega) (.int .i64 j)).setOther (a := ⟨w.heap.size + 1, 2, none⟩) (by simp; omega) (.slice (some ⟨b, 0, none⟩) (3 * (H * W)) (3 * (H * W)))
      exact bodyPost_ret (v := .agg #[.int .i64 cw, .int .i64 j, .slice (some ⟨b, 0, none⟩) (3 * (H * W)) (3 * (H * W))]) (by simp [results, Try.results70, go_sem, r0, r1, r2]) rfl ⟨_, _, rfl, bytes_of_out hOf, Nat.le_refl _, by omega, hBf⟩
end Go.Proofs.Ytkebkbjkapfgkaa
