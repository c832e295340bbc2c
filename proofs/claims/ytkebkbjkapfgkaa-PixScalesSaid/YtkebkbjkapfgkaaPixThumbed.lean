/- The reference's Thumbed. -/
import Derived.Test.YtkebkbjkapfgkaaPixThumb
namespace Go.Proofs.Ytkebkbjkapfgkaa
open Go.RowKit Go.Sort Go.Shelf
set_option linter.unusedVariables false
attribute [local go_sem ↓] Go.wp_at_zero Go.wp_at_succ
theorem cropped_all (W H : Nat) (a : Option Addr) (ca : Nat) (px : Nat → Int) (w : World) (hW : 1 ≤ W ∧ W ≤ 64 ∧ 1 ≤ H ∧ H ≤ 64) (hr : Bytes w a (3 * (H * W)) px)
    (hca : 3 * (H * W) ≤ ca) (hca2 : ca ≤ 9223372036854775807) :
    Calls Try.prog 18 #[.agg #[.int .i64 W, .int .i64 H, .slice a (3 * (H * W)) ca], .int .i64 0, .int .i64 0, .int .i64 W, .int .i64 H] w (ImgPost w W H (3 * (H * W)) px) := by
  have h := cropped_is W H 0 0 W H a ca px w hW hr hca hca2 hW.1 hW.2.2.1 (by omega) (by omega)
  refine Calls.mono h fun e w' ⟨g, cap, h1, h2, h3, h4, h5⟩ => ⟨_, _, h1, (bytes_of_own h4).congr fun i _ => ?_, h2, by unfold maxLen at h3; omega, h5⟩
  simp only [Nat.zero_add]; exact Im.content_self W px i
set_option maxHeartbeats 4000000 in
theorem thumbed_small (W H most : Nat) (a : Option Addr) (ca : Nat) (px : Nat → Int) (w : World) (hW : 1 ≤ W ∧ W ≤ 64 ∧ 1 ≤ H ∧ H ≤ 64) (hm : 1 ≤ most ∧ most ≤ 64) (hl : W ≤ most ∧ H ≤ most) (hr : Bytes w a (3 * (H * W)) px)
    (hca : 3 * (H * W) ≤ ca) (hca2 : ca ≤ 9223372036854775807) :
    Calls Try.prog 36 #[.agg #[.int .i64 W, .int .i64 H, .slice a (3 * (H * W)) ca], .int .i64 most] w (ImgPost w W H (3 * (H * W)) px) := by
  have HTR := Lib.hid (fun V (hV : Below w.heap.size w V) => cropped_all W H a ca px V hW (hr.keep hV) hca hca2)
  have hWH : H * W ≤ 4096 := Nat.mul_le_mul hW.2.2.2 hW.2.1
  generalize 3 * (H * W) = N at *
  clear hr
  -- .int .i64 W, .int .i64 H, .slice a N ca: the image's fields; the parameter's box and the result's box (a zero image) under names
  obtain ⟨W1, HW1, hP, hs1, hB1⟩ := box w #[.int .i64 W, .int .i64 H, .slice a N ca] 24
  obtain ⟨W2, HW2, hR, hs2, hB2⟩ := box W1 #[.int .i64 0, .int .i64 0, .slice none 0 0] 24
  have hP := hP.keep hB2
  rw [hs1] at hR hs2
  have hB12 := below_up hB1 hB2
  have H1 := Lib.hid HW1; have H2 := Lib.hid HW2; clear HW1 HW2 hB1 hB2 hs1
  have hF := hR.free
  obtain ⟨r0, r1, r2⟩ := hR.three
  obtain ⟨p0, p1, p2⟩ := hP.three
  by_cases hwh : W < H
  · have hmax : max (W : Int) (H : Int) = (H : Int) := by omega
    have hdec : decide ((W : Int) < (H : Int)) = true := by simp; omega
    go_enter Try.func36, Try.ntmps36
    go_wp2_with (go_at_call 18; rw [H1.out, H2.out]; refine (HTR.out _ hB12).mono ?_; rintro e w2 ⟨a2, ca2, rfl, hb2, hc2, hd2, hB2⟩; have hR2 := hR.keep hB2; have hF2 := hR2.free; obtain ⟨r0, r1, r2⟩ := hR2.three)
    have hB1 := hB12
    have hBf := (((below_up hB1 hB2).setCell (p := ⟨w.heap.size + 1, 0, none⟩) (by simp) (.int .i64 W)).setCell (p := ⟨w.heap.size + 1, 1, none⟩) (by simp) (.int .i64 H)).setCell (p := ⟨w.heap.size + 1, 2, none⟩) (by simp) (.slice a2 N ca2)
    exact bodyPost_ret (v := .agg #[.int .i64 W, .int .i64 H, .slice a2 N ca2]) (by simp [results, Try.results36, go_sem, r0, r1, r2]) rfl ⟨_, _, rfl, Bytes.fields hR2 hb2 _ _ _, hc2, hd2, hBf⟩
  · have hmax : max (W : Int) (H : Int) = (W : Int) := by omega
    have hdec : decide ((W : Int) < (H : Int)) = false := by simp; omega
    go_enter Try.func36, Try.ntmps36
    go_wp2_with (go_at_call 18; rw [H1.out, H2.out]; refine (HTR.out _ hB12).mono ?_; rintro e w2 ⟨a2, ca2, rfl, hb2, hc2, hd2, hB2⟩; have hR2 := hR.keep hB2; have hF2 := hR2.free; obtain ⟨r0, r1, r2⟩ := hR2.three)
    have hB1 := hB12
    have hBf := (((below_up hB1 hB2).setCell (p := ⟨w.heap.size + 1, 0, none⟩) (by simp) (.int .i64 W)).setCell (p := ⟨w.heap.size + 1, 1, none⟩) (by simp) (.int .i64 H)).setCell (p := ⟨w.heap.size + 1, 2, none⟩) (by simp) (.slice a2 N ca2)
    exact bodyPost_ret (v := .agg #[.int .i64 W, .int .i64 H, .slice a2 N ca2]) (by simp [results, Try.results36, go_sem, r0, r1, r2]) rfl ⟨_, _, rfl, Bytes.fields hR2 hb2 _ _ _, hc2, hd2, hBf⟩
set_option maxHeartbeats 4000000 in
theorem thumbed_big (W H most : Nat) (a : Option Addr) (ca : Nat) (px : Nat → Int) (w : World) (hW : 1 ≤ W ∧ W ≤ 64 ∧ 1 ≤ H ∧ H ≤ 64) (hm : 1 ≤ most ∧ most ≤ 64) (hl : ¬ (W ≤ most ∧ H ≤ most)) (hr : Bytes w a (3 * (H * W)) px)
    (hca : 3 * (H * W) ≤ ca) (hca2 : ca ≤ 9223372036854775807) (hpx : ∀ i, 0 ≤ px i ∧ px i ≤ 255) :
    Calls Try.prog 36 #[.agg #[.int .i64 W, .int .i64 H, .slice a (3 * (H * W)) ca], .int .i64 most] w (ImgPost w (Im.thW W H most) (Im.thW H W most) (3 * (Im.thW H W most * Im.thW W H most)) (Im.scOf W H px (Im.thW W H most) (Im.thW H W most))) := by
  have hb1 := Im.th_bd hW hm
  have hb2 := Im.th_bd (W := H) (H := W) ⟨hW.2.2.1, hW.2.2.2, hW.1, hW.2.1⟩ hm
  have HTR := Lib.hid (fun V X Y hX hY (hV : Below w.heap.size w V) => rscaled_int W H (Im.thW W H most) (Im.thW H W most) X Y hX hY a ca px V hW ⟨hb1.1, hb1.2, hb2.1, hb2.2⟩ (hr.keep hV) hca hca2 hpx)
  have hWH : H * W ≤ 4096 := Nat.mul_le_mul hW.2.2.2 hW.2.1
  by_cases hwh : W < H
  · have hmax : max (W : Int) (H : Int) = (H : Int) := by omega
    have hdec : decide ((W : Int) < (H : Int)) = true := by simp; omega
    -- H: the longer side
    have hmw := Nat.mul_le_mul hW.2.1 hm.2
    have hmh := Nat.mul_le_mul hW.2.2.2 hm.2
    obtain ⟨A, hA⟩ : ∃ A, W * most = A := ⟨_, rfl⟩
    obtain ⟨B, hB0⟩ : ∃ B, H * most = B := ⟨_, rfl⟩
    have gA : (W : Int) * (most : Int) = (A : Int) := by rw [← hA]; simp
    have gB : (H : Int) * (most : Int) = (B : Int) := by rw [← hB0]; simp
    have hA2 : A ≤ 4096 := by rw [← hA]; exact hmw
    have hB02 : B ≤ 4096 := by rw [← hB0]; exact hmh
    have hmx : max W H = H := by omega
    have hdA : A / H ≤ 4096 := Nat.le_trans (Nat.div_le_self _ _) hA2
    have hdB : B / H ≤ 4096 := Nat.le_trans (Nat.div_le_self _ _) hB02
    have q5 : (A : Int).tdiv (H : Int) = ((A / H : Nat) : Int) := by rw [Int.tdiv_eq_ediv_of_nonneg (by omega)]; simp
    have q6 : (B : Int).tdiv (H : Int) = ((B / H : Nat) : Int) := by rw [Int.tdiv_eq_ediv_of_nonneg (by omega)]; simp
    obtain ⟨DA, hDA⟩ : ∃ D, A / H = D := ⟨_, rfl⟩
    obtain ⟨DB, hDB⟩ : ∃ D, B / H = D := ⟨_, rfl⟩
    have GX : Hid (∀ X : Int, X = max 1 (DA : Int) → X = (Im.thW W H most : Nat)) := by
      intro X hX; unfold Im.thW; rw [hmx, hA, hDA]; omega
    have GY : Hid (∀ X : Int, X = max 1 (DB : Int) → X = (Im.thW H W most : Nat)) := by
      intro X hX; unfold Im.thW; rw [Nat.max_comm H W, hmx, hB0, hDB]; omega
    rw [hDA] at hdA q5
    rw [hDB] at hdB q6
    have q1 : IntKind.i64.wrap (A : Int) = A := by rw [IntKind.wrap_i64]; omega
    have q2 : IntKind.i64.wrap (B : Int) = B := by rw [IntKind.wrap_i64]; omega
    have q3 : IntKind.i64.wrap (DA : Int) = (DA : Int) := by rw [IntKind.wrap_i64]; omega
    have q4 : IntKind.i64.wrap (DB : Int) = (DB : Int) := by rw [IntKind.wrap_i64]; omega
    have dz1 : ¬ (H : Int) = 0 := by omega
    have dz2 : ¬ H = 0 := by omega
    clear hA hB0 hmx hmw hmh hDA hDB
    generalize Im.thW W H most = cw at *
    generalize Im.thW H W most = ch at *
    generalize Im.scOf W H px cw ch = f at *
    generalize 3 * (H * W) = N at *
    generalize 3 * (ch * cw) = M at *
    clear hr hpx
    -- .int .i64 W, .int .i64 H, .slice a N ca: the image's fields; the parameter's box and the result's box (a zero image) under names
    obtain ⟨W1, HW1, hP, hs1, hB1⟩ := box w #[.int .i64 W, .int .i64 H, .slice a N ca] 24
    obtain ⟨W2, HW2, hR, hs2, hB2⟩ := box W1 #[.int .i64 0, .int .i64 0, .slice none 0 0] 24
    have hP := hP.keep hB2
    rw [hs1] at hR hs2
    have hB12 := below_up hB1 hB2
    have H1 := Lib.hid HW1; have H2 := Lib.hid HW2; clear HW1 HW2 hB1 hB2 hs1
    by_cases k1 : (DA : Int) < 1
    · by_cases k2 : (DB : Int) < 1
      · obtain ⟨p0, p1, p2⟩ := hP.three
        go_enter Try.func36, Try.ntmps36
        go_wp2_with fail
        try rw [H1.out, H2.out]
        go_wp2_with fail
        go_region_held3 (fun w' => w'.cell? ⟨w.heap.size, 0, none⟩ = some (.int .i64 W) ∧ w'.cell? ⟨w.heap.size, 1, none⟩ = some (.int .i64 H) ∧ w'.cell? ⟨w.heap.size, 2, none⟩ = some (.slice a N ca))
          (first | exact hP.drew.three | exact hP2.three | exact (((hP2.setOther (by simp) _).setOther (by simp) _).setOther (by simp) _).three)
          ((go_at_call 34; refine (HTR.out _ _ _ (GX.out _ (by omega)) (GY.out _ (by omega)) hB12.drew).mono ?_; rintro e w2 ⟨a2, ca2, rfl, hb2, hc2, hd2, hB2⟩; have hP2 := hP.drew.keep hB2; have hR2 := hR.drew.keep hB2; have hF2 := hR2.free; obtain ⟨r0, r1, r2⟩ := hR2.three))
        all_goals
          go_wp2_with fail
          have hB1 := hB12.drew
          have hBf := (((below_up hB1 hB2).setCell (p := ⟨w.heap.size + 1, 0, none⟩) (by simp) (.int .i64 cw)).setCell (p := ⟨w.heap.size + 1, 1, none⟩) (by simp) (.int .i64 ch)).setCell (p := ⟨w.heap.size + 1, 2, none⟩) (by simp) (.slice a2 M ca2)
          exact bodyPost_ret (v := .agg #[.int .i64 cw, .int .i64 ch, .slice a2 M ca2]) (by simp [results, Try.results36, go_sem, r0, r1, r2]) rfl ⟨_, _, rfl, Bytes.fields hR2 hb2 _ _ _, hc2, hd2, hBf⟩
      · obtain ⟨p0, p1, p2⟩ := hP.three
        go_enter Try.func36, Try.ntmps36
        go_wp2_with fail
        try rw [H1.out, H2.out]
        go_wp2_with fail
        go_region_held3 (fun w' => w'.cell? ⟨w.heap.size, 0, none⟩ = some (.int .i64 W) ∧ w'.cell? ⟨w.heap.size, 1, none⟩ = some (.int .i64 H) ∧ w'.cell? ⟨w.heap.size, 2, none⟩ = some (.slice a N ca))
          (first | exact hP.drew.three | exact hP2.three | exact (((hP2.setOther (by simp) _).setOther (by simp) _).setOther (by simp) _).three)
          ((go_at_call 34; refine (HTR.out _ _ _ (GX.out _ (by omega)) (GY.out _ (by omega)) hB12.drew).mono ?_; rintro e w2 ⟨a2, ca2, rfl, hb2, hc2, hd2, hB2⟩; have hP2 := hP.drew.keep hB2; have hR2 := hR.drew.keep hB2; have hF2 := hR2.free; obtain ⟨r0, r1, r2⟩ := hR2.three))
        all_goals
          go_wp2_with fail
          have hB1 := hB12.drew
          have hBf := (((below_up hB1 hB2).setCell (p := ⟨w.heap.size + 1, 0, none⟩) (by simp) (.int .i64 cw)).setCell (p := ⟨w.heap.size + 1, 1, none⟩) (by simp) (.int .i64 ch)).setCell (p := ⟨w.heap.size + 1, 2, none⟩) (by simp) (.slice a2 M ca2)
          exact bodyPost_ret (v := .agg #[.int .i64 cw, .int .i64 ch, .slice a2 M ca2]) (by simp [results, Try.results36, go_sem, r0, r1, r2]) rfl ⟨_, _, rfl, Bytes.fields hR2 hb2 _ _ _, hc2, hd2, hBf⟩
    · by_cases k2 : (DB : Int) < 1
      · obtain ⟨p0, p1, p2⟩ := hP.three
        go_enter Try.func36, Try.ntmps36
        go_wp2_with fail
        try rw [H1.out, H2.out]
        go_wp2_with fail
        go_region_held3 (fun w' => w'.cell? ⟨w.heap.size, 0, none⟩ = some (.int .i64 W) ∧ w'.cell? ⟨w.heap.size, 1, none⟩ = some (.int .i64 H) ∧ w'.cell? ⟨w.heap.size, 2, none⟩ = some (.slice a N ca))
          (first | exact hP.drew.three | exact hP2.three | exact (((hP2.setOther (by simp) _).setOther (by simp) _).setOther (by simp) _).three)
          ((go_at_call 34; refine (HTR.out _ _ _ (GX.out _ (by omega)) (GY.out _ (by omega)) hB12.drew).mono ?_; rintro e w2 ⟨a2, ca2, rfl, hb2, hc2, hd2, hB2⟩; have hP2 := hP.drew.keep hB2; have hR2 := hR.drew.keep hB2; have hF2 := hR2.free; obtain ⟨r0, r1, r2⟩ := hR2.three))
        all_goals
          go_wp2_with fail
          have hB1 := hB12.drew
          have hBf := (((below_up hB1 hB2).setCell (p := ⟨w.heap.size + 1, 0, none⟩) (by simp) (.int .i64 cw)).setCell (p := ⟨w.heap.size + 1, 1, none⟩) (by simp) (.int .i64 ch)).setCell (p := ⟨w.heap.size + 1, 2, none⟩) (by simp) (.slice a2 M ca2)
          exact bodyPost_ret (v := .agg #[.int .i64 cw, .int .i64 ch, .slice a2 M ca2]) (by simp [results, Try.results36, go_sem, r0, r1, r2]) rfl ⟨_, _, rfl, Bytes.fields hR2 hb2 _ _ _, hc2, hd2, hBf⟩
      · obtain ⟨p0, p1, p2⟩ := hP.three
        go_enter Try.func36, Try.ntmps36
        go_wp2_with fail
        try rw [H1.out, H2.out]
        go_wp2_with fail
        go_region_held3 (fun w' => w'.cell? ⟨w.heap.size, 0, none⟩ = some (.int .i64 W) ∧ w'.cell? ⟨w.heap.size, 1, none⟩ = some (.int .i64 H) ∧ w'.cell? ⟨w.heap.size, 2, none⟩ = some (.slice a N ca))
          (first | exact hP.drew.three | exact hP2.three | exact (((hP2.setOther (by simp) _).setOther (by simp) _).setOther (by simp) _).three)
          ((go_at_call 34; refine (HTR.out _ _ _ (GX.out _ (by omega)) (GY.out _ (by omega)) hB12.drew).mono ?_; rintro e w2 ⟨a2, ca2, rfl, hb2, hc2, hd2, hB2⟩; have hP2 := hP.drew.keep hB2; have hR2 := hR.drew.keep hB2; have hF2 := hR2.free; obtain ⟨r0, r1, r2⟩ := hR2.three))
        all_goals
          go_wp2_with fail
          have hB1 := hB12.drew
          have hBf := (((below_up hB1 hB2).setCell (p := ⟨w.heap.size + 1, 0, none⟩) (by simp) (.int .i64 cw)).setCell (p := ⟨w.heap.size + 1, 1, none⟩) (by simp) (.int .i64 ch)).setCell (p := ⟨w.heap.size + 1, 2, none⟩) (by simp) (.slice a2 M ca2)
          exact bodyPost_ret (v := .agg #[.int .i64 cw, .int .i64 ch, .slice a2 M ca2]) (by simp [results, Try.results36, go_sem, r0, r1, r2]) rfl ⟨_, _, rfl, Bytes.fields hR2 hb2 _ _ _, hc2, hd2, hBf⟩
  · have hmax : max (W : Int) (H : Int) = (W : Int) := by omega
    have hdec : decide ((W : Int) < (H : Int)) = false := by simp; omega
    -- W: the longer side
    have hmw := Nat.mul_le_mul hW.2.1 hm.2
    have hmh := Nat.mul_le_mul hW.2.2.2 hm.2
    obtain ⟨A, hA⟩ : ∃ A, W * most = A := ⟨_, rfl⟩
    obtain ⟨B, hB0⟩ : ∃ B, H * most = B := ⟨_, rfl⟩
    have gA : (W : Int) * (most : Int) = (A : Int) := by rw [← hA]; simp
    have gB : (H : Int) * (most : Int) = (B : Int) := by rw [← hB0]; simp
    have hA2 : A ≤ 4096 := by rw [← hA]; exact hmw
    have hB02 : B ≤ 4096 := by rw [← hB0]; exact hmh
    have hmx : max W H = W := by omega
    have hdA : A / W ≤ 4096 := Nat.le_trans (Nat.div_le_self _ _) hA2
    have hdB : B / W ≤ 4096 := Nat.le_trans (Nat.div_le_self _ _) hB02
    have q5 : (A : Int).tdiv (W : Int) = ((A / W : Nat) : Int) := by rw [Int.tdiv_eq_ediv_of_nonneg (by omega)]; simp
    have q6 : (B : Int).tdiv (W : Int) = ((B / W : Nat) : Int) := by rw [Int.tdiv_eq_ediv_of_nonneg (by omega)]; simp
    obtain ⟨DA, hDA⟩ : ∃ D, A / W = D := ⟨_, rfl⟩
    obtain ⟨DB, hDB⟩ : ∃ D, B / W = D := ⟨_, rfl⟩
    have GX : Hid (∀ X : Int, X = max 1 (DA : Int) → X = (Im.thW W H most : Nat)) := by
      intro X hX; unfold Im.thW; rw [hmx, hA, hDA]; omega
    have GY : Hid (∀ X : Int, X = max 1 (DB : Int) → X = (Im.thW H W most : Nat)) := by
      intro X hX; unfold Im.thW; rw [Nat.max_comm H W, hmx, hB0, hDB]; omega
    rw [hDA] at hdA q5
    rw [hDB] at hdB q6
    have q1 : IntKind.i64.wrap (A : Int) = A := by rw [IntKind.wrap_i64]; omega
    have q2 : IntKind.i64.wrap (B : Int) = B := by rw [IntKind.wrap_i64]; omega
    have q3 : IntKind.i64.wrap (DA : Int) = (DA : Int) := by rw [IntKind.wrap_i64]; omega
    have q4 : IntKind.i64.wrap (DB : Int) = (DB : Int) := by rw [IntKind.wrap_i64]; omega
    have dz1 : ¬ (W : Int) = 0 := by omega
    have dz2 : ¬ W = 0 := by omega
    clear hA hB0 hmx hmw hmh hDA hDB
    generalize Im.thW W H most = cw at *
    generalize Im.thW H W most = ch at *
    generalize Im.scOf W H px cw ch = f at *
    generalize 3 * (H * W) = N at *
    generalize 3 * (ch * cw) = M at *
    clear hr hpx
    -- .int .i64 W, .int .i64 H, .slice a N ca: the image's fields; the parameter's box and the result's box (a zero image) under names
    obtain ⟨W1, HW1, hP, hs1, hB1⟩ := box w #[.int .i64 W, .int .i64 H, .slice a N ca] 24
    obtain ⟨W2, HW2, hR, hs2, hB2⟩ := box W1 #[.int .i64 0, .int .i64 0, .slice none 0 0] 24
    have hP := hP.keep hB2
    rw [hs1] at hR hs2
    have hB12 := below_up hB1 hB2
    have H1 := Lib.hid HW1; have H2 := Lib.hid HW2; clear HW1 HW2 hB1 hB2 hs1
    by_cases k1 : (DA : Int) < 1
    · by_cases k2 : (DB : Int) < 1
      · obtain ⟨p0, p1, p2⟩ := hP.three
        go_enter Try.func36, Try.ntmps36
        go_wp2_with fail
        try rw [H1.out, H2.out]
        go_wp2_with fail
        go_region_held3 (fun w' => w'.cell? ⟨w.heap.size, 0, none⟩ = some (.int .i64 W) ∧ w'.cell? ⟨w.heap.size, 1, none⟩ = some (.int .i64 H) ∧ w'.cell? ⟨w.heap.size, 2, none⟩ = some (.slice a N ca))
          (first | exact hP.drew.three | exact hP2.three | exact (((hP2.setOther (by simp) _).setOther (by simp) _).setOther (by simp) _).three)
          ((go_at_call 34; refine (HTR.out _ _ _ (GX.out _ (by omega)) (GY.out _ (by omega)) hB12.drew).mono ?_; rintro e w2 ⟨a2, ca2, rfl, hb2, hc2, hd2, hB2⟩; have hP2 := hP.drew.keep hB2; have hR2 := hR.drew.keep hB2; have hF2 := hR2.free; obtain ⟨r0, r1, r2⟩ := hR2.three))
        all_goals
          go_wp2_with fail
          have hB1 := hB12.drew
          have hBf := (((below_up hB1 hB2).setCell (p := ⟨w.heap.size + 1, 0, none⟩) (by simp) (.int .i64 cw)).setCell (p := ⟨w.heap.size + 1, 1, none⟩) (by simp) (.int .i64 ch)).setCell (p := ⟨w.heap.size + 1, 2, none⟩) (by simp) (.slice a2 M ca2)
          exact bodyPost_ret (v := .agg #[.int .i64 cw, .int .i64 ch, .slice a2 M ca2]) (by simp [results, Try.results36, go_sem, r0, r1, r2]) rfl ⟨_, _, rfl, Bytes.fields hR2 hb2 _ _ _, hc2, hd2, hBf⟩
      · obtain ⟨p0, p1, p2⟩ := hP.three
        go_enter Try.func36, Try.ntmps36
        go_wp2_with fail
        try rw [H1.out, H2.out]
        go_wp2_with fail
        go_region_held3 (fun w' => w'.cell? ⟨w.heap.size, 0, none⟩ = some (.int .i64 W) ∧ w'.cell? ⟨w.heap.size, 1, none⟩ = some (.int .i64 H) ∧ w'.cell? ⟨w.heap.size, 2, none⟩ = some (.slice a N ca))
          (first | exact hP.drew.three | exact hP2.three | exact (((hP2.setOther (by simp) _).setOther (by simp) _).setOther (by simp) _).three)
          ((go_at_call 34; refine (HTR.out _ _ _ (GX.out _ (by omega)) (GY.out _ (by omega)) hB12.drew).mono ?_; rintro e w2 ⟨a2, ca2, rfl, hb2, hc2, hd2, hB2⟩; have hP2 := hP.drew.keep hB2; have hR2 := hR.drew.keep hB2; have hF2 := hR2.free; obtain ⟨r0, r1, r2⟩ := hR2.three))
        all_goals
          go_wp2_with fail
          have hB1 := hB12.drew
          have hBf := (((below_up hB1 hB2).setCell (p := ⟨w.heap.size + 1, 0, none⟩) (by simp) (.int .i64 cw)).setCell (p := ⟨w.heap.size + 1, 1, none⟩) (by simp) (.int .i64 ch)).setCell (p := ⟨w.heap.size + 1, 2, none⟩) (by simp) (.slice a2 M ca2)
          exact bodyPost_ret (v := .agg #[.int .i64 cw, .int .i64 ch, .slice a2 M ca2]) (by simp [results, Try.results36, go_sem, r0, r1, r2]) rfl ⟨_, _, rfl, Bytes.fields hR2 hb2 _ _ _, hc2, hd2, hBf⟩
    · by_cases k2 : (DB : Int) < 1
      · obtain ⟨p0, p1, p2⟩ := hP.three
        go_enter Try.func36, Try.ntmps36
        go_wp2_with fail
        try rw [H1.out, H2.out]
        go_wp2_with fail
        go_region_held3 (fun w' => w'.cell? ⟨w.heap.size, 0, none⟩ = some (.int .i64 W) ∧ w'.cell? ⟨w.heap.size, 1, none⟩ = some (.int .i64 H) ∧ w'.cell? ⟨w.heap.size, 2, none⟩ = some (.slice a N ca))
          (first | exact hP.drew.three | exact hP2.three | exact (((hP2.setOther (by simp) _).setOther (by simp) _).setOther (by simp) _).three)
          ((go_at_call 34; refine (HTR.out _ _ _ (GX.out _ (by omega)) (GY.out _ (by omega)) hB12.drew).mono ?_; rintro e w2 ⟨a2, ca2, rfl, hb2, hc2, hd2, hB2⟩; have hP2 := hP.drew.keep hB2; have hR2 := hR.drew.keep hB2; have hF2 := hR2.free; obtain ⟨r0, r1, r2⟩ := hR2.three))
        all_goals
          go_wp2_with fail
          have hB1 := hB12.drew
          have hBf := (((below_up hB1 hB2).setCell (p := ⟨w.heap.size + 1, 0, none⟩) (by simp) (.int .i64 cw)).setCell (p := ⟨w.heap.size + 1, 1, none⟩) (by simp) (.int .i64 ch)).setCell (p := ⟨w.heap.size + 1, 2, none⟩) (by simp) (.slice a2 M ca2)
          exact bodyPost_ret (v := .agg #[.int .i64 cw, .int .i64 ch, .slice a2 M ca2]) (by simp [results, Try.results36, go_sem, r0, r1, r2]) rfl ⟨_, _, rfl, Bytes.fields hR2 hb2 _ _ _, hc2, hd2, hBf⟩
      · obtain ⟨p0, p1, p2⟩ := hP.three
        go_enter Try.func36, Try.ntmps36
        go_wp2_with fail
        try rw [H1.out, H2.out]
        go_wp2_with fail
        go_region_held3 (fun w' => w'.cell? ⟨w.heap.size, 0, none⟩ = some (.int .i64 W) ∧ w'.cell? ⟨w.heap.size, 1, none⟩ = some (.int .i64 H) ∧ w'.cell? ⟨w.heap.size, 2, none⟩ = some (.slice a N ca))
          (first | exact hP.drew.three | exact hP2.three | exact (((hP2.setOther (by simp) _).setOther (by simp) _).setOther (by simp) _).three)
          ((go_at_call 34; refine (HTR.out _ _ _ (GX.out _ (by omega)) (GY.out _ (by omega)) hB12.drew).mono ?_; rintro e w2 ⟨a2, ca2, rfl, hb2, hc2, hd2, hB2⟩; have hP2 := hP.drew.keep hB2; have hR2 := hR.drew.keep hB2; have hF2 := hR2.free; obtain ⟨r0, r1, r2⟩ := hR2.three))
        all_goals
          go_wp2_with fail
          have hB1 := hB12.drew
          have hBf := (((below_up hB1 hB2).setCell (p := ⟨w.heap.size + 1, 0, none⟩) (by simp) (.int .i64 cw)).setCell (p := ⟨w.heap.size + 1, 1, none⟩) (by simp) (.int .i64 ch)).setCell (p := ⟨w.heap.size + 1, 2, none⟩) (by simp) (.slice a2 M ca2)
          exact bodyPost_ret (v := .agg #[.int .i64 cw, .int .i64 ch, .slice a2 M ca2]) (by simp [results, Try.results36, go_sem, r0, r1, r2]) rfl ⟨_, _, rfl, Bytes.fields hR2 hb2 _ _ _, hc2, hd2, hBf⟩
end Go.Proofs.Ytkebkbjkapfgkaa
