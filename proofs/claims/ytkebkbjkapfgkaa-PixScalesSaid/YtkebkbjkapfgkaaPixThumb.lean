/- Thumb, and the reference's Thumbed. -/
import Derived.Test.YtkebkbjkapfgkaaPixScale
import Derived.Test.YtkebkbjkapfgkaaPixScaledR
import Derived.Test.YtkebkbjkapfgkaaPixTurnedR
namespace Go.Proofs.Ytkebkbjkapfgkaa
open Go.RowKit Go.Sort Go.Shelf
set_option linter.unusedVariables false
attribute [local go_sem ↓] Go.wp_at_zero Go.wp_at_succ
set_option maxHeartbeats 4000000 in
theorem thumb_err (W H most : Int) (a : Option Addr) (n ca : Nat) (q : Int) (w : World) (hn : n ≤ 9223372036854775807) (he : Im.err W H n = q) (hq : q ≠ 0) :
    Calls Try.prog 31 #[.agg #[.int .i64 W, .int .i64 H, .slice a n ca], .int .i64 most] w fun e w' => e = .returned (.tuple #[.agg #[.int .i64 0, .int .i64 0, .slice none 0 0], .int .i64 q]) ∧ Below w.heap.size w w' := by
  have HE := Lib.hid he; clear he
  have hq' : (q == 0) = false := by simpa using hq
  -- .int .i64 W, .int .i64 H, .slice a n ca: the image's fields; the parameter's box and the result's box (a zero image) under names
  obtain ⟨W1, HW1, hP, hs1, hB1⟩ := box w #[.int .i64 W, .int .i64 H, .slice a n ca] 24
  obtain ⟨W2, HW2, hR, hs2, hB2⟩ := box W1 #[.int .i64 0, .int .i64 0, .slice none 0 0] 24
  have hP := hP.keep hB2
  rw [hs1] at hR hs2
  have hB12 := below_up hB1 hB2
  have H1 := Lib.hid HW1; have H2 := Lib.hid HW2; clear HW1 HW2 hB1 hB2 hs1
  go_enter Try.func31, Try.ntmps31
  go_wp2_with (go_at_call 28; rw [H1.out, H2.out]; refine (check_is _ _ _ _ _ _ hn).mono ?_; rw [HE.out]; rintro e w' ⟨rfl, hB⟩; have hR1 := hR.keep hB; have hF1 := hR1.free; obtain ⟨r0, r1, r2⟩ := hR1.three)
  -- tintype/pix.Thumb: the function; q: the error; hB: the last Below fact (from W2)
  have hBf := ((((hB12.trans ((hB).mono hB12.size)).setCell (p := ⟨w.heap.size + 1, 0, none⟩) (by simp) (.int .i64 0)).setCell (p := ⟨w.heap.size + 1, 1, none⟩) (by simp) (.int .i64 0)).setCell (p := ⟨w.heap.size + 1, 2, none⟩) (by simp) (.slice none 0 0))
  exact bodyPost_ret (v := .tuple #[.agg #[.int .i64 0, .int .i64 0, .slice none 0 0], .int .i64 q]) (by simp [results, Try.results31, go_sem, r0, r1, r2]) rfl ⟨rfl, hBf⟩
set_option maxHeartbeats 4000000 in
theorem thumb_range (W H most : Int) (a : Option Addr) (n ca : Nat) (w : World) (hn : n ≤ 9223372036854775807) (he : Im.err W H n = 0) (ht : most < 1 ∨ 64 < most) :
    Calls Try.prog 31 #[.agg #[.int .i64 W, .int .i64 H, .slice a n ca], .int .i64 most] w fun e w' => e = .returned (.tuple #[.agg #[.int .i64 0, .int .i64 0, .slice none 0 0], .int .i64 2]) ∧ Below w.heap.size w w' := by
  have HE := Lib.hid he; clear he
  -- .int .i64 W, .int .i64 H, .slice a n ca: the image's fields; the parameter's box and the result's box (a zero image) under names
  obtain ⟨W1, HW1, hP, hs1, hB1⟩ := box w #[.int .i64 W, .int .i64 H, .slice a n ca] 24
  obtain ⟨W2, HW2, hR, hs2, hB2⟩ := box W1 #[.int .i64 0, .int .i64 0, .slice none 0 0] 24
  have hP := hP.keep hB2
  rw [hs1] at hR hs2
  have hB12 := below_up hB1 hB2
  have H1 := Lib.hid HW1; have H2 := Lib.hid HW2; clear HW1 HW2 hB1 hB2 hs1
  go_enter Try.func31, Try.ntmps31
  go_wp2_with (first | (go_at_call 28; rw [H1.out, H2.out]; refine (check_is _ _ _ _ _ _ hn).mono ?_; rw [HE.out]; rintro e w' ⟨rfl, hB⟩; have hR1 := hR.keep hB; have hF1 := hR1.free; obtain ⟨r0, r1, r2⟩ := hR1.three; obtain ⟨p0, p1, p2⟩ := (hP.keep hB).three) | (go_at_call 63; refine (outside_yes _ _ _ _ ht).mono ?_; rintro e w'' ⟨rfl, rfl⟩))
  -- tintype/pix.Thumb: the function; 2: the error; hB: the last Below fact (from W2)
  have hBf := ((((hB12.trans ((hB).mono hB12.size)).setCell (p := ⟨w.heap.size + 1, 0, none⟩) (by simp) (.int .i64 0)).setCell (p := ⟨w.heap.size + 1, 1, none⟩) (by simp) (.int .i64 0)).setCell (p := ⟨w.heap.size + 1, 2, none⟩) (by simp) (.slice none 0 0))
  exact bodyPost_ret (v := .tuple #[.agg #[.int .i64 0, .int .i64 0, .slice none 0 0], .int .i64 2]) (by simp [results, Try.results31, go_sem, r0, r1, r2]) rfl ⟨rfl, hBf⟩
theorem Im.content_self (W : Nat) (px : Nat → Int) (i : Nat) : Im.content W (fun x y c => Im.pix px W x y c) i = px i := by
  unfold Im.content Im.pix
  show px (3 * (i / 3 / W * W + i / 3 % W) + i % 3) = px i
  congr 1
  have := Nat.div_add_mod (i / 3) W
  have := Nat.div_add_mod i 3
  have : i / 3 / W * W = W * (i / 3 / W) := Nat.mul_comm _ _
  omega
theorem Im.turn_one (W H : Nat) (px : Nat → Int) (i : Nat) : Im.turnOf 1 W H px i = px i := by
  have : Im.turnOf 1 W H px = Im.content W (fun x y c => Im.pix px W x y c) := by
    unfold Im.turnOf; simp [Im.tx, Im.ty, Im.sw]
  rw [this]; exact Im.content_self W px i
set_option maxHeartbeats 4000000 in
theorem thumb_small (W H most : Nat) (a : Option Addr) (ca : Nat) (px : Nat → Int) (w : World) (hW : 1 ≤ W ∧ W ≤ 64 ∧ 1 ≤ H ∧ H ≤ 64) (hm : 1 ≤ most ∧ most ≤ 64) (hl : W ≤ most ∧ H ≤ most) (hr : Bytes w a (3 * (H * W)) px)
    (hca : 3 * (H * W) ≤ ca) (hca2 : ca ≤ 9223372036854775807) :
    Calls Try.prog 31 #[.agg #[.int .i64 W, .int .i64 H, .slice a (3 * (H * W)) ca], .int .i64 most] w (ImgPost2 w W H (3 * (H * W)) px) := by
  have HE := Lib.hid (err_ok W H hW)
  have htr := fun V (hV : Below w.heap.size w V) => turned_is 1 W H a ca px V (by omega) hW (hr.keep hV) hca hca2
  simp only [show Im.sw 1 W H = W from rfl, show Im.sh 1 W H = H from rfl] at htr
  have HTR : Hid (∀ V, Below w.heap.size w V → Calls Try.prog 70 #[.agg #[.int .i64 W, .int .i64 H, .slice a (3 * (H * W)) ca], .int .i64 1] V (ImgPost V W H (3 * (H * W)) px)) :=
    fun V hV => (htr V hV).mono fun e w' ⟨a2, c2, h1, h2, h3, h4, h5⟩ => ⟨a2, c2, h1, h2.congr (fun i _ => Im.turn_one W H px i), h3, h4, h5⟩
  have hWH : H * W ≤ 4096 := Nat.mul_le_mul hW.2.2.2 hW.2.1
  generalize 3 * (H * W) = N at *
  clear hr htr
  -- .int .i64 W, .int .i64 H, .slice a N ca: the image's fields; the parameter's box and the result's box (a zero image) under names
  obtain ⟨W1, HW1, hP, hs1, hB1⟩ := box w #[.int .i64 W, .int .i64 H, .slice a N ca] 24
  obtain ⟨W2, HW2, hR, hs2, hB2⟩ := box W1 #[.int .i64 0, .int .i64 0, .slice none 0 0] 24
  have hP := hP.keep hB2
  rw [hs1] at hR hs2
  have hB12 := below_up hB1 hB2
  have H1 := Lib.hid HW1; have H2 := Lib.hid HW2; clear HW1 HW2 hB1 hB2 hs1
  by_cases hwh : W < H
  · have hmax : max (W : Int) (H : Int) = (H : Int) := by omega
    have hdec : decide ((W : Int) < (H : Int)) = true := by simp; omega
    go_enter Try.func31, Try.ntmps31
    go_wp2_with (first
      | (go_at_call 28; rw [H1.out, H2.out]; refine (check_is _ _ _ _ _ _ (by omega)).mono ?_; rw [HE.out]; rintro e w1 ⟨rfl, hB⟩; have hR1 := hR.keep hB; have hB1 := below_up hB12 hB; obtain ⟨p0, p1, p2⟩ := (hP.keep hB).three)
      | (go_at_call 63; refine (outside_no _ _ _ _ (by omega) (by omega)).mono ?_; rintro e w'' ⟨rfl, rfl⟩)
      | (go_at_call 70; refine (HTR.out _ hB1).mono ?_; rintro e w2 ⟨a2, ca2, rfl, hb2, hc2, hd2, hB2⟩; have hR2 := hR1.keep hB2; have hF2 := hR2.free; obtain ⟨r0, r1, r2⟩ := hR2.three))
    have hBf := (((below_up hB1 hB2).setCell (p := ⟨w.heap.size + 1, 0, none⟩) (by simp) (.int .i64 W)).setCell (p := ⟨w.heap.size + 1, 1, none⟩) (by simp) (.int .i64 H)).setCell (p := ⟨w.heap.size + 1, 2, none⟩) (by simp) (.slice a2 N ca2)
    exact bodyPost_ret (v := .tuple #[.agg #[.int .i64 W, .int .i64 H, .slice a2 N ca2], .int .i64 0]) (by simp [results, Try.results31, go_sem, r0, r1, r2]) rfl ⟨_, _, rfl, Bytes.fields hR2 hb2 _ _ _, hc2, hd2, hBf⟩
  · have hmax : max (W : Int) (H : Int) = (W : Int) := by omega
    have hdec : decide ((W : Int) < (H : Int)) = false := by simp; omega
    go_enter Try.func31, Try.ntmps31
    go_wp2_with (first
      | (go_at_call 28; rw [H1.out, H2.out]; refine (check_is _ _ _ _ _ _ (by omega)).mono ?_; rw [HE.out]; rintro e w1 ⟨rfl, hB⟩; have hR1 := hR.keep hB; have hB1 := below_up hB12 hB; obtain ⟨p0, p1, p2⟩ := (hP.keep hB).three)
      | (go_at_call 63; refine (outside_no _ _ _ _ (by omega) (by omega)).mono ?_; rintro e w'' ⟨rfl, rfl⟩)
      | (go_at_call 70; refine (HTR.out _ hB1).mono ?_; rintro e w2 ⟨a2, ca2, rfl, hb2, hc2, hd2, hB2⟩; have hR2 := hR1.keep hB2; have hF2 := hR2.free; obtain ⟨r0, r1, r2⟩ := hR2.three))
    have hBf := (((below_up hB1 hB2).setCell (p := ⟨w.heap.size + 1, 0, none⟩) (by simp) (.int .i64 W)).setCell (p := ⟨w.heap.size + 1, 1, none⟩) (by simp) (.int .i64 H)).setCell (p := ⟨w.heap.size + 1, 2, none⟩) (by simp) (.slice a2 N ca2)
    exact bodyPost_ret (v := .tuple #[.agg #[.int .i64 W, .int .i64 H, .slice a2 N ca2], .int .i64 0]) (by simp [results, Try.results31, go_sem, r0, r1, r2]) rfl ⟨_, _, rfl, Bytes.fields hR2 hb2 _ _ _, hc2, hd2, hBf⟩
/-- The sides of a thumb. -/
def Im.thW (W H most : Nat) : Nat := max 1 (W * most / max W H)
theorem Im.th_bd {W H most : Nat} (hW : 1 ≤ W ∧ W ≤ 64 ∧ 1 ≤ H ∧ H ≤ 64) (hm : 1 ≤ most ∧ most ≤ 64) : 1 ≤ Im.thW W H most ∧ Im.thW W H most ≤ 64 := by
  unfold Im.thW
  have h1 : W * most / max W H ≤ most := by
    refine Nat.div_le_of_le_mul ?_
    exact Nat.mul_le_mul_right most (by omega)
  omega
theorem scaled_int (W H : Nat) (cw ch : Nat) (X Y : Int) (hX : X = cw) (hY : Y = ch) (a : Option Addr) (ca : Nat) (px : Nat → Int) (w : World) (hW : 1 ≤ W ∧ W ≤ 64 ∧ 1 ≤ H ∧ H ≤ 64) (hs : 1 ≤ cw ∧ cw ≤ 64 ∧ 1 ≤ ch ∧ ch ≤ 64) (hr : Bytes w a (3 * (H * W)) px)
    (hca : 3 * (H * W) ≤ ca) (hca2 : ca ≤ 9223372036854775807) (hpx : ∀ i, 0 ≤ px i ∧ px i ≤ 255) :
    Calls Try.prog 75 #[.agg #[.int .i64 W, .int .i64 H, .slice a (3 * (H * W)) ca], .int .i64 X, .int .i64 Y] w (ImgPost w cw ch (3 * (ch * cw)) (Im.scOf W H px cw ch)) := by
  subst hX hY; exact scaled_is W H cw ch a ca px w hW hs hr hca hca2 hpx
theorem rscaled_int (W H : Nat) (cw ch : Nat) (X Y : Int) (hX : X = cw) (hY : Y = ch) (a : Option Addr) (ca : Nat) (px : Nat → Int) (w : World) (hW : 1 ≤ W ∧ W ≤ 64 ∧ 1 ≤ H ∧ H ≤ 64) (hs : 1 ≤ cw ∧ cw ≤ 64 ∧ 1 ≤ ch ∧ ch ≤ 64) (hr : Bytes w a (3 * (H * W)) px)
    (hca : 3 * (H * W) ≤ ca) (hca2 : ca ≤ 9223372036854775807) (hpx : ∀ i, 0 ≤ px i ∧ px i ≤ 255) :
    Calls Try.prog 34 #[.agg #[.int .i64 W, .int .i64 H, .slice a (3 * (H * W)) ca], .int .i64 X, .int .i64 Y] w (ImgPost w cw ch (3 * (ch * cw)) (Im.scOf W H px cw ch)) := by
  subst hX hY; exact rscaled_is W H cw ch a ca px w hW hs hr hca hca2 hpx
set_option maxHeartbeats 4000000 in
theorem thumb_big (W H most : Nat) (a : Option Addr) (ca : Nat) (px : Nat → Int) (w : World) (hW : 1 ≤ W ∧ W ≤ 64 ∧ 1 ≤ H ∧ H ≤ 64) (hm : 1 ≤ most ∧ most ≤ 64) (hl : ¬ (W ≤ most ∧ H ≤ most)) (hr : Bytes w a (3 * (H * W)) px)
    (hca : 3 * (H * W) ≤ ca) (hca2 : ca ≤ 9223372036854775807) (hpx : ∀ i, 0 ≤ px i ∧ px i ≤ 255) :
    Calls Try.prog 31 #[.agg #[.int .i64 W, .int .i64 H, .slice a (3 * (H * W)) ca], .int .i64 most] w (ImgPost2 w (Im.thW W H most) (Im.thW H W most) (3 * (Im.thW H W most * Im.thW W H most)) (Im.scOf W H px (Im.thW W H most) (Im.thW H W most))) := by
  have HE := Lib.hid (err_ok W H hW)
  have hb1 := Im.th_bd hW hm
  have hb2 := Im.th_bd (W := H) (H := W) ⟨hW.2.2.1, hW.2.2.2, hW.1, hW.2.1⟩ hm
  have HTR := Lib.hid (fun V X Y hX hY (hV : Below w.heap.size w V) => scaled_int W H (Im.thW W H most) (Im.thW H W most) X Y hX hY a ca px V hW ⟨hb1.1, hb1.2, hb2.1, hb2.2⟩ (hr.keep hV) hca hca2 hpx)
  have hWH : H * W ≤ 4096 := Nat.mul_le_mul hW.2.2.2 hW.2.1
  by_cases hwh : W < H
  · have hmax : max (W : Int) (H : Int) = (H : Int) := by omega
    have hdec : decide ((W : Int) < (H : Int)) = true := by simp; omega
    -- H: the longer side
    have hmw := Nat.mul_le_mul hW.2.1 hm.2
    have hmh := Nat.mul_le_mul hW.2.2.2 hm.2
    obtain ⟨A, hA⟩ : ∃ A, W * most = A := ⟨_, rfl⟩
    obtain ⟨B, hB0⟩ : ∃ B, H * most = B := ⟨_, rfl⟩
    have gA : (W : Int) * (most : Int) = (A : Int) := by rw [← hA]; simp
    have gB : (H : Int) * (most : Int) = (B : Int) := by rw [← hB0]; simp
    have hA2 : A ≤ 4096 := by rw [← hA]; exact hmw
    have hB02 : B ≤ 4096 := by rw [← hB0]; exact hmh
    have hmx : max W H = H := by omega
    have hdA : A / H ≤ 4096 := Nat.le_trans (Nat.div_le_self _ _) hA2
    have hdB : B / H ≤ 4096 := Nat.le_trans (Nat.div_le_self _ _) hB02
    have q5 : (A : Int).tdiv (H : Int) = ((A / H : Nat) : Int) := by rw [Int.tdiv_eq_ediv_of_nonneg (by omega)]; simp
    have q6 : (B : Int).tdiv (H : Int) = ((B / H : Nat) : Int) := by rw [Int.tdiv_eq_ediv_of_nonneg (by omega)]; simp
    obtain ⟨DA, hDA⟩ : ∃ D, A / H = D := ⟨_, rfl⟩
    obtain ⟨DB, hDB⟩ : ∃ D, B / H = D := ⟨_, rfl⟩
    have GX : Hid (∀ X : Int, X = max 1 (DA : Int) → X = (Im.thW W H most : Nat)) := by
      intro X hX; unfold Im.thW; rw [hmx, hA, hDA]; omega
    have GY : Hid (∀ X : Int, X = max 1 (DB : Int) → X = (Im.thW H W most : Nat)) := by
      intro X hX; unfold Im.thW; rw [Nat.max_comm H W, hmx, hB0, hDB]; omega
    rw [hDA] at hdA q5
    rw [hDB] at hdB q6
    have q1 : IntKind.i64.wrap (A : Int) = A := by rw [IntKind.wrap_i64]; omega
    have q2 : IntKind.i64.wrap (B : Int) = B := by rw [IntKind.wrap_i64]; omega
    have q3 : IntKind.i64.wrap (DA : Int) = (DA : Int) := by rw [IntKind.wrap_i64]; omega
    have q4 : IntKind.i64.wrap (DB : Int) = (DB : Int) := by rw [IntKind.wrap_i64]; omega
    have dz1 : ¬ (H : Int) = 0 := by omega
    have dz2 : ¬ H = 0 := by omega
    clear hA hB0 hmx hmw hmh hDA hDB
    generalize Im.thW W H most = cw at *
    generalize Im.thW H W most = ch at *
    generalize Im.scOf W H px cw ch = f at *
    generalize 3 * (H * W) = N at *
    generalize 3 * (ch * cw) = M at *
    clear hr hpx
    -- .int .i64 W, .int .i64 H, .slice a N ca: the image's fields; the parameter's box and the result's box (a zero image) under names
    obtain ⟨W1, HW1, hP, hs1, hB1⟩ := box w #[.int .i64 W, .int .i64 H, .slice a N ca] 24
    obtain ⟨W2, HW2, hR, hs2, hB2⟩ := box W1 #[.int .i64 0, .int .i64 0, .slice none 0 0] 24
    have hP := hP.keep hB2
    rw [hs1] at hR hs2
    have hB12 := below_up hB1 hB2
    have H1 := Lib.hid HW1; have H2 := Lib.hid HW2; clear HW1 HW2 hB1 hB2 hs1
    by_cases k1 : (1 : Int) < (DA : Int)
    · by_cases k2 : (1 : Int) < (DB : Int)
      · go_enter Try.func31, Try.ntmps31
        go_wp2_with (first
          | (go_at_call 28; rw [H1.out, H2.out]; refine (check_is _ _ _ _ _ _ (by omega)).mono ?_; rw [HE.out]; rintro e w1 ⟨rfl, hB⟩; have hR1 := hR.keep hB; have hP1 := hP.keep hB; have hB1 := below_up hB12 hB; obtain ⟨p0, p1, p2⟩ := hP1.three)
          | (go_at_call 63; refine (outside_no _ _ _ _ (by omega) (by omega)).mono ?_; rintro e w'' ⟨rfl, rfl⟩))
        go_region_held3 (fun w' => w'.cell? ⟨w.heap.size, 0, none⟩ = some (.int .i64 W) ∧ w'.cell? ⟨w.heap.size, 1, none⟩ = some (.int .i64 H) ∧ w'.cell? ⟨w.heap.size, 2, none⟩ = some (.slice a N ca))
          (first | exact hP1.drew.three | exact hP2.three | exact (((hP2.setOther (by simp) _).setOther (by simp) _).setOther (by simp) _).three)
          ((go_at_call 75; refine (HTR.out _ _ _ (GX.out _ (by omega)) (GY.out _ (by omega)) hB1.drew).mono ?_; rintro e w2 ⟨a2, ca2, rfl, hb2, hc2, hd2, hB2⟩; have hP2 := hP1.drew.keep hB2; have hR2 := hR1.drew.keep hB2; have hF2 := hR2.free; obtain ⟨r0, r1, r2⟩ := hR2.three))
        all_goals
          go_wp2_with fail
          have hB1 := hB1.drew
          have hBf := (((below_up hB1 hB2).setCell (p := ⟨w.heap.size + 1, 0, none⟩) (by simp) (.int .i64 cw)).setCell (p := ⟨w.heap.size + 1, 1, none⟩) (by simp) (.int .i64 ch)).setCell (p := ⟨w.heap.size + 1, 2, none⟩) (by simp) (.slice a2 M ca2)
          exact bodyPost_ret (v := .tuple #[.agg #[.int .i64 cw, .int .i64 ch, .slice a2 M ca2], .int .i64 0]) (by simp [results, Try.results31, go_sem, r0, r1, r2]) rfl ⟨_, _, rfl, Bytes.fields hR2 hb2 _ _ _, hc2, hd2, hBf⟩
      · go_enter Try.func31, Try.ntmps31
        go_wp2_with (first
          | (go_at_call 28; rw [H1.out, H2.out]; refine (check_is _ _ _ _ _ _ (by omega)).mono ?_; rw [HE.out]; rintro e w1 ⟨rfl, hB⟩; have hR1 := hR.keep hB; have hP1 := hP.keep hB; have hB1 := below_up hB12 hB; obtain ⟨p0, p1, p2⟩ := hP1.three)
          | (go_at_call 63; refine (outside_no _ _ _ _ (by omega) (by omega)).mono ?_; rintro e w'' ⟨rfl, rfl⟩))
        go_region_held3 (fun w' => w'.cell? ⟨w.heap.size, 0, none⟩ = some (.int .i64 W) ∧ w'.cell? ⟨w.heap.size, 1, none⟩ = some (.int .i64 H) ∧ w'.cell? ⟨w.heap.size, 2, none⟩ = some (.slice a N ca))
          (first | exact hP1.drew.three | exact hP2.three | exact (((hP2.setOther (by simp) _).setOther (by simp) _).setOther (by simp) _).three)
          ((go_at_call 75; refine (HTR.out _ _ _ (GX.out _ (by omega)) (GY.out _ (by omega)) hB1.drew).mono ?_; rintro e w2 ⟨a2, ca2, rfl, hb2, hc2, hd2, hB2⟩; have hP2 := hP1.drew.keep hB2; have hR2 := hR1.drew.keep hB2; have hF2 := hR2.free; obtain ⟨r0, r1, r2⟩ := hR2.three))
        all_goals
          go_wp2_with fail
          have hB1 := hB1.drew
          have hBf := (((below_up hB1 hB2).setCell (p := ⟨w.heap.size + 1, 0, none⟩) (by simp) (.int .i64 cw)).setCell (p := ⟨w.heap.size + 1, 1, none⟩) (by simp) (.int .i64 ch)).setCell (p := ⟨w.heap.size + 1, 2, none⟩) (by simp) (.slice a2 M ca2)
          exact bodyPost_ret (v := .tuple #[.agg #[.int .i64 cw, .int .i64 ch, .slice a2 M ca2], .int .i64 0]) (by simp [results, Try.results31, go_sem, r0, r1, r2]) rfl ⟨_, _, rfl, Bytes.fields hR2 hb2 _ _ _, hc2, hd2, hBf⟩
    · by_cases k2 : (1 : Int) < (DB : Int)
      · go_enter Try.func31, Try.ntmps31
        go_wp2_with (first
          | (go_at_call 28; rw [H1.out, H2.out]; refine (check_is _ _ _ _ _ _ (by omega)).mono ?_; rw [HE.out]; rintro e w1 ⟨rfl, hB⟩; have hR1 := hR.keep hB; have hP1 := hP.keep hB; have hB1 := below_up hB12 hB; obtain ⟨p0, p1, p2⟩ := hP1.three)
          | (go_at_call 63; refine (outside_no _ _ _ _ (by omega) (by omega)).mono ?_; rintro e w'' ⟨rfl, rfl⟩))
        go_region_held3 (fun w' => w'.cell? ⟨w.heap.size, 0, none⟩ = some (.int .i64 W) ∧ w'.cell? ⟨w.heap.size, 1, none⟩ = some (.int .i64 H) ∧ w'.cell? ⟨w.heap.size, 2, none⟩ = some (.slice a N ca))
          (first | exact hP1.drew.three | exact hP2.three | exact (((hP2.setOther (by simp) _).setOther (by simp) _).setOther (by simp) _).three)
          ((go_at_call 75; refine (HTR.out _ _ _ (GX.out _ (by omega)) (GY.out _ (by omega)) hB1.drew).mono ?_; rintro e w2 ⟨a2, ca2, rfl, hb2, hc2, hd2, hB2⟩; have hP2 := hP1.drew.keep hB2; have hR2 := hR1.drew.keep hB2; have hF2 := hR2.free; obtain ⟨r0, r1, r2⟩ := hR2.three))
        all_goals
          go_wp2_with fail
          have hB1 := hB1.drew
          have hBf := (((below_up hB1 hB2).setCell (p := ⟨w.heap.size + 1, 0, none⟩) (by simp) (.int .i64 cw)).setCell (p := ⟨w.heap.size + 1, 1, none⟩) (by simp) (.int .i64 ch)).setCell (p := ⟨w.heap.size + 1, 2, none⟩) (by simp) (.slice a2 M ca2)
          exact bodyPost_ret (v := .tuple #[.agg #[.int .i64 cw, .int .i64 ch, .slice a2 M ca2], .int .i64 0]) (by simp [results, Try.results31, go_sem, r0, r1, r2]) rfl ⟨_, _, rfl, Bytes.fields hR2 hb2 _ _ _, hc2, hd2, hBf⟩
      · go_enter Try.func31, Try.ntmps31
        go_wp2_with (first
          | (go_at_call 28; rw [H1.out, H2.out]; refine (check_is _ _ _ _ _ _ (by omega)).mono ?_; rw [HE.out]; rintro e w1 ⟨rfl, hB⟩; have hR1 := hR.keep hB; have hP1 := hP.keep hB; have hB1 := below_up hB12 hB; obtain ⟨p0, p1, p2⟩ := hP1.three)
          | (go_at_call 63; refine (outside_no _ _ _ _ (by omega) (by omega)).mono ?_; rintro e w'' ⟨rfl, rfl⟩))
        go_region_held3 (fun w' => w'.cell? ⟨w.heap.size, 0, none⟩ = some (.int .i64 W) ∧ w'.cell? ⟨w.heap.size, 1, none⟩ = some (.int .i64 H) ∧ w'.cell? ⟨w.heap.size, 2, none⟩ = some (.slice a N ca))
          (first | exact hP1.drew.three | exact hP2.three | exact (((hP2.setOther (by simp) _).setOther (by simp) _).setOther (by simp) _).three)
          ((go_at_call 75; refine (HTR.out _ _ _ (GX.out _ (by omega)) (GY.out _ (by omega)) hB1.drew).mono ?_; rintro e w2 ⟨a2, ca2, rfl, hb2, hc2, hd2, hB2⟩; have hP2 := hP1.drew.keep hB2; have hR2 := hR1.drew.keep hB2; have hF2 := hR2.free; obtain ⟨r0, r1, r2⟩ := hR2.three))
        all_goals
          go_wp2_with fail
          have hB1 := hB1.drew
          have hBf := (((below_up hB1 hB2).setCell (p := ⟨w.heap.size + 1, 0, none⟩) (by simp) (.int .i64 cw)).setCell (p := ⟨w.heap.size + 1, 1, none⟩) (by simp) (.int .i64 ch)).setCell (p := ⟨w.heap.size + 1, 2, none⟩) (by simp) (.slice a2 M ca2)
          exact bodyPost_ret (v := .tuple #[.agg #[.int .i64 cw, .int .i64 ch, .slice a2 M ca2], .int .i64 0]) (by simp [results, Try.results31, go_sem, r0, r1, r2]) rfl ⟨_, _, rfl, Bytes.fields hR2 hb2 _ _ _, hc2, hd2, hBf⟩
  · have hmax : max (W : Int) (H : Int) = (W : Int) := by omega
    have hdec : decide ((W : Int) < (H : Int)) = false := by simp; omega
    -- W: the longer side
    have hmw := Nat.mul_le_mul hW.2.1 hm.2
    have hmh := Nat.mul_le_mul hW.2.2.2 hm.2
    obtain ⟨A, hA⟩ : ∃ A, W * most = A := ⟨_, rfl⟩
    obtain ⟨B, hB0⟩ : ∃ B, H * most = B := ⟨_, rfl⟩
    have gA : (W : Int) * (most : Int) = (A : Int) := by rw [← hA]; simp
    have gB : (H : Int) * (most : Int) = (B : Int) := by rw [← hB0]; simp
    have hA2 : A ≤ 4096 := by rw [← hA]; exact hmw
    have hB02 : B ≤ 4096 := by rw [← hB0]; exact hmh
    have hmx : max W H = W := by omega
    have hdA : A / W ≤ 4096 := Nat.le_trans (Nat.div_le_self _ _) hA2
    have hdB : B / W ≤ 4096 := Nat.le_trans (Nat.div_le_self _ _) hB02
    have q5 : (A : Int).tdiv (W : Int) = ((A / W : Nat) : Int) := by rw [Int.tdiv_eq_ediv_of_nonneg (by omega)]; simp
    have q6 : (B : Int).tdiv (W : Int) = ((B / W : Nat) : Int) := by rw [Int.tdiv_eq_ediv_of_nonneg (by omega)]; simp
    obtain ⟨DA, hDA⟩ : ∃ D, A / W = D := ⟨_, rfl⟩
    obtain ⟨DB, hDB⟩ : ∃ D, B / W = D := ⟨_, rfl⟩
    have GX : Hid (∀ X : Int, X = max 1 (DA : Int) → X = (Im.thW W H most : Nat)) := by
      intro X hX; unfold Im.thW; rw [hmx, hA, hDA]; omega
    have GY : Hid (∀ X : Int, X = max 1 (DB : Int) → X = (Im.thW H W most : Nat)) := by
      intro X hX; unfold Im.thW; rw [Nat.max_comm H W, hmx, hB0, hDB]; omega
    rw [hDA] at hdA q5
    rw [hDB] at hdB q6
    have q1 : IntKind.i64.wrap (A : Int) = A := by rw [IntKind.wrap_i64]; omega
    have q2 : IntKind.i64.wrap (B : Int) = B := by rw [IntKind.wrap_i64]; omega
    have q3 : IntKind.i64.wrap (DA : Int) = (DA : Int) := by rw [IntKind.wrap_i64]; omega
    have q4 : IntKind.i64.wrap (DB : Int) = (DB : Int) := by rw [IntKind.wrap_i64]; omega
    have dz1 : ¬ (W : Int) = 0 := by omega
    have dz2 : ¬ W = 0 := by omega
    clear hA hB0 hmx hmw hmh hDA hDB
    generalize Im.thW W H most = cw at *
    generalize Im.thW H W most = ch at *
    generalize Im.scOf W H px cw ch = f at *
    generalize 3 * (H * W) = N at *
    generalize 3 * (ch * cw) = M at *
    clear hr hpx
    -- .int .i64 W, .int .i64 H, .slice a N ca: the image's fields; the parameter's box and the result's box (a zero image) under names
    obtain ⟨W1, HW1, hP, hs1, hB1⟩ := box w #[.int .i64 W, .int .i64 H, .slice a N ca] 24
    obtain ⟨W2, HW2, hR, hs2, hB2⟩ := box W1 #[.int .i64 0, .int .i64 0, .slice none 0 0] 24
    have hP := hP.keep hB2
    rw [hs1] at hR hs2
    have hB12 := below_up hB1 hB2
    have H1 := Lib.hid HW1; have H2 := Lib.hid HW2; clear HW1 HW2 hB1 hB2 hs1
    by_cases k1 : (1 : Int) < (DA : Int)
    · by_cases k2 : (1 : Int) < (DB : Int)
      · go_enter Try.func31, Try.ntmps31
        go_wp2_with (first
          | (go_at_call 28; rw [H1.out, H2.out]; refine (check_is _ _ _ _ _ _ (by omega)).mono ?_; rw [HE.out]; rintro e w1 ⟨rfl, hB⟩; have hR1 := hR.keep hB; have hP1 := hP.keep hB; have hB1 := below_up hB12 hB; obtain ⟨p0, p1, p2⟩ := hP1.three)
          | (go_at_call 63; refine (outside_no _ _ _ _ (by omega) (by omega)).mono ?_; rintro e w'' ⟨rfl, rfl⟩))
        go_region_held3 (fun w' => w'.cell? ⟨w.heap.size, 0, none⟩ = some (.int .i64 W) ∧ w'.cell? ⟨w.heap.size, 1, none⟩ = some (.int .i64 H) ∧ w'.cell? ⟨w.heap.size, 2, none⟩ = some (.slice a N ca))
          (first | exact hP1.drew.three | exact hP2.three | exact (((hP2.setOther (by simp) _).setOther (by simp) _).setOther (by simp) _).three)
          ((go_at_call 75; refine (HTR.out _ _ _ (GX.out _ (by omega)) (GY.out _ (by omega)) hB1.drew).mono ?_; rintro e w2 ⟨a2, ca2, rfl, hb2, hc2, hd2, hB2⟩; have hP2 := hP1.drew.keep hB2; have hR2 := hR1.drew.keep hB2; have hF2 := hR2.free; obtain ⟨r0, r1, r2⟩ := hR2.three))
        all_goals
          go_wp2_with fail
          have hB1 := hB1.drew
          have hBf := (((below_up hB1 hB2).setCell (p := ⟨w.heap.size + 1, 0, none⟩) (by simp) (.int .i64 cw)).setCell (p := ⟨w.heap.size + 1, 1, none⟩) (by simp) (.int .i64 ch)).setCell (p := ⟨w.heap.size + 1, 2, none⟩) (by simp) (.slice a2 M ca2)
          exact bodyPost_ret (v := .tuple #[.agg #[.int .i64 cw, .int .i64 ch, .slice a2 M ca2], .int .i64 0]) (by simp [results, Try.results31, go_sem, r0, r1, r2]) rfl ⟨_, _, rfl, Bytes.fields hR2 hb2 _ _ _, hc2, hd2, hBf⟩
      · go_enter Try.func31, Try.ntmps31
        go_wp2_with (first
          | (go_at_call 28; rw [H1.out, H2.out]; refine (check_is _ _ _ _ _ _ (by omega)).mono ?_; rw [HE.out]; rintro e w1 ⟨rfl, hB⟩; have hR1 := hR.keep hB; have hP1 := hP.keep hB; have hB1 := below_up hB12 hB; obtain ⟨p0, p1, p2⟩ := hP1.three)
          | (go_at_call 63; refine (outside_no _ _ _ _ (by omega) (by omega)).mono ?_; rintro e w'' ⟨rfl, rfl⟩))
        go_region_held3 (fun w' => w'.cell? ⟨w.heap.size, 0, none⟩ = some (.int .i64 W) ∧ w'.cell? ⟨w.heap.size, 1, none⟩ = some (.int .i64 H) ∧ w'.cell? ⟨w.heap.size, 2, none⟩ = some (.slice a N ca))
          (first | exact hP1.drew.three | exact hP2.three | exact (((hP2.setOther (by simp) _).setOther (by simp) _).setOther (by simp) _).three)
          ((go_at_call 75; refine (HTR.out _ _ _ (GX.out _ (by omega)) (GY.out _ (by omega)) hB1.drew).mono ?_; rintro e w2 ⟨a2, ca2, rfl, hb2, hc2, hd2, hB2⟩; have hP2 := hP1.drew.keep hB2; have hR2 := hR1.drew.keep hB2; have hF2 := hR2.free; obtain ⟨r0, r1, r2⟩ := hR2.three))
        all_goals
          go_wp2_with fail
          have hB1 := hB1.drew
          have hBf := (((below_up hB1 hB2).setCell (p := ⟨w.heap.size + 1, 0, none⟩) (by simp) (.int .i64 cw)).setCell (p := ⟨w.heap.size + 1, 1, none⟩) (by simp) (.int .i64 ch)).setCell (p := ⟨w.heap.size + 1, 2, none⟩) (by simp) (.slice a2 M ca2)
          exact bodyPost_ret (v := .tuple #[.agg #[.int .i64 cw, .int .i64 ch, .slice a2 M ca2], .int .i64 0]) (by simp [results, Try.results31, go_sem, r0, r1, r2]) rfl ⟨_, _, rfl, Bytes.fields hR2 hb2 _ _ _, hc2, hd2, hBf⟩
    · by_cases k2 : (1 : Int) < (DB : Int)
      · go_enter Try.func31, Try.ntmps31
        go_wp2_with (first
          | (go_at_call 28; rw [H1.out, H2.out]; refine (check_is _ _ _ _ _ _ (by omega)).mono ?_; rw [HE.out]; rintro e w1 ⟨rfl, hB⟩; have hR1 := hR.keep hB; have hP1 := hP.keep hB; have hB1 := below_up hB12 hB; obtain ⟨p0, p1, p2⟩ := hP1.three)
          | (go_at_call 63; refine (outside_no _ _ _ _ (by omega) (by omega)).mono ?_; rintro e w'' ⟨rfl, rfl⟩))
        go_region_held3 (fun w' => w'.cell? ⟨w.heap.size, 0, none⟩ = some (.int .i64 W) ∧ w'.cell? ⟨w.heap.size, 1, none⟩ = some (.int .i64 H) ∧ w'.cell? ⟨w.heap.size, 2, none⟩ = some (.slice a N ca))
          (first | exact hP1.drew.three | exact hP2.three | exact (((hP2.setOther (by simp) _).setOther (by simp) _).setOther (by simp) _).three)
          ((go_at_call 75; refine (HTR.out _ _ _ (GX.out _ (by omega)) (GY.out _ (by omega)) hB1.drew).mono ?_; rintro e w2 ⟨a2, ca2, rfl, hb2, hc2, hd2, hB2⟩; have hP2 := hP1.drew.keep hB2; have hR2 := hR1.drew.keep hB2; have hF2 := hR2.free; obtain ⟨r0, r1, r2⟩ := hR2.three))
        all_goals
          go_wp2_with fail
          have hB1 := hB1.drew
          have hBf := (((below_up hB1 hB2).setCell (p := ⟨w.heap.size + 1, 0, none⟩) (by simp) (.int .i64 cw)).setCell (p := ⟨w.heap.size + 1, 1, none⟩) (by simp) (.int .i64 ch)).setCell (p := ⟨w.heap.size + 1, 2, none⟩) (by simp) (.slice a2 M ca2)
          exact bodyPost_ret (v := .tuple #[.agg #[.int .i64 cw, .int .i64 ch, .slice a2 M ca2], .int .i64 0]) (by simp [results, Try.results31, go_sem, r0, r1, r2]) rfl ⟨_, _, rfl, Bytes.fields hR2 hb2 _ _ _, hc2, hd2, hBf⟩
      · go_enter Try.func31, Try.ntmps31
        go_wp2_with (first
          | (go_at_call 28; rw [H1.out, H2.out]; refine (check_is _ _ _ _ _ _ (by omega)).mono ?_; rw [HE.out]; rintro e w1 ⟨rfl, hB⟩; have hR1 := hR.keep hB; have hP1 := hP.keep hB; have hB1 := below_up hB12 hB; obtain ⟨p0, p1, p2⟩ := hP1.three)
          | (go_at_call 63; refine (outside_no _ _ _ _ (by omega) (by omega)).mono ?_; rintro e w'' ⟨rfl, rfl⟩))
        go_region_held3 (fun w' => w'.cell? ⟨w.heap.size, 0, none⟩ = some (.int .i64 W) ∧ w'.cell? ⟨w.heap.size, 1, none⟩ = some (.int .i64 H) ∧ w'.cell? ⟨w.heap.size, 2, none⟩ = some (.slice a N ca))
          (first | exact hP1.drew.three | exact hP2.three | exact (((hP2.setOther (by simp) _).setOther (by simp) _).setOther (by simp) _).three)
          ((go_at_call 75; refine (HTR.out _ _ _ (GX.out _ (by omega)) (GY.out _ (by omega)) hB1.drew).mono ?_; rintro e w2 ⟨a2, ca2, rfl, hb2, hc2, hd2, hB2⟩; have hP2 := hP1.drew.keep hB2; have hR2 := hR1.drew.keep hB2; have hF2 := hR2.free; obtain ⟨r0, r1, r2⟩ := hR2.three))
        all_goals
          go_wp2_with fail
          have hB1 := hB1.drew
          have hBf := (((below_up hB1 hB2).setCell (p := ⟨w.heap.size + 1, 0, none⟩) (by simp) (.int .i64 cw)).setCell (p := ⟨w.heap.size + 1, 1, none⟩) (by simp) (.int .i64 ch)).setCell (p := ⟨w.heap.size + 1, 2, none⟩) (by simp) (.slice a2 M ca2)
          exact bodyPost_ret (v := .tuple #[.agg #[.int .i64 cw, .int .i64 ch, .slice a2 M ca2], .int .i64 0]) (by simp [results, Try.results31, go_sem, r0, r1, r2]) rfl ⟨_, _, rfl, Bytes.fields hR2 hb2 _ _ _, hc2, hd2, hBf⟩
end Go.Proofs.Ytkebkbjkapfgkaa
