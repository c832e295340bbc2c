/- Scale, Grey: errors, and the images. -/
import Derived.Test.YtkebkbjkapfgkaaPixScaled
import Derived.Test.YtkebkbjkapfgkaaPixGrey
import Derived.Test.YtkebkbjkapfgkaaPixTurn
namespace Go.Proofs.Ytkebkbjkapfgkaa
open Go.RowKit Go.Sort
set_option linter.unusedVariables false
set_option maxHeartbeats 1000000 in
theorem scale_err (W H cw ch : Int) (a : Option Addr) (n ca : Nat) (q : Int) (w : World) (hn : n ≤ 9223372036854775807) (he : Im.err W H n = q) (hq : q ≠ 0) :
    Calls Try.prog 30 #[.agg #[.int .i64 W, .int .i64 H, .slice a n ca], .int .i64 cw, .int .i64 ch] w fun e w' => e = .returned (.tuple #[.agg #[.int .i64 0, .int .i64 0, .slice none 0 0], .int .i64 q]) ∧ Below w.heap.size w w' := by
  have HE := Lib.hid he; clear he
  have hq' : (q == 0) = false := by simpa using hq
  -- .int .i64 W, .int .i64 H, .slice a n ca: the image's fields; the parameter's box and the result's box (a zero image) under names
  obtain ⟨W1, HW1, hP, hs1, hB1⟩ := box w #[.int .i64 W, .int .i64 H, .slice a n ca] 24
  obtain ⟨W2, HW2, hR, hs2, hB2⟩ := box W1 #[.int .i64 0, .int .i64 0, .slice none 0 0] 24
  have hP := hP.keep hB2
  rw [hs1] at hR hs2
  have hB12 := below_up hB1 hB2
  have H1 := Lib.hid HW1; have H2 := Lib.hid HW2; clear HW1 HW2 hB1 hB2 hs1
  go_enter Try.func30, Try.ntmps30
  go_wp2_with (go_at_call 28; rw [H1.out, H2.out]; refine (check_is _ _ _ _ _ _ hn).mono ?_; rw [HE.out]; rintro e w' ⟨rfl, hB⟩; have hR1 := hR.keep hB; have hF1 := hR1.free; obtain ⟨r0, r1, r2⟩ := hR1.three)
  -- tintype/pix.Scale: the function; q: the error; hB: the last Below fact (from W2)
  have hBf := ((((hB12.trans ((hB).mono hB12.size)).setCell (p := ⟨w.heap.size + 1, 0, none⟩) (by simp) (.int .i64 0)).setCell (p := ⟨w.heap.size + 1, 1, none⟩) (by simp) (.int .i64 0)).setCell (p := ⟨w.heap.size + 1, 2, none⟩) (by simp) (.slice none 0 0))
  exact bodyPost_ret (v := .tuple #[.agg #[.int .i64 0, .int .i64 0, .slice none 0 0], .int .i64 q]) (by simp [results, Try.results30, go_sem, r0, r1, r2]) rfl ⟨rfl, hBf⟩
set_option maxHeartbeats 1000000 in
theorem scale_range (W H cw ch : Int) (a : Option Addr) (n ca : Nat) (w : World) (hn : n ≤ 9223372036854775807) (he : Im.err W H n = 0) (hb : (cw < 1 ∨ 64 < cw) ∨ (ch < 1 ∨ 64 < ch)) :
    Calls Try.prog 30 #[.agg #[.int .i64 W, .int .i64 H, .slice a n ca], .int .i64 cw, .int .i64 ch] w fun e w' => e = .returned (.tuple #[.agg #[.int .i64 0, .int .i64 0, .slice none 0 0], .int .i64 2]) ∧ Below w.heap.size w w' := by
  have HE := Lib.hid he; clear he
  -- .int .i64 W, .int .i64 H, .slice a n ca: the image's fields; the parameter's box and the result's box (a zero image) under names
  obtain ⟨W1, HW1, hP, hs1, hB1⟩ := box w #[.int .i64 W, .int .i64 H, .slice a n ca] 24
  obtain ⟨W2, HW2, hR, hs2, hB2⟩ := box W1 #[.int .i64 0, .int .i64 0, .slice none 0 0] 24
  have hP := hP.keep hB2
  rw [hs1] at hR hs2
  have hB12 := below_up hB1 hB2
  have H1 := Lib.hid HW1; have H2 := Lib.hid HW2; clear HW1 HW2 hB1 hB2 hs1
  by_cases h1 : cw < 1 ∨ 64 < cw
  · clear hb
    go_enter Try.func30, Try.ntmps30
    go_wp2_with (first | (go_at_call 28; rw [H1.out, H2.out]; refine (check_is _ _ _ _ _ _ hn).mono ?_; rw [HE.out]; rintro e w' ⟨rfl, hB⟩; have hR1 := hR.keep hB; have hF1 := hR1.free; obtain ⟨r0, r1, r2⟩ := hR1.three; obtain ⟨p0, p1, p2⟩ := (hP.keep hB).three) | (go_at_call 63; first | ((with_reducible refine (outside_yes cw _ _ _ (by omega)).mono ?_); rintro e w'' ⟨rfl, rfl⟩) | ((with_reducible refine (outside_no cw _ _ _ (by omega) (by omega)).mono ?_); rintro e w'' ⟨rfl, rfl⟩)))
    -- tintype/pix.Scale: the function; 2: the error; hB: the last Below fact (from W2)
    have hBf := ((((hB12.trans ((hB).mono hB12.size)).setCell (p := ⟨w.heap.size + 1, 0, none⟩) (by simp) (.int .i64 0)).setCell (p := ⟨w.heap.size + 1, 1, none⟩) (by simp) (.int .i64 0)).setCell (p := ⟨w.heap.size + 1, 2, none⟩) (by simp) (.slice none 0 0))
    exact bodyPost_ret (v := .tuple #[.agg #[.int .i64 0, .int .i64 0, .slice none 0 0], .int .i64 2]) (by simp [results, Try.results30, go_sem, r0, r1, r2]) rfl ⟨rfl, hBf⟩
  · have h2 : ch < 1 ∨ 64 < ch := by omega
    clear hb
    go_enter Try.func30, Try.ntmps30
    go_wp2_with (first | (go_at_call 28; rw [H1.out, H2.out]; refine (check_is _ _ _ _ _ _ hn).mono ?_; rw [HE.out]; rintro e w' ⟨rfl, hB⟩; have hR1 := hR.keep hB; have hF1 := hR1.free; obtain ⟨r0, r1, r2⟩ := hR1.three; obtain ⟨p0, p1, p2⟩ := (hP.keep hB).three) | (go_at_call 63; first | ((with_reducible refine (outside_yes ch _ _ _ (by omega)).mono ?_); rintro e w'' ⟨rfl, rfl⟩) | ((with_reducible refine (outside_no cw _ _ _ (by omega) (by omega)).mono ?_); rintro e w'' ⟨rfl, rfl⟩)))
    -- tintype/pix.Scale: the function; 2: the error; hB: the last Below fact (from W2)
    have hBf := ((((hB12.trans ((hB).mono hB12.size)).setCell (p := ⟨w.heap.size + 1, 0, none⟩) (by simp) (.int .i64 0)).setCell (p := ⟨w.heap.size + 1, 1, none⟩) (by simp) (.int .i64 0)).setCell (p := ⟨w.heap.size + 1, 2, none⟩) (by simp) (.slice none 0 0))
    exact bodyPost_ret (v := .tuple #[.agg #[.int .i64 0, .int .i64 0, .slice none 0 0], .int .i64 2]) (by simp [results, Try.results30, go_sem, r0, r1, r2]) rfl ⟨rfl, hBf⟩
set_option maxHeartbeats 1000000 in
theorem scale_ok (W H cw ch : Nat) (a : Option Addr) (ca : Nat) (px : Nat → Int) (w : World) (hW : 1 ≤ W ∧ W ≤ 64 ∧ 1 ≤ H ∧ H ≤ 64) (hs : 1 ≤ cw ∧ cw ≤ 64 ∧ 1 ≤ ch ∧ ch ≤ 64) (hr : Bytes w a (3 * (H * W)) px)
    (hca : 3 * (H * W) ≤ ca) (hca2 : ca ≤ 9223372036854775807) (hpx : ∀ i, 0 ≤ px i ∧ px i ≤ 255) :
    Calls Try.prog 30 #[.agg #[.int .i64 W, .int .i64 H, .slice a (3 * (H * W)) ca], .int .i64 cw, .int .i64 ch] w (ImgPost2 w cw ch (3 * (ch * cw)) (Im.scOf W H px cw ch)) := by
  have HE := Lib.hid (err_ok W H hW)
  have HTR := Lib.hid (fun V (hV : Below w.heap.size w V) => scaled_is W H cw ch a ca px V hW hs (hr.keep hV) hca hca2 hpx)
  have hWH : H * W ≤ 4096 := Nat.mul_le_mul hW.2.2.2 hW.2.1
  generalize Im.scOf W H px cw ch = f at *
  generalize 3 * (H * W) = N at *
  generalize 3 * (ch * cw) = M at *
  clear hr hpx
  -- .int .i64 W, .int .i64 H, .slice a N ca: the image's fields; the parameter's box and the result's box (a zero image) under names
  obtain ⟨W1, HW1, hP, hs1, hB1⟩ := box w #[.int .i64 W, .int .i64 H, .slice a N ca] 24
  obtain ⟨W2, HW2, hR, hs2, hB2⟩ := box W1 #[.int .i64 0, .int .i64 0, .slice none 0 0] 24
  have hP := hP.keep hB2
  rw [hs1] at hR hs2
  have hB12 := below_up hB1 hB2
  have H1 := Lib.hid HW1; have H2 := Lib.hid HW2; clear HW1 HW2 hB1 hB2 hs1
  go_enter Try.func30, Try.ntmps30
  go_wp2_with (first
    | (go_at_call 28; rw [H1.out, H2.out]; refine (check_is _ _ _ _ _ _ (by omega)).mono ?_; rw [HE.out]; rintro e w1 ⟨rfl, hB⟩; have hR1 := hR.keep hB; have hB1 := below_up hB12 hB; obtain ⟨p0, p1, p2⟩ := (hP.keep hB).three)
    | (go_at_call 63; refine (outside_no _ _ _ _ (by omega) (by omega)).mono ?_; rintro e w'' ⟨rfl, rfl⟩)
    | (go_at_call 75; refine (HTR.out _ hB1).mono ?_; rintro e w2 ⟨a2, ca2, rfl, hb2, hc2, hd2, hB2⟩; have hR2 := hR1.keep hB2; have hF2 := hR2.free; obtain ⟨r0, r1, r2⟩ := hR2.three))
  have hBf := (((below_up hB1 hB2).setCell (p := ⟨w.heap.size + 1, 0, none⟩) (by simp) (.int .i64 cw)).setCell (p := ⟨w.heap.size + 1, 1, none⟩) (by simp) (.int .i64 ch)).setCell (p := ⟨w.heap.size + 1, 2, none⟩) (by simp) (.slice a2 M ca2)
  exact bodyPost_ret (v := .tuple #[.agg #[.int .i64 cw, .int .i64 ch, .slice a2 M ca2], .int .i64 0]) (by simp [results, Try.results30, go_sem, r0, r1, r2]) rfl ⟨_, _, rfl, Bytes.fields hR2 hb2 _ _ _, hc2, hd2, hBf⟩
set_option maxHeartbeats 1000000 in
theorem grey2_err (W H : Int) (a : Option Addr) (n ca : Nat) (q : Int) (w : World) (hn : n ≤ 9223372036854775807) (he : Im.err W H n = q) (hq : q ≠ 0) :
    Calls Try.prog 32 #[.agg #[.int .i64 W, .int .i64 H, .slice a n ca]] w fun e w' => e = .returned (.tuple #[.agg #[.int .i64 0, .int .i64 0, .slice none 0 0], .int .i64 q]) ∧ Below w.heap.size w w' := by
  have HE := Lib.hid he; clear he
  have hq' : (q == 0) = false := by simpa using hq
  -- .int .i64 W, .int .i64 H, .slice a n ca: the image's fields; the parameter's box and the result's box (a zero image) under names
  obtain ⟨W1, HW1, hP, hs1, hB1⟩ := box w #[.int .i64 W, .int .i64 H, .slice a n ca] 24
  obtain ⟨W2, HW2, hR, hs2, hB2⟩ := box W1 #[.int .i64 0, .int .i64 0, .slice none 0 0] 24
  have hP := hP.keep hB2
  rw [hs1] at hR hs2
  have hB12 := below_up hB1 hB2
  have H1 := Lib.hid HW1; have H2 := Lib.hid HW2; clear HW1 HW2 hB1 hB2 hs1
  go_enter Try.func32, Try.ntmps32
  go_wp2_with (go_at_call 28; rw [H1.out, H2.out]; refine (check_is _ _ _ _ _ _ hn).mono ?_; rw [HE.out]; rintro e w' ⟨rfl, hB⟩; have hR1 := hR.keep hB; have hF1 := hR1.free; obtain ⟨r0, r1, r2⟩ := hR1.three)
  -- tintype/pix.Grey: the function; q: the error; hB: the last Below fact (from W2)
  have hBf := ((((hB12.trans ((hB).mono hB12.size)).setCell (p := ⟨w.heap.size + 1, 0, none⟩) (by simp) (.int .i64 0)).setCell (p := ⟨w.heap.size + 1, 1, none⟩) (by simp) (.int .i64 0)).setCell (p := ⟨w.heap.size + 1, 2, none⟩) (by simp) (.slice none 0 0))
  exact bodyPost_ret (v := .tuple #[.agg #[.int .i64 0, .int .i64 0, .slice none 0 0], .int .i64 q]) (by simp [results, Try.results32, go_sem, r0, r1, r2]) rfl ⟨rfl, hBf⟩
/-- The bytes of the image in grey. -/
def Im.greyOf (W : Nat) (px : Nat → Int) : Nat → Int := Im.content W (fun i k c => Im.grey (Im.pix px W i k 0) (Im.pix px W i k 1) (Im.pix px W i k 2))
set_option maxHeartbeats 1000000 in
theorem grey2_ok (W H : Nat) (a : Option Addr) (ca : Nat) (px : Nat → Int) (w : World) (hW : 1 ≤ W ∧ W ≤ 64 ∧ 1 ≤ H ∧ H ≤ 64) (hr : Bytes w a (3 * (H * W)) px)
    (hca : 3 * (H * W) ≤ ca) (hca2 : ca ≤ 9223372036854775807) (hpx : ∀ i, 0 ≤ px i ∧ px i ≤ 255) :
    Calls Try.prog 32 #[.agg #[.int .i64 W, .int .i64 H, .slice a (3 * (H * W)) ca]] w (ImgPost2 w W H (3 * (H * W)) (Im.greyOf W px)) := by
  have HE := Lib.hid (err_ok W H hW)
  have HTR := Lib.hid (fun V (hV : Below w.heap.size w V) => grey_is W H a ca px V hW (hr.keep hV) hca hca2 hpx)
  have hWH : H * W ≤ 4096 := Nat.mul_le_mul hW.2.2.2 hW.2.1
  rw [show Im.content W (fun i k c => Im.grey (Im.pix px W i k 0) (Im.pix px W i k 1) (Im.pix px W i k 2)) = Im.greyOf W px from rfl] at HTR
  generalize Im.greyOf W px = f at *
  generalize 3 * (H * W) = N at *
  clear hr hpx
  -- .int .i64 W, .int .i64 H, .slice a N ca: the image's fields; the parameter's box and the result's box (a zero image) under names
  obtain ⟨W1, HW1, hP, hs1, hB1⟩ := box w #[.int .i64 W, .int .i64 H, .slice a N ca] 24
  obtain ⟨W2, HW2, hR, hs2, hB2⟩ := box W1 #[.int .i64 0, .int .i64 0, .slice none 0 0] 24
  have hP := hP.keep hB2
  rw [hs1] at hR hs2
  have hB12 := below_up hB1 hB2
  have H1 := Lib.hid HW1; have H2 := Lib.hid HW2; clear HW1 HW2 hB1 hB2 hs1
  go_enter Try.func32, Try.ntmps32
  go_wp2_with (first
    | (go_at_call 28; rw [H1.out, H2.out]; refine (check_is _ _ _ _ _ _ (by omega)).mono ?_; rw [HE.out]; rintro e w1 ⟨rfl, hB⟩; have hR1 := hR.keep hB; have hB1 := below_up hB12 hB; obtain ⟨p0, p1, p2⟩ := (hP.keep hB).three)
    | (go_at_call 76; refine (HTR.out _ hB1).mono ?_; rintro e w2 ⟨b2, rfl, hbb, hO2, hB2⟩; have hR2 := hR1.keep hB2; have hF2 := hR2.free; obtain ⟨r0, r1, r2⟩ := hR2.three))
  obtain ⟨a2, ha2⟩ : ∃ a2 : Option Addr, a2 = some ⟨b2, 0, none⟩ := ⟨_, rfl⟩
  obtain ⟨ca2, hca2'⟩ : ∃ ca2, ca2 = N := ⟨_, rfl⟩
  have hb2 := bytes_of_out hO2
  have hc2 : N ≤ N := Nat.le_refl _
  have hd2 : N ≤ 9223372036854775807 := by omega
  have hBf := (((below_up hB1 hB2).setCell (p := ⟨w.heap.size + 1, 0, none⟩) (by simp) (.int .i64 W)).setCell (p := ⟨w.heap.size + 1, 1, none⟩) (by simp) (.int .i64 H)).setCell (p := ⟨w.heap.size + 1, 2, none⟩) (by simp) (.slice (some ⟨b2, 0, none⟩) N N)
  exact bodyPost_ret (v := .tuple #[.agg #[.int .i64 W, .int .i64 H, .slice (some ⟨b2, 0, none⟩) N N], .int .i64 0]) (by simp [results, Try.results32, go_sem, r0, r1, r2]) rfl ⟨_, _, rfl, Bytes.fields hR2 hb2 _ _ _, hc2, hd2, hBf⟩
end Go.Proofs.Ytkebkbjkapfgkaa
