/- Crop: a part that does not lie in the image is an error. -/
import Derived.Test.YtkebkbjkapfgkaaPixSet
namespace Go.Proofs.Ytkebkbjkapfgkaa
open Go.RowKit Go.Sort
set_option linter.unusedVariables false
set_option maxRecDepth 100000 in
set_option maxHeartbeats 4000000 in
theorem crop_range (W H x y cw ch : Int) (a : Option Addr) (n ca : Nat) (w : World) (hn : n ≤ 9223372036854775807) (he : Im.err W H n = 0) (hW : 1 ≤ W ∧ W ≤ 64 ∧ 1 ≤ H ∧ H ≤ 64)
    (hx : -9223372036854775808 ≤ x ∧ x ≤ 9223372036854775807) (hy : -9223372036854775808 ≤ y ∧ y ≤ 9223372036854775807)
    (hbad : x < 0 ∨ y < 0 ∨ (cw < 1 ∨ W < cw) ∨ (ch < 1 ∨ H < ch) ∨ W - cw < x ∨ H - ch < y) :
    Calls Try.prog 14 #[.agg #[.int .i64 W, .int .i64 H, .slice a n ca], .int .i64 x, .int .i64 y, .int .i64 cw, .int .i64 ch] w fun e w' => e = .returned (.tuple #[.agg #[.int .i64 0, .int .i64 0, .slice none 0 0], .int .i64 2]) ∧ Below w.heap.size w w' := by
  have HE := Lib.hid he; clear he
  -- .int .i64 W, .int .i64 H, .slice a n ca: the image's fields; the parameter's box and the result's box (a zero image) under names
  obtain ⟨W1, HW1, hP, hs1, hB1⟩ := box w #[.int .i64 W, .int .i64 H, .slice a n ca] 24
  obtain ⟨W2, HW2, hR, hs2, hB2⟩ := box W1 #[.int .i64 0, .int .i64 0, .slice none 0 0] 24
  have hP := hP.keep hB2
  rw [hs1] at hR hs2
  have hB12 := below_up hB1 hB2
  have H1 := Lib.hid HW1; have H2 := Lib.hid HW2; clear HW1 HW2 hB1 hB2 hs1
  by_cases c1 : x < 0
  · clear hbad
    go_enter Try.func14, Try.ntmps14
    go_wp2_with (first | (go_at_call 28; rw [H1.out, H2.out]; refine (check_is _ _ _ _ _ _ hn).mono ?_; rw [HE.out]; rintro e w' ⟨rfl, hB⟩; have hR1 := hR.keep hB; have hF1 := hR1.free; obtain ⟨r0, r1, r2⟩ := hR1.three; obtain ⟨p0, p1, p2⟩ := (hP.keep hB).three) | (go_at_call 63; refine (outside_no _ _ _ _ (by omega) (by omega)).mono ?_; rintro e w'' ⟨rfl, rfl⟩) | (go_at_call 63; refine (outside_yes _ _ _ _ (by omega)).mono ?_; rintro e w'' ⟨rfl, rfl⟩))
    -- tintype/pix.Crop: the function; 2: the error; hB: the last Below fact (from W2)
    have hBf := ((((hB12.trans ((hB).mono hB12.size)).setCell (p := ⟨w.heap.size + 1, 0, none⟩) (by simp) (.int .i64 0)).setCell (p := ⟨w.heap.size + 1, 1, none⟩) (by simp) (.int .i64 0)).setCell (p := ⟨w.heap.size + 1, 2, none⟩) (by simp) (.slice none 0 0))
    exact bodyPost_ret (v := .tuple #[.agg #[.int .i64 0, .int .i64 0, .slice none 0 0], .int .i64 2]) (by simp [results, Try.results14, go_sem, r0, r1, r2]) rfl ⟨rfl, hBf⟩
  by_cases c2 : y < 0
  · clear hbad
    go_enter Try.func14, Try.ntmps14
    go_wp2_with (first | (go_at_call 28; rw [H1.out, H2.out]; refine (check_is _ _ _ _ _ _ hn).mono ?_; rw [HE.out]; rintro e w' ⟨rfl, hB⟩; have hR1 := hR.keep hB; have hF1 := hR1.free; obtain ⟨r0, r1, r2⟩ := hR1.three; obtain ⟨p0, p1, p2⟩ := (hP.keep hB).three) | (go_at_call 63; refine (outside_no _ _ _ _ (by omega) (by omega)).mono ?_; rintro e w'' ⟨rfl, rfl⟩) | (go_at_call 63; refine (outside_yes _ _ _ _ (by omega)).mono ?_; rintro e w'' ⟨rfl, rfl⟩))
    -- tintype/pix.Crop: the function; 2: the error; hB: the last Below fact (from W2)
    have hBf := ((((hB12.trans ((hB).mono hB12.size)).setCell (p := ⟨w.heap.size + 1, 0, none⟩) (by simp) (.int .i64 0)).setCell (p := ⟨w.heap.size + 1, 1, none⟩) (by simp) (.int .i64 0)).setCell (p := ⟨w.heap.size + 1, 2, none⟩) (by simp) (.slice none 0 0))
    exact bodyPost_ret (v := .tuple #[.agg #[.int .i64 0, .int .i64 0, .slice none 0 0], .int .i64 2]) (by simp [results, Try.results14, go_sem, r0, r1, r2]) rfl ⟨rfl, hBf⟩
  by_cases c3 : cw < 1 ∨ W < cw
  · clear hbad
    go_enter Try.func14, Try.ntmps14
    go_wp2_with (first | (go_at_call 28; rw [H1.out, H2.out]; refine (check_is _ _ _ _ _ _ hn).mono ?_; rw [HE.out]; rintro e w' ⟨rfl, hB⟩; have hR1 := hR.keep hB; have hF1 := hR1.free; obtain ⟨r0, r1, r2⟩ := hR1.three; obtain ⟨p0, p1, p2⟩ := (hP.keep hB).three) | (go_at_call 63; refine (outside_no _ _ _ _ (by omega) (by omega)).mono ?_; rintro e w'' ⟨rfl, rfl⟩) | (go_at_call 63; refine (outside_yes _ _ _ _ (by omega)).mono ?_; rintro e w'' ⟨rfl, rfl⟩))
    -- tintype/pix.Crop: the function; 2: the error; hB: the last Below fact (from W2)
    have hBf := ((((hB12.trans ((hB).mono hB12.size)).setCell (p := ⟨w.heap.size + 1, 0, none⟩) (by simp) (.int .i64 0)).setCell (p := ⟨w.heap.size + 1, 1, none⟩) (by simp) (.int .i64 0)).setCell (p := ⟨w.heap.size + 1, 2, none⟩) (by simp) (.slice none 0 0))
    exact bodyPost_ret (v := .tuple #[.agg #[.int .i64 0, .int .i64 0, .slice none 0 0], .int .i64 2]) (by simp [results, Try.results14, go_sem, r0, r1, r2]) rfl ⟨rfl, hBf⟩
  by_cases c4 : ch < 1 ∨ H < ch
  · clear hbad
    go_enter Try.func14, Try.ntmps14
    go_wp2_with (first | (go_at_call 28; rw [H1.out, H2.out]; refine (check_is _ _ _ _ _ _ hn).mono ?_; rw [HE.out]; rintro e w' ⟨rfl, hB⟩; have hR1 := hR.keep hB; have hF1 := hR1.free; obtain ⟨r0, r1, r2⟩ := hR1.three; obtain ⟨p0, p1, p2⟩ := (hP.keep hB).three) | (go_at_call 63; refine (outside_no _ _ _ _ (by omega) (by omega)).mono ?_; rintro e w'' ⟨rfl, rfl⟩) | (go_at_call 63; refine (outside_yes _ _ _ _ (by omega)).mono ?_; rintro e w'' ⟨rfl, rfl⟩))
    -- tintype/pix.Crop: the function; 2: the error; hB: the last Below fact (from W2)
    have hBf := ((((hB12.trans ((hB).mono hB12.size)).setCell (p := ⟨w.heap.size + 1, 0, none⟩) (by simp) (.int .i64 0)).setCell (p := ⟨w.heap.size + 1, 1, none⟩) (by simp) (.int .i64 0)).setCell (p := ⟨w.heap.size + 1, 2, none⟩) (by simp) (.slice none 0 0))
    exact bodyPost_ret (v := .tuple #[.agg #[.int .i64 0, .int .i64 0, .slice none 0 0], .int .i64 2]) (by simp [results, Try.results14, go_sem, r0, r1, r2]) rfl ⟨rfl, hBf⟩
  by_cases c5 : W - cw < x
  · clear hbad
    go_enter Try.func14, Try.ntmps14
    go_wp2_with (first | (go_at_call 28; rw [H1.out, H2.out]; refine (check_is _ _ _ _ _ _ hn).mono ?_; rw [HE.out]; rintro e w' ⟨rfl, hB⟩; have hR1 := hR.keep hB; have hF1 := hR1.free; obtain ⟨r0, r1, r2⟩ := hR1.three; obtain ⟨p0, p1, p2⟩ := (hP.keep hB).three) | (go_at_call 63; refine (outside_no _ _ _ _ (by omega) (by omega)).mono ?_; rintro e w'' ⟨rfl, rfl⟩) | (go_at_call 63; refine (outside_yes _ _ _ _ (by omega)).mono ?_; rintro e w'' ⟨rfl, rfl⟩))
    -- tintype/pix.Crop: the function; 2: the error; hB: the last Below fact (from W2)
    have hBf := ((((hB12.trans ((hB).mono hB12.size)).setCell (p := ⟨w.heap.size + 1, 0, none⟩) (by simp) (.int .i64 0)).setCell (p := ⟨w.heap.size + 1, 1, none⟩) (by simp) (.int .i64 0)).setCell (p := ⟨w.heap.size + 1, 2, none⟩) (by simp) (.slice none 0 0))
    exact bodyPost_ret (v := .tuple #[.agg #[.int .i64 0, .int .i64 0, .slice none 0 0], .int .i64 2]) (by simp [results, Try.results14, go_sem, r0, r1, r2]) rfl ⟨rfl, hBf⟩
  have c6 : H - ch < y := by omega
  clear hbad
  go_enter Try.func14, Try.ntmps14
  go_wp2_with (first | (go_at_call 28; rw [H1.out, H2.out]; refine (check_is _ _ _ _ _ _ hn).mono ?_; rw [HE.out]; rintro e w' ⟨rfl, hB⟩; have hR1 := hR.keep hB; have hF1 := hR1.free; obtain ⟨r0, r1, r2⟩ := hR1.three; obtain ⟨p0, p1, p2⟩ := (hP.keep hB).three) | (go_at_call 63; refine (outside_no _ _ _ _ (by omega) (by omega)).mono ?_; rintro e w'' ⟨rfl, rfl⟩) | (go_at_call 63; refine (outside_yes _ _ _ _ (by omega)).mono ?_; rintro e w'' ⟨rfl, rfl⟩))
  -- tintype/pix.Crop: the function; 2: the error; hB: the last Below fact (from W2)
  have hBf := ((((hB12.trans ((hB).mono hB12.size)).setCell (p := ⟨w.heap.size + 1, 0, none⟩) (by simp) (.int .i64 0)).setCell (p := ⟨w.heap.size + 1, 1, none⟩) (by simp) (.int .i64 0)).setCell (p := ⟨w.heap.size + 1, 2, none⟩) (by simp) (.slice none 0 0))
  exact bodyPost_ret (v := .tuple #[.agg #[.int .i64 0, .int .i64 0, .slice none 0 0], .int .i64 2]) (by simp [results, Try.results14, go_sem, r0, r1, r2]) rfl ⟨rfl, hBf⟩
end Go.Proofs.Ytkebkbjkapfgkaa
