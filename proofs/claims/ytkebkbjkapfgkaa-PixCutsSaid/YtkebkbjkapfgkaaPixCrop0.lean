/- Crop: a part of an image. -/
import Derived.Test.YtkebkbjkapfgkaaPixSet
namespace Go.Proofs.Ytkebkbjkapfgkaa
open Go.RowKit Go.Sort
set_option linter.unusedVariables false
attribute [local go_sem ↓] Go.wp_at_zero Go.wp_at_succ
set_option maxHeartbeats 1000000 in
theorem crop_err (W H x y cw ch : Int) (a : Option Addr) (n ca : Nat) (q : Int) (w : World) (hn : n ≤ 9223372036854775807) (he : Im.err W H n = q) (hq : q ≠ 0) :
    Calls Try.prog 14 #[.agg #[.int .i64 W, .int .i64 H, .slice a n ca], .int .i64 x, .int .i64 y, .int .i64 cw, .int .i64 ch] w fun e w' => e = .returned (.tuple #[.agg #[.int .i64 0, .int .i64 0, .slice none 0 0], .int .i64 q]) ∧ Below w.heap.size w w' := by
  have HE := Lib.hid he; clear he
  have hq' : (q == 0) = false := by simpa using hq
  -- .int .i64 W, .int .i64 H, .slice a n ca: the image's fields; the parameter's box and the result's box (a zero image) under names
  obtain ⟨W1, HW1, hP, hs1, hB1⟩ := box w #[.int .i64 W, .int .i64 H, .slice a n ca] 24
  obtain ⟨W2, HW2, hR, hs2, hB2⟩ := box W1 #[.int .i64 0, .int .i64 0, .slice none 0 0] 24
  have hP := hP.keep hB2
  rw [hs1] at hR hs2
  have hB12 := below_up hB1 hB2
  have H1 := Lib.hid HW1; have H2 := Lib.hid HW2; clear HW1 HW2 hB1 hB2 hs1
  go_enter Try.func14, Try.ntmps14
  go_wp2_with (go_at_call 28; rw [H1.out, H2.out]; refine (check_is _ _ _ _ _ _ hn).mono ?_; rw [HE.out]; rintro e w' ⟨rfl, hB⟩; have hR1 := hR.keep hB; have hF1 := hR1.free; obtain ⟨r0, r1, r2⟩ := hR1.three)
  have hBf := ((((hB12.trans (hB.mono hB12.size)).setCell (p := ⟨w.heap.size + 1, 0, none⟩) (by simp) (.int .i64 0)).setCell (p := ⟨w.heap.size + 1, 1, none⟩) (by simp) (.int .i64 0)).setCell (p := ⟨w.heap.size + 1, 2, none⟩) (by simp) (.slice none 0 0))
  exact bodyPost_ret (v := .tuple #[.agg #[.int .i64 0, .int .i64 0, .slice none 0 0], .int .i64 q]) (by simp [results, Try.results14, go_sem, r0, r1, r2]) rfl ⟨rfl, hBf⟩
end Go.Proofs.Ytkebkbjkapfgkaa
