/- The law PixScales, walked: a scale of no size. -/
import Derived.Test.YtkebkbjkapfgkaaPixScalesLaw
namespace Go.Proofs.Ytkebkbjkapfgkaa
open Go.RowKit Go.Sort Go.Shelf
set_option linter.unusedVariables false
attribute [local go_sem ↓] Go.wp_at_zero Go.wp_at_succ
set_option maxRecDepth 100000 in
set_option maxHeartbeats 4000000 in
theorem scales_bad_ok (W H most : Nat) (cw ch : Int) (a : Option Addr) (n ca : Nat) (w : World) (hn : n ≤ 9223372036854775807) (px : Nat → Int) (hW : 1 ≤ W ∧ W ≤ 64 ∧ 1 ≤ H ∧ H ≤ 64) (hnn : n = 3 * (H * W)) (hr : Bytes w a n px) (hca : n ≤ ca) (hca2 : ca ≤ 9223372036854775807) (hpx : ∀ i, 0 ≤ px i ∧ px i ≤ 255) (hs : (cw < 1 ∨ 64 < cw) ∨ (ch < 1 ∨ 64 < ch)) (hm : 1 ≤ most ∧ most ≤ 64) : Calls Try.prog 7 #[.agg #[.int .i64 W, .int .i64 H, .slice a n ca], .int .i64 cw, .int .i64 ch, .int .i64 most] w fun e w' => e = .returned (.bool true) ∧ Below w.heap.size w w' := by
  have HE : Hid (Im.err (W : Int) (H : Int) n = 0) := by rw [hnn]; exact err_ok W H hW
  have hn2 : n ≤ 12288 := by
    have hWH : H * W ≤ 4096 := Nat.mul_le_mul hW.2.2.2 hW.2.1
    omega
  have hg := fun V (hV : Below w.heap.size w V) => grey2_ok W H a ca px V hW (by rw [← hnn]; exact hr.keep hV) (by rw [← hnn]; exact hca) hca2 hpx
  simp only [← hnn] at hg
  have HG := Lib.hid hg
  have HG3 := Lib.hid (fun V (hV : Below w.heap.size w V) b5 hc => img_short (pixScales3_is W H a n ca px V hW hnn (hr.keep hV) hca hca2 hpx b5 hc))
  have HS := Lib.hid (fun V (hV : Below w.heap.size w V) => scale_range (W : Int) (H : Int) cw ch a n ca V hn HE.out hs)
  have htx := fun V (hV : Below w.heap.size w V) => thumb_any W H most a ca px V hW hm (by rw [← hnn]; exact hr.keep hV) (by rw [← hnn]; exact hca) hca2 hpx
  simp only [← hnn] at htx
  have hM2 := tN_bd hW hm
  have HG2 := Lib.hid (fun V (hV : Below w.heap.size w V) b5 b6 hc => img_short (pixScales2_is W H a n ca px V hW hnn (hr.keep hV) hca hca2 hpx most hm b5 b6 hc))
  generalize Im.tB W H most px = f2 at *
  generalize Im.tN W H most = M2 at *
  generalize Im.tW W H most = tw at *
  generalize Im.tW H W most = th at *
  have HT := Lib.hid htx; clear htx
  generalize Im.greyOf W px = f3 at *
  clear hg hr hpx hnn
  obtain ⟨W1, HW1, hP1, hs1, hB1⟩ := box w #[.int .i64 W, .int .i64 H, .slice a n ca] 24
  obtain ⟨W2, HW2, hP2, hs2, hB2⟩ := box W1 #[.int .i64 cw] 3
  obtain ⟨W3, HW3, hP3, hs3, hB3⟩ := box W2 #[.int .i64 ch] 3
  obtain ⟨W4, HW4, hP4, hs4, hB4⟩ := box W3 #[.int .i64 most] 3
  have hB34 := below_up hB3 hB4
  have hB24 := below_up hB2 hB34
  have hB04 := below_up hB1 hB24
  have hP1 := hP1.keep hB24
  have hP2 := hP2.keep hB34
  have hP3 := hP3.keep hB4
  rw [show W1.heap.size = w.heap.size + 1 by omega] at hP2
  rw [show W2.heap.size = w.heap.size + 2 by omega] at hP3
  rw [show W3.heap.size = w.heap.size + 3 by omega] at hP4
  have HALL := Lib.hid (fun V (hV : Below W4.heap.size W4 V) => And.intro (hP1.keep hV).three (And.intro (hP2.keep hV).one (And.intro (hP3.keep hV).one (hP4.keep hV).one)))
  have H1 := Lib.hid HW1; have H2 := Lib.hid HW2; have H3 := Lib.hid HW3; have H4 := Lib.hid HW4
  clear HW1 HW2 HW3 HW4 hP1 hP2 hP3 hP4 hB1 hB2 hB3 hB4 hB24 hB34 hs1 hs2 hs3 hs4
  by_cases s0 : cw < 1
  · clear hs
    go_enter Try.func7, Try.ntmps7
    go_wp2_with (first
      | (go_at_call 30; rw [H1.out, H2.out, H3.out, H4.out]; refine (HS.out _ hB04).mono ?_; rintro e w1 ⟨rfl, hBt⟩; have hC := below_allocs hBt (.cells #[.int .i64 0, .int .i64 0, .slice none 0 0] 24); have hD1 := below_allocs (Below.refl _ w1) (.cells #[.int .i64 0, .int .i64 0, .slice none 0 0] 24); have hX1 := Blk.new w1 #[.int .i64 0, .int .i64 0, .slice none 0 0] 24; obtain ⟨⟨p0, p1, p2⟩, p3, p4, p5⟩ := HALL.out _ hC)
      | (go_at_call 31; refine (HT.out _ (below_up hB04 hC)).mono ?_; rintro e w2 ⟨a2, c2, rfl, hb2, hc2, hd2, hBt⟩; have hBx := below_allocs hBt (.cells #[.int .i64 tw, .int .i64 th, .slice a2 M2 c2] 24); have hC := below_up hC hBx; have hD1 := below_up hD1 hBx; have hX1 := hX1.keep hBx; have hD2 := below_allocs (Below.refl _ w2) (.cells #[.int .i64 tw, .int .i64 th, .slice a2 M2 c2] 24); have hX2 := Blk.new w2 #[.int .i64 tw, .int .i64 th, .slice a2 M2 c2] 24; obtain ⟨⟨p0, p1, p2⟩, p3, p4, p5⟩ := HALL.out _ hC)
      | (go_at_call 32; refine (HG.out _ (below_up hB04 hC)).mono ?_; rintro e w3 ⟨a3, c3, rfl, hb3, hc3, hd3, hBt⟩; have hBx := below_allocs hBt (.cells #[.int .i64 W, .int .i64 H, .slice a3 n c3] 24); have hC := below_up hC hBx; have hD1 := below_up hD1 hBx; have hX1 := hX1.keep hBx; have hD2 := below_up hD2 hBx; have hX2 := hX2.keep hBx; have hD3 := below_allocs (Below.refl _ w3) (.cells #[.int .i64 W, .int .i64 H, .slice a3 n c3] 24); have hX3 := Blk.new w3 #[.int .i64 W, .int .i64 H, .slice a3 n c3] 24; obtain ⟨⟨p0, p1, p2⟩, p3, p4, p5⟩ := HALL.out _ hC))
    have hC := hC.drew; have hD1 := hD1.drew; have hD2 := hD2.drew; have hD3 := hD3.drew; have hX1 := hX1.drew; have hX2 := hX2.drew; have hX3 := hX3.drew
    go_region_held3 (fun w' => w'.cell? ⟨w.heap.size, 0, none⟩ = some (.int .i64 W) ∧ w'.cell? ⟨w.heap.size, 1, none⟩ = some (.int .i64 H) ∧ w'.cell? ⟨w.heap.size, 2, none⟩ = some (.slice a n ca))
      (exact (HALL.out _ hC).1)
      ((go_at_call 15; refine (imageError_is _ _ _ _ _ _ hn).mono ?_; rw [HE.out]; rintro e wz ⟨rfl, hBx⟩; have hC := below_up hC hBx; have hD1 := below_up hD1 hBx; have hD2 := below_up hD2 hBx; have hD3 := below_up hD3 hBx; have hX1 := hX1.keep hBx; have hX2 := hX2.keep hBx; have hX3 := hX3.keep hBx))
    all_goals
      obtain ⟨⟨p0, p1, p2⟩, p3, p4, p5⟩ := HALL.out _ hC; obtain ⟨x0, x1, x2⟩ := hX1.three; obtain ⟨y0, y1, y2⟩ := hX2.three; obtain ⟨z0, z1, z2⟩ := hX3.three
      go_wp2_with (go_at_call 16; first
        | ((with_reducible refine (made_ok 35 _ pixScales2_eg tw th _ M2 c2 f2 _ (hb2.keep hD2) hM2 hc2 (fun V hV => HG2.out V (below_up hB04 (below_up hC hV)) _ _ ⟨(HALL.out V (below_up hC hV)).1, (HALL.out V (below_up hC hV)).2.2.2⟩)).mono ?_); rintro e w5 ⟨rfl, hBx⟩; have hC := below_up hC hBx; have hD1 := below_up hD1 hBx; have hD2 := below_up hD2 hBx; have hD3 := below_up hD3 hBx; have hX1 := hX1.keep hBx; have hX2 := hX2.keep hBx; have hX3 := hX3.keep hBx; obtain ⟨⟨p0, p1, p2⟩, p3, p4, p5⟩ := HALL.out _ hC; obtain ⟨x0, x1, x2⟩ := hX1.three; obtain ⟨y0, y1, y2⟩ := hX2.three; obtain ⟨z0, z1, z2⟩ := hX3.three)
        | ((with_reducible refine (made_ok 37 _ pixScales3_eg W H _ n c3 f3 _ (hb3.keep hD3) hn2 hc3 (fun V hV => HG3.out V (below_up hB04 (below_up hC hV)) _ (HALL.out V (below_up hC hV)).1)).mono ?_); rintro e w5 ⟨rfl, hBx⟩; have hC := below_up hC hBx; have hD1 := below_up hD1 hBx; have hD2 := below_up hD2 hBx; have hD3 := below_up hD3 hBx; have hX1 := hX1.keep hBx; have hX2 := hX2.keep hBx; have hX3 := hX3.keep hBx; obtain ⟨⟨p0, p1, p2⟩, p3, p4, p5⟩ := HALL.out _ hC; obtain ⟨x0, x1, x2⟩ := hX1.three; obtain ⟨y0, y1, y2⟩ := hX2.three; obtain ⟨z0, z1, z2⟩ := hX3.three)
        | ((with_reducible refine (made_err 2 (by omega) _ _ _).mono ?_); rintro e w5 ⟨rfl, hBx⟩; have hC := below_up hC hBx; have hD1 := below_up hD1 hBx; have hD2 := below_up hD2 hBx; have hD3 := below_up hD3 hBx; have hX1 := hX1.keep hBx; have hX2 := hX2.keep hBx; have hX3 := hX3.keep hBx; obtain ⟨⟨p0, p1, p2⟩, p3, p4, p5⟩ := HALL.out _ hC; obtain ⟨x0, x1, x2⟩ := hX1.three; obtain ⟨y0, y1, y2⟩ := hX2.three; obtain ⟨z0, z1, z2⟩ := hX3.three))
      go_ret
      exact ⟨rfl, below_up hB04 hC⟩
  by_cases s1 : 64 < cw
  · clear hs
    go_enter Try.func7, Try.ntmps7
    go_wp2_with (first
      | (go_at_call 30; rw [H1.out, H2.out, H3.out, H4.out]; refine (HS.out _ hB04).mono ?_; rintro e w1 ⟨rfl, hBt⟩; have hC := below_allocs hBt (.cells #[.int .i64 0, .int .i64 0, .slice none 0 0] 24); have hD1 := below_allocs (Below.refl _ w1) (.cells #[.int .i64 0, .int .i64 0, .slice none 0 0] 24); have hX1 := Blk.new w1 #[.int .i64 0, .int .i64 0, .slice none 0 0] 24; obtain ⟨⟨p0, p1, p2⟩, p3, p4, p5⟩ := HALL.out _ hC)
      | (go_at_call 31; refine (HT.out _ (below_up hB04 hC)).mono ?_; rintro e w2 ⟨a2, c2, rfl, hb2, hc2, hd2, hBt⟩; have hBx := below_allocs hBt (.cells #[.int .i64 tw, .int .i64 th, .slice a2 M2 c2] 24); have hC := below_up hC hBx; have hD1 := below_up hD1 hBx; have hX1 := hX1.keep hBx; have hD2 := below_allocs (Below.refl _ w2) (.cells #[.int .i64 tw, .int .i64 th, .slice a2 M2 c2] 24); have hX2 := Blk.new w2 #[.int .i64 tw, .int .i64 th, .slice a2 M2 c2] 24; obtain ⟨⟨p0, p1, p2⟩, p3, p4, p5⟩ := HALL.out _ hC)
      | (go_at_call 32; refine (HG.out _ (below_up hB04 hC)).mono ?_; rintro e w3 ⟨a3, c3, rfl, hb3, hc3, hd3, hBt⟩; have hBx := below_allocs hBt (.cells #[.int .i64 W, .int .i64 H, .slice a3 n c3] 24); have hC := below_up hC hBx; have hD1 := below_up hD1 hBx; have hX1 := hX1.keep hBx; have hD2 := below_up hD2 hBx; have hX2 := hX2.keep hBx; have hD3 := below_allocs (Below.refl _ w3) (.cells #[.int .i64 W, .int .i64 H, .slice a3 n c3] 24); have hX3 := Blk.new w3 #[.int .i64 W, .int .i64 H, .slice a3 n c3] 24; obtain ⟨⟨p0, p1, p2⟩, p3, p4, p5⟩ := HALL.out _ hC))
    have hC := hC.drew; have hD1 := hD1.drew; have hD2 := hD2.drew; have hD3 := hD3.drew; have hX1 := hX1.drew; have hX2 := hX2.drew; have hX3 := hX3.drew
    go_region_held3 (fun w' => w'.cell? ⟨w.heap.size, 0, none⟩ = some (.int .i64 W) ∧ w'.cell? ⟨w.heap.size, 1, none⟩ = some (.int .i64 H) ∧ w'.cell? ⟨w.heap.size, 2, none⟩ = some (.slice a n ca))
      (exact (HALL.out _ hC).1)
      ((go_at_call 15; refine (imageError_is _ _ _ _ _ _ hn).mono ?_; rw [HE.out]; rintro e wz ⟨rfl, hBx⟩; have hC := below_up hC hBx; have hD1 := below_up hD1 hBx; have hD2 := below_up hD2 hBx; have hD3 := below_up hD3 hBx; have hX1 := hX1.keep hBx; have hX2 := hX2.keep hBx; have hX3 := hX3.keep hBx))
    all_goals
      obtain ⟨⟨p0, p1, p2⟩, p3, p4, p5⟩ := HALL.out _ hC; obtain ⟨x0, x1, x2⟩ := hX1.three; obtain ⟨y0, y1, y2⟩ := hX2.three; obtain ⟨z0, z1, z2⟩ := hX3.three
      go_wp2_with (go_at_call 16; first
        | ((with_reducible refine (made_ok 35 _ pixScales2_eg tw th _ M2 c2 f2 _ (hb2.keep hD2) hM2 hc2 (fun V hV => HG2.out V (below_up hB04 (below_up hC hV)) _ _ ⟨(HALL.out V (below_up hC hV)).1, (HALL.out V (below_up hC hV)).2.2.2⟩)).mono ?_); rintro e w5 ⟨rfl, hBx⟩; have hC := below_up hC hBx; have hD1 := below_up hD1 hBx; have hD2 := below_up hD2 hBx; have hD3 := below_up hD3 hBx; have hX1 := hX1.keep hBx; have hX2 := hX2.keep hBx; have hX3 := hX3.keep hBx; obtain ⟨⟨p0, p1, p2⟩, p3, p4, p5⟩ := HALL.out _ hC; obtain ⟨x0, x1, x2⟩ := hX1.three; obtain ⟨y0, y1, y2⟩ := hX2.three; obtain ⟨z0, z1, z2⟩ := hX3.three)
        | ((with_reducible refine (made_ok 37 _ pixScales3_eg W H _ n c3 f3 _ (hb3.keep hD3) hn2 hc3 (fun V hV => HG3.out V (below_up hB04 (below_up hC hV)) _ (HALL.out V (below_up hC hV)).1)).mono ?_); rintro e w5 ⟨rfl, hBx⟩; have hC := below_up hC hBx; have hD1 := below_up hD1 hBx; have hD2 := below_up hD2 hBx; have hD3 := below_up hD3 hBx; have hX1 := hX1.keep hBx; have hX2 := hX2.keep hBx; have hX3 := hX3.keep hBx; obtain ⟨⟨p0, p1, p2⟩, p3, p4, p5⟩ := HALL.out _ hC; obtain ⟨x0, x1, x2⟩ := hX1.three; obtain ⟨y0, y1, y2⟩ := hX2.three; obtain ⟨z0, z1, z2⟩ := hX3.three)
        | ((with_reducible refine (made_err 2 (by omega) _ _ _).mono ?_); rintro e w5 ⟨rfl, hBx⟩; have hC := below_up hC hBx; have hD1 := below_up hD1 hBx; have hD2 := below_up hD2 hBx; have hD3 := below_up hD3 hBx; have hX1 := hX1.keep hBx; have hX2 := hX2.keep hBx; have hX3 := hX3.keep hBx; obtain ⟨⟨p0, p1, p2⟩, p3, p4, p5⟩ := HALL.out _ hC; obtain ⟨x0, x1, x2⟩ := hX1.three; obtain ⟨y0, y1, y2⟩ := hX2.three; obtain ⟨z0, z1, z2⟩ := hX3.three))
      go_ret
      exact ⟨rfl, below_up hB04 hC⟩
  by_cases s2 : ch < 1
  · clear hs
    go_enter Try.func7, Try.ntmps7
    go_wp2_with (first
      | (go_at_call 30; rw [H1.out, H2.out, H3.out, H4.out]; refine (HS.out _ hB04).mono ?_; rintro e w1 ⟨rfl, hBt⟩; have hC := below_allocs hBt (.cells #[.int .i64 0, .int .i64 0, .slice none 0 0] 24); have hD1 := below_allocs (Below.refl _ w1) (.cells #[.int .i64 0, .int .i64 0, .slice none 0 0] 24); have hX1 := Blk.new w1 #[.int .i64 0, .int .i64 0, .slice none 0 0] 24; obtain ⟨⟨p0, p1, p2⟩, p3, p4, p5⟩ := HALL.out _ hC)
      | (go_at_call 31; refine (HT.out _ (below_up hB04 hC)).mono ?_; rintro e w2 ⟨a2, c2, rfl, hb2, hc2, hd2, hBt⟩; have hBx := below_allocs hBt (.cells #[.int .i64 tw, .int .i64 th, .slice a2 M2 c2] 24); have hC := below_up hC hBx; have hD1 := below_up hD1 hBx; have hX1 := hX1.keep hBx; have hD2 := below_allocs (Below.refl _ w2) (.cells #[.int .i64 tw, .int .i64 th, .slice a2 M2 c2] 24); have hX2 := Blk.new w2 #[.int .i64 tw, .int .i64 th, .slice a2 M2 c2] 24; obtain ⟨⟨p0, p1, p2⟩, p3, p4, p5⟩ := HALL.out _ hC)
      | (go_at_call 32; refine (HG.out _ (below_up hB04 hC)).mono ?_; rintro e w3 ⟨a3, c3, rfl, hb3, hc3, hd3, hBt⟩; have hBx := below_allocs hBt (.cells #[.int .i64 W, .int .i64 H, .slice a3 n c3] 24); have hC := below_up hC hBx; have hD1 := below_up hD1 hBx; have hX1 := hX1.keep hBx; have hD2 := below_up hD2 hBx; have hX2 := hX2.keep hBx; have hD3 := below_allocs (Below.refl _ w3) (.cells #[.int .i64 W, .int .i64 H, .slice a3 n c3] 24); have hX3 := Blk.new w3 #[.int .i64 W, .int .i64 H, .slice a3 n c3] 24; obtain ⟨⟨p0, p1, p2⟩, p3, p4, p5⟩ := HALL.out _ hC))
    have hC := hC.drew; have hD1 := hD1.drew; have hD2 := hD2.drew; have hD3 := hD3.drew; have hX1 := hX1.drew; have hX2 := hX2.drew; have hX3 := hX3.drew
    go_region_held3 (fun w' => w'.cell? ⟨w.heap.size, 0, none⟩ = some (.int .i64 W) ∧ w'.cell? ⟨w.heap.size, 1, none⟩ = some (.int .i64 H) ∧ w'.cell? ⟨w.heap.size, 2, none⟩ = some (.slice a n ca))
      (exact (HALL.out _ hC).1)
      ((go_at_call 15; refine (imageError_is _ _ _ _ _ _ hn).mono ?_; rw [HE.out]; rintro e wz ⟨rfl, hBx⟩; have hC := below_up hC hBx; have hD1 := below_up hD1 hBx; have hD2 := below_up hD2 hBx; have hD3 := below_up hD3 hBx; have hX1 := hX1.keep hBx; have hX2 := hX2.keep hBx; have hX3 := hX3.keep hBx))
    all_goals
      obtain ⟨⟨p0, p1, p2⟩, p3, p4, p5⟩ := HALL.out _ hC; obtain ⟨x0, x1, x2⟩ := hX1.three; obtain ⟨y0, y1, y2⟩ := hX2.three; obtain ⟨z0, z1, z2⟩ := hX3.three
      go_wp2_with (go_at_call 16; first
        | ((with_reducible refine (made_ok 35 _ pixScales2_eg tw th _ M2 c2 f2 _ (hb2.keep hD2) hM2 hc2 (fun V hV => HG2.out V (below_up hB04 (below_up hC hV)) _ _ ⟨(HALL.out V (below_up hC hV)).1, (HALL.out V (below_up hC hV)).2.2.2⟩)).mono ?_); rintro e w5 ⟨rfl, hBx⟩; have hC := below_up hC hBx; have hD1 := below_up hD1 hBx; have hD2 := below_up hD2 hBx; have hD3 := below_up hD3 hBx; have hX1 := hX1.keep hBx; have hX2 := hX2.keep hBx; have hX3 := hX3.keep hBx; obtain ⟨⟨p0, p1, p2⟩, p3, p4, p5⟩ := HALL.out _ hC; obtain ⟨x0, x1, x2⟩ := hX1.three; obtain ⟨y0, y1, y2⟩ := hX2.three; obtain ⟨z0, z1, z2⟩ := hX3.three)
        | ((with_reducible refine (made_ok 37 _ pixScales3_eg W H _ n c3 f3 _ (hb3.keep hD3) hn2 hc3 (fun V hV => HG3.out V (below_up hB04 (below_up hC hV)) _ (HALL.out V (below_up hC hV)).1)).mono ?_); rintro e w5 ⟨rfl, hBx⟩; have hC := below_up hC hBx; have hD1 := below_up hD1 hBx; have hD2 := below_up hD2 hBx; have hD3 := below_up hD3 hBx; have hX1 := hX1.keep hBx; have hX2 := hX2.keep hBx; have hX3 := hX3.keep hBx; obtain ⟨⟨p0, p1, p2⟩, p3, p4, p5⟩ := HALL.out _ hC; obtain ⟨x0, x1, x2⟩ := hX1.three; obtain ⟨y0, y1, y2⟩ := hX2.three; obtain ⟨z0, z1, z2⟩ := hX3.three)
        | ((with_reducible refine (made_err 2 (by omega) _ _ _).mono ?_); rintro e w5 ⟨rfl, hBx⟩; have hC := below_up hC hBx; have hD1 := below_up hD1 hBx; have hD2 := below_up hD2 hBx; have hD3 := below_up hD3 hBx; have hX1 := hX1.keep hBx; have hX2 := hX2.keep hBx; have hX3 := hX3.keep hBx; obtain ⟨⟨p0, p1, p2⟩, p3, p4, p5⟩ := HALL.out _ hC; obtain ⟨x0, x1, x2⟩ := hX1.three; obtain ⟨y0, y1, y2⟩ := hX2.three; obtain ⟨z0, z1, z2⟩ := hX3.three))
      go_ret
      exact ⟨rfl, below_up hB04 hC⟩
  have s3 : 64 < ch := by omega
  clear hs
  go_enter Try.func7, Try.ntmps7
  go_wp2_with (first
    | (go_at_call 30; rw [H1.out, H2.out, H3.out, H4.out]; refine (HS.out _ hB04).mono ?_; rintro e w1 ⟨rfl, hBt⟩; have hC := below_allocs hBt (.cells #[.int .i64 0, .int .i64 0, .slice none 0 0] 24); have hD1 := below_allocs (Below.refl _ w1) (.cells #[.int .i64 0, .int .i64 0, .slice none 0 0] 24); have hX1 := Blk.new w1 #[.int .i64 0, .int .i64 0, .slice none 0 0] 24; obtain ⟨⟨p0, p1, p2⟩, p3, p4, p5⟩ := HALL.out _ hC)
    | (go_at_call 31; refine (HT.out _ (below_up hB04 hC)).mono ?_; rintro e w2 ⟨a2, c2, rfl, hb2, hc2, hd2, hBt⟩; have hBx := below_allocs hBt (.cells #[.int .i64 tw, .int .i64 th, .slice a2 M2 c2] 24); have hC := below_up hC hBx; have hD1 := below_up hD1 hBx; have hX1 := hX1.keep hBx; have hD2 := below_allocs (Below.refl _ w2) (.cells #[.int .i64 tw, .int .i64 th, .slice a2 M2 c2] 24); have hX2 := Blk.new w2 #[.int .i64 tw, .int .i64 th, .slice a2 M2 c2] 24; obtain ⟨⟨p0, p1, p2⟩, p3, p4, p5⟩ := HALL.out _ hC)
    | (go_at_call 32; refine (HG.out _ (below_up hB04 hC)).mono ?_; rintro e w3 ⟨a3, c3, rfl, hb3, hc3, hd3, hBt⟩; have hBx := below_allocs hBt (.cells #[.int .i64 W, .int .i64 H, .slice a3 n c3] 24); have hC := below_up hC hBx; have hD1 := below_up hD1 hBx; have hX1 := hX1.keep hBx; have hD2 := below_up hD2 hBx; have hX2 := hX2.keep hBx; have hD3 := below_allocs (Below.refl _ w3) (.cells #[.int .i64 W, .int .i64 H, .slice a3 n c3] 24); have hX3 := Blk.new w3 #[.int .i64 W, .int .i64 H, .slice a3 n c3] 24; obtain ⟨⟨p0, p1, p2⟩, p3, p4, p5⟩ := HALL.out _ hC))
  have hC := hC.drew; have hD1 := hD1.drew; have hD2 := hD2.drew; have hD3 := hD3.drew; have hX1 := hX1.drew; have hX2 := hX2.drew; have hX3 := hX3.drew
  go_region_held3 (fun w' => w'.cell? ⟨w.heap.size, 0, none⟩ = some (.int .i64 W) ∧ w'.cell? ⟨w.heap.size, 1, none⟩ = some (.int .i64 H) ∧ w'.cell? ⟨w.heap.size, 2, none⟩ = some (.slice a n ca))
    (exact (HALL.out _ hC).1)
    ((go_at_call 15; refine (imageError_is _ _ _ _ _ _ hn).mono ?_; rw [HE.out]; rintro e wz ⟨rfl, hBx⟩; have hC := below_up hC hBx; have hD1 := below_up hD1 hBx; have hD2 := below_up hD2 hBx; have hD3 := below_up hD3 hBx; have hX1 := hX1.keep hBx; have hX2 := hX2.keep hBx; have hX3 := hX3.keep hBx))
  all_goals
    obtain ⟨⟨p0, p1, p2⟩, p3, p4, p5⟩ := HALL.out _ hC; obtain ⟨x0, x1, x2⟩ := hX1.three; obtain ⟨y0, y1, y2⟩ := hX2.three; obtain ⟨z0, z1, z2⟩ := hX3.three
    go_wp2_with (go_at_call 16; first
      | ((with_reducible refine (made_ok 35 _ pixScales2_eg tw th _ M2 c2 f2 _ (hb2.keep hD2) hM2 hc2 (fun V hV => HG2.out V (below_up hB04 (below_up hC hV)) _ _ ⟨(HALL.out V (below_up hC hV)).1, (HALL.out V (below_up hC hV)).2.2.2⟩)).mono ?_); rintro e w5 ⟨rfl, hBx⟩; have hC := below_up hC hBx; have hD1 := below_up hD1 hBx; have hD2 := below_up hD2 hBx; have hD3 := below_up hD3 hBx; have hX1 := hX1.keep hBx; have hX2 := hX2.keep hBx; have hX3 := hX3.keep hBx; obtain ⟨⟨p0, p1, p2⟩, p3, p4, p5⟩ := HALL.out _ hC; obtain ⟨x0, x1, x2⟩ := hX1.three; obtain ⟨y0, y1, y2⟩ := hX2.three; obtain ⟨z0, z1, z2⟩ := hX3.three)
      | ((with_reducible refine (made_ok 37 _ pixScales3_eg W H _ n c3 f3 _ (hb3.keep hD3) hn2 hc3 (fun V hV => HG3.out V (below_up hB04 (below_up hC hV)) _ (HALL.out V (below_up hC hV)).1)).mono ?_); rintro e w5 ⟨rfl, hBx⟩; have hC := below_up hC hBx; have hD1 := below_up hD1 hBx; have hD2 := below_up hD2 hBx; have hD3 := below_up hD3 hBx; have hX1 := hX1.keep hBx; have hX2 := hX2.keep hBx; have hX3 := hX3.keep hBx; obtain ⟨⟨p0, p1, p2⟩, p3, p4, p5⟩ := HALL.out _ hC; obtain ⟨x0, x1, x2⟩ := hX1.three; obtain ⟨y0, y1, y2⟩ := hX2.three; obtain ⟨z0, z1, z2⟩ := hX3.three)
      | ((with_reducible refine (made_err 2 (by omega) _ _ _).mono ?_); rintro e w5 ⟨rfl, hBx⟩; have hC := below_up hC hBx; have hD1 := below_up hD1 hBx; have hD2 := below_up hD2 hBx; have hD3 := below_up hD3 hBx; have hX1 := hX1.keep hBx; have hX2 := hX2.keep hBx; have hX3 := hX3.keep hBx; obtain ⟨⟨p0, p1, p2⟩, p3, p4, p5⟩ := HALL.out _ hC; obtain ⟨x0, x1, x2⟩ := hX1.three; obtain ⟨y0, y1, y2⟩ := hX2.three; obtain ⟨z0, z1, z2⟩ := hX3.three))
    go_ret
    exact ⟨rfl, below_up hB04 hC⟩
end Go.Proofs.Ytkebkbjkapfgkaa
