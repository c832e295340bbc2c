/- The law PixCuts, walked. -/
import Derived.Test.YtkebkbjkapfgkaaPixCrop0
import Derived.Test.YtkebkbjkapfgkaaPixCrop1
import Derived.Test.YtkebkbjkapfgkaaPixCrop
import Derived.Test.YtkebkbjkapfgkaaPixCropped
import Derived.Test.YtkebkbjkapfgkaaPixMade
namespace Go.Proofs.Ytkebkbjkapfgkaa
open Go.RowKit Go.Sort Go.Shelf
set_option linter.unusedVariables false
theorem own_bytes {w : World} {B k g cap : Nat} {f : Nat → Int} (h : w.ownsRow B 5 1 (.slice (some ⟨g, 0, none⟩) k cap) k (bytes k f)) : Bytes w (some ⟨g, 0, none⟩) k f := by
  intro hk
  refine ⟨g, 0, rfl, (h.lt g rfl).2, fun i hi => ?_⟩
  have := h.cells (g := g) rfl i (.int .u8 (f i)) (by simp [bytes, hi])
  rwa [show (⟨g, 0, none⟩ : Addr).add i = ⟨g, 0 + i, none⟩ from by unfold Addr.add; split <;> simp_all] at this
theorem out_bytes {w : World} {b N : Nat} {f : Nat → Int} (h : Out w b N f) : Bytes w (some ⟨b, 0, none⟩) N f := by
  intro hk
  refine ⟨b, 0, rfl, h.lt, fun i hi => ?_⟩
  rw [Nat.zero_add]
  have := Blk.cell h i
  rw [this]; simp [hi]
set_option maxHeartbeats 1000000 in
theorem pixCuts1_is (W H x y cw ch : Nat) (a : Option Addr) (ca : Nat) (px : Nat → Int) (w : World) (hW : 1 ≤ W ∧ W ≤ 64 ∧ 1 ≤ H ∧ H ≤ 64) (hr : Row w a (3 * (H * W)) (fun i => .int .u8 (px i)))
    (hca : 3 * (H * W) ≤ ca) (hca2 : ca ≤ 9223372036854775807) (h1 : 1 ≤ cw) (h2 : 1 ≤ ch) (hx : x + cw ≤ W) (hy : y + ch ≤ H) (b5 b6 b7 b8 b9 : Nat)
    (c : (w.cell? ⟨b5, 0, none⟩ = some (.int .i64 W) ∧ w.cell? ⟨b5, 1, none⟩ = some (.int .i64 H) ∧ w.cell? ⟨b5, 2, none⟩ = some (.slice a (3 * (H * W)) ca)) ∧ w.cell? ⟨b6, 0, none⟩ = some (.int .i64 x) ∧ w.cell? ⟨b7, 0, none⟩ = some (.int .i64 y) ∧ w.cell? ⟨b8, 0, none⟩ = some (.int .i64 cw) ∧ w.cell? ⟨b9, 0, none⟩ = some (.int .i64 ch)) :
    Calls Try.prog 17 #[.pointer (some ⟨b5, 0, none⟩), .pointer (some ⟨b6, 0, none⟩), .pointer (some ⟨b7, 0, none⟩), .pointer (some ⟨b8, 0, none⟩), .pointer (some ⟨b9, 0, none⟩)] w fun e w' =>
      ∃ a2 ca2, e = .returned (.agg #[.int .i64 cw, .int .i64 ch, .slice a2 (3 * (ch * cw)) ca2]) ∧ Bytes w' a2 (3 * (ch * cw)) (Im.content cw (fun i k c => Im.pix px W (x + i) (y + k) c)) ∧ 3 * (ch * cw) ≤ ca2 ∧ Below w.heap.size w w' := by
  obtain ⟨⟨c0, c1, c2⟩, c3, c4, c5, c6⟩ := c
  have l5 := World.block_lt_of_cell? w _ c0
  have l6 := World.block_lt_of_cell? w _ c3
  have l7 := World.block_lt_of_cell? w _ c4
  have l8 := World.block_lt_of_cell? w _ c5
  have l9 := World.block_lt_of_cell? w _ c6
  obtain ⟨W1, HW1, hR, hs1, hB1⟩ := box w #[.int .i64 0, .int .i64 0, .slice none 0 0] 24
  obtain ⟨f, hf⟩ : ∃ f, Im.content cw (fun i k c => Im.pix px W (x + i) (y + k) c) = f := ⟨_, rfl⟩
  have HCR := Lib.hid (cropped_is W H x y cw ch a ca px W1 hW (hr.keep hB1) hca hca2 h1 h2 hx hy)
  rw [hf] at HCR ⊢
  clear hf hr
  have H1 := Lib.hid HW1; clear HW1
  go_enter Try.func17, Try.ntmps17
  go_wp2_with (go_at_call 18; rw [H1.out]; refine HCR.out.mono ?_; rintro e w2 ⟨g, cap, rfl, hcap1, hcap2, hown, hB2⟩; have hR2 := hR.keep hB2; have hF := hR2.free; obtain ⟨r0, r1, r2⟩ := hR2.three)
  have hlt := (hown.lt g rfl).1
  have hby := (own_bytes hown)
  have hBf := (((below_up hB1 hB2).setCell (p := ⟨w.heap.size, 0, none⟩) (by simp) (.int .i64 cw)).setCell (p := ⟨w.heap.size, 1, none⟩) (by simp) (.int .i64 ch)).setCell (p := ⟨w.heap.size, 2, none⟩) (by simp) (.slice (some ⟨g, 0, none⟩) (3 * (ch * cw)) cap)
  have hbf : Bytes (((w2.setCell ⟨w.heap.size, 0, none⟩ (.int .i64 cw)).setCell ⟨w.heap.size, 1, none⟩ (.int .i64 ch)).setCell ⟨w.heap.size, 2, none⟩ (.slice (some ⟨g, 0, none⟩) (3 * (ch * cw)) cap)) (some ⟨g, 0, none⟩) (3 * (ch * cw)) f :=
    own_bytes (Grow.kept_set (Grow.kept_set (Grow.kept_set hown (by simp; omega) _) (by simp; omega) _) (by simp; omega) _)
  exact bodyPost_ret (v := .agg #[.int .i64 cw, .int .i64 ch, .slice (some ⟨g, 0, none⟩) (3 * (ch * cw)) cap]) (by simp [results, Try.results17, go_sem, r0, r1, r2]) rfl ⟨_, _, rfl, hbf, hcap1, hBf⟩
theorem pixCuts1_eg : ∀ args w, (callFunc 17 args).run Try.prog w = .ok (.enter 17 args) w := enters_of Try.func17 (by kernel_rfl) rfl
set_option maxRecDepth 100000 in
set_option maxHeartbeats 2000000 in
theorem pixCuts_err (W H x y cw ch : Int) (a : Option Addr) (n ca : Nat) (w : World) (hn : n ≤ 9223372036854775807) (q : Int) (he : Im.err W H n = q) (hq : q ≠ 0) :
    Calls Try.prog 3 #[.agg #[.int .i64 W, .int .i64 H, .slice a n ca], .int .i64 x, .int .i64 y, .int .i64 cw, .int .i64 ch] w fun e w' => e = .returned (.bool true) ∧ Below w.heap.size w w' := by
  have HE := Lib.hid he; clear he
  have hq' : (q == 0) = false := by simpa using hq
  obtain ⟨W1, HW1, hP1, hs1, hB1⟩ := box w #[.int .i64 W, .int .i64 H, .slice a n ca] 24
  obtain ⟨W2, HW2, hP2, hs2, hB2⟩ := box W1 #[.int .i64 x] 3
  obtain ⟨W3, HW3, hP3, hs3, hB3⟩ := box W2 #[.int .i64 y] 3
  obtain ⟨W4, HW4, hP4, hs4, hB4⟩ := box W3 #[.int .i64 cw] 3
  obtain ⟨W5, HW5, hP5, hs5, hB5⟩ := box W4 #[.int .i64 ch] 3
  have hB15 := below_up hB2 (below_up hB3 (below_up hB4 hB5))
  have hB05 := below_up hB1 hB15
  have hP1 := hP1.keep hB15
  have hP2 := hP2.keep (below_up hB3 (below_up hB4 hB5))
  have hP3 := hP3.keep (below_up hB4 hB5)
  have hP4 := hP4.keep hB5
  rw [show W1.heap.size = w.heap.size + 1 by omega] at hP2
  rw [show W2.heap.size = w.heap.size + 2 by omega] at hP3
  rw [show W3.heap.size = w.heap.size + 3 by omega] at hP4
  rw [show W4.heap.size = w.heap.size + 4 by omega] at hP5
  have HALL := Lib.hid (fun V (hV : Below W5.heap.size W5 V) => And.intro (hP1.keep hV).three (And.intro (hP2.keep hV).one (And.intro (hP3.keep hV).one (And.intro (hP4.keep hV).one (hP5.keep hV).one))))
  have H1 := Lib.hid HW1; have H2 := Lib.hid HW2; have H3 := Lib.hid HW3; have H4 := Lib.hid HW4; have H5 := Lib.hid HW5
  clear HW1 HW2 HW3 HW4 HW5 hP1 hP2 hP3 hP4 hP5 hB1 hB2 hB3 hB4 hB5 hB15 hs1 hs2 hs3 hs4
  have HCR := Lib.hid (fun V (hV : Below w.heap.size w V) => crop_err W H x y cw ch a n ca q V hn HE.out hq)
  -- rintro e w1 ⟨rfl, hBc⟩: the rest of made's contract (a term for the case)
  go_enter Try.func3, Try.ntmps3
  go_wp2_with (first
    | (go_at_call 14; rw [H1.out, H2.out, H3.out, H4.out, H5.out]; refine (HCR.out _ hB05).mono ?_; rintro e w1 ⟨rfl, hBc⟩; obtain ⟨⟨p0, p1, p2⟩, p3, p4, p5, p6⟩ := HALL.out _ (below_allocs hBc (.cells #[.int .i64 0, .int .i64 0, .slice none 0 0] 24)))
    | (go_at_call 15; refine (imageError_is _ _ _ _ _ _ hn).mono ?_; rw [HE.out]; rintro e w2 ⟨rfl, hBe⟩; have hBf := below_up (below_allocs hBc _) hBe; obtain ⟨⟨k0, k1, k2⟩, k3, k4, k5, k6⟩ := HALL.out _ hBf; obtain ⟨j0, j1, j2⟩ := ((Blk.new w1 #[.int .i64 0, .int .i64 0, .slice none 0 0] 24).keep hBe).three)
    | (go_at_call 16; refine (made_err q hq _ _ _).mono ?_; rintro e w3 ⟨rfl, hB3⟩))
  go_ret
  exact ⟨rfl, below_up (below_up hB05 hBf) hB3⟩
set_option maxRecDepth 100000 in
set_option maxHeartbeats 6000000 in
theorem pixCuts_range (W H x y cw ch : Int) (a : Option Addr) (n ca : Nat) (w : World) (hn : n ≤ 9223372036854775807) (he : Im.err W H n = 0) (hW : 1 ≤ W ∧ W ≤ 64 ∧ 1 ≤ H ∧ H ≤ 64)
    (hx : -9223372036854775808 ≤ x ∧ x ≤ 9223372036854775807) (hy : -9223372036854775808 ≤ y ∧ y ≤ 9223372036854775807)
    (hbad : x < 0 ∨ y < 0 ∨ (cw < 1 ∨ W < cw) ∨ (ch < 1 ∨ H < ch) ∨ W - cw < x ∨ H - ch < y) :
    Calls Try.prog 3 #[.agg #[.int .i64 W, .int .i64 H, .slice a n ca], .int .i64 x, .int .i64 y, .int .i64 cw, .int .i64 ch] w fun e w' => e = .returned (.bool true) ∧ Below w.heap.size w w' := by
  have HE := Lib.hid he; clear he
  have HCR := Lib.hid (fun V (hV : Below w.heap.size w V) => crop_range W H x y cw ch a n ca V hn HE.out hW hx hy hbad)
  obtain ⟨W1, HW1, hP1, hs1, hB1⟩ := box w #[.int .i64 W, .int .i64 H, .slice a n ca] 24
  obtain ⟨W2, HW2, hP2, hs2, hB2⟩ := box W1 #[.int .i64 x] 3
  obtain ⟨W3, HW3, hP3, hs3, hB3⟩ := box W2 #[.int .i64 y] 3
  obtain ⟨W4, HW4, hP4, hs4, hB4⟩ := box W3 #[.int .i64 cw] 3
  obtain ⟨W5, HW5, hP5, hs5, hB5⟩ := box W4 #[.int .i64 ch] 3
  have hB15 := below_up hB2 (below_up hB3 (below_up hB4 hB5))
  have hB05 := below_up hB1 hB15
  have hP1 := hP1.keep hB15
  have hP2 := hP2.keep (below_up hB3 (below_up hB4 hB5))
  have hP3 := hP3.keep (below_up hB4 hB5)
  have hP4 := hP4.keep hB5
  rw [show W1.heap.size = w.heap.size + 1 by omega] at hP2
  rw [show W2.heap.size = w.heap.size + 2 by omega] at hP3
  rw [show W3.heap.size = w.heap.size + 3 by omega] at hP4
  rw [show W4.heap.size = w.heap.size + 4 by omega] at hP5
  have HALL := Lib.hid (fun V (hV : Below W5.heap.size W5 V) => And.intro (hP1.keep hV).three (And.intro (hP2.keep hV).one (And.intro (hP3.keep hV).one (And.intro (hP4.keep hV).one (hP5.keep hV).one))))
  have H1 := Lib.hid HW1; have H2 := Lib.hid HW2; have H3 := Lib.hid HW3; have H4 := Lib.hid HW4; have H5 := Lib.hid HW5
  clear HW1 HW2 HW3 HW4 HW5 hP1 hP2 hP3 hP4 hP5 hB1 hB2 hB3 hB4 hB5 hB15 hs1 hs2 hs3 hs4
  by_cases c1 : x < 0
  · clear hbad
    -- rintro e w1 ⟨rfl, hBc⟩: the rest of made's contract (a term for the case)
    go_enter Try.func3, Try.ntmps3
    go_wp2_with (first
      | (go_at_call 14; rw [H1.out, H2.out, H3.out, H4.out, H5.out]; refine (HCR.out _ hB05).mono ?_; rintro e w1 ⟨rfl, hBc⟩; obtain ⟨⟨p0, p1, p2⟩, p3, p4, p5, p6⟩ := HALL.out _ (below_allocs hBc (.cells #[.int .i64 0, .int .i64 0, .slice none 0 0] 24)))
      | (go_at_call 15; refine (imageError_is _ _ _ _ _ _ hn).mono ?_; rw [HE.out]; rintro e w2 ⟨rfl, hBe⟩; have hBf := below_up (below_allocs hBc _) hBe; obtain ⟨⟨k0, k1, k2⟩, k3, k4, k5, k6⟩ := HALL.out _ hBf; obtain ⟨j0, j1, j2⟩ := ((Blk.new w1 #[.int .i64 0, .int .i64 0, .slice none 0 0] 24).keep hBe).three)
      | (go_at_call 16; refine (made_err 2 (by omega) _ _ _).mono ?_; rintro e w3 ⟨rfl, hB3⟩))
    go_ret
    exact ⟨rfl, below_up (below_up hB05 hBf) hB3⟩
  by_cases c2 : y < 0
  · clear hbad
    -- rintro e w1 ⟨rfl, hBc⟩: the rest of made's contract (a term for the case)
    go_enter Try.func3, Try.ntmps3
    go_wp2_with (first
      | (go_at_call 14; rw [H1.out, H2.out, H3.out, H4.out, H5.out]; refine (HCR.out _ hB05).mono ?_; rintro e w1 ⟨rfl, hBc⟩; obtain ⟨⟨p0, p1, p2⟩, p3, p4, p5, p6⟩ := HALL.out _ (below_allocs hBc (.cells #[.int .i64 0, .int .i64 0, .slice none 0 0] 24)))
      | (go_at_call 15; refine (imageError_is _ _ _ _ _ _ hn).mono ?_; rw [HE.out]; rintro e w2 ⟨rfl, hBe⟩; have hBf := below_up (below_allocs hBc _) hBe; obtain ⟨⟨k0, k1, k2⟩, k3, k4, k5, k6⟩ := HALL.out _ hBf; obtain ⟨j0, j1, j2⟩ := ((Blk.new w1 #[.int .i64 0, .int .i64 0, .slice none 0 0] 24).keep hBe).three)
      | (go_at_call 16; refine (made_err 2 (by omega) _ _ _).mono ?_; rintro e w3 ⟨rfl, hB3⟩))
    go_ret
    exact ⟨rfl, below_up (below_up hB05 hBf) hB3⟩
  by_cases c3 : cw < 1
  · clear hbad
    -- rintro e w1 ⟨rfl, hBc⟩: the rest of made's contract (a term for the case)
    go_enter Try.func3, Try.ntmps3
    go_wp2_with (first
      | (go_at_call 14; rw [H1.out, H2.out, H3.out, H4.out, H5.out]; refine (HCR.out _ hB05).mono ?_; rintro e w1 ⟨rfl, hBc⟩; obtain ⟨⟨p0, p1, p2⟩, p3, p4, p5, p6⟩ := HALL.out _ (below_allocs hBc (.cells #[.int .i64 0, .int .i64 0, .slice none 0 0] 24)))
      | (go_at_call 15; refine (imageError_is _ _ _ _ _ _ hn).mono ?_; rw [HE.out]; rintro e w2 ⟨rfl, hBe⟩; have hBf := below_up (below_allocs hBc _) hBe; obtain ⟨⟨k0, k1, k2⟩, k3, k4, k5, k6⟩ := HALL.out _ hBf; obtain ⟨j0, j1, j2⟩ := ((Blk.new w1 #[.int .i64 0, .int .i64 0, .slice none 0 0] 24).keep hBe).three)
      | (go_at_call 16; refine (made_err 2 (by omega) _ _ _).mono ?_; rintro e w3 ⟨rfl, hB3⟩))
    go_ret
    exact ⟨rfl, below_up (below_up hB05 hBf) hB3⟩
  by_cases c4 : ch < 1
  · clear hbad
    -- rintro e w1 ⟨rfl, hBc⟩: the rest of made's contract (a term for the case)
    go_enter Try.func3, Try.ntmps3
    go_wp2_with (first
      | (go_at_call 14; rw [H1.out, H2.out, H3.out, H4.out, H5.out]; refine (HCR.out _ hB05).mono ?_; rintro e w1 ⟨rfl, hBc⟩; obtain ⟨⟨p0, p1, p2⟩, p3, p4, p5, p6⟩ := HALL.out _ (below_allocs hBc (.cells #[.int .i64 0, .int .i64 0, .slice none 0 0] 24)))
      | (go_at_call 15; refine (imageError_is _ _ _ _ _ _ hn).mono ?_; rw [HE.out]; rintro e w2 ⟨rfl, hBe⟩; have hBf := below_up (below_allocs hBc _) hBe; obtain ⟨⟨k0, k1, k2⟩, k3, k4, k5, k6⟩ := HALL.out _ hBf; obtain ⟨j0, j1, j2⟩ := ((Blk.new w1 #[.int .i64 0, .int .i64 0, .slice none 0 0] 24).keep hBe).three)
      | (go_at_call 16; refine (made_err 2 (by omega) _ _ _).mono ?_; rintro e w3 ⟨rfl, hB3⟩))
    go_ret
    exact ⟨rfl, below_up (below_up hB05 hBf) hB3⟩
  by_cases c5 : W ≤ x
  · clear hbad
    -- rintro e w1 ⟨rfl, hBc⟩: the rest of made's contract (a term for the case)
    go_enter Try.func3, Try.ntmps3
    go_wp2_with (first
      | (go_at_call 14; rw [H1.out, H2.out, H3.out, H4.out, H5.out]; refine (HCR.out _ hB05).mono ?_; rintro e w1 ⟨rfl, hBc⟩; obtain ⟨⟨p0, p1, p2⟩, p3, p4, p5, p6⟩ := HALL.out _ (below_allocs hBc (.cells #[.int .i64 0, .int .i64 0, .slice none 0 0] 24)))
      | (go_at_call 15; refine (imageError_is _ _ _ _ _ _ hn).mono ?_; rw [HE.out]; rintro e w2 ⟨rfl, hBe⟩; have hBf := below_up (below_allocs hBc _) hBe; obtain ⟨⟨k0, k1, k2⟩, k3, k4, k5, k6⟩ := HALL.out _ hBf; obtain ⟨j0, j1, j2⟩ := ((Blk.new w1 #[.int .i64 0, .int .i64 0, .slice none 0 0] 24).keep hBe).three)
      | (go_at_call 16; refine (made_err 2 (by omega) _ _ _).mono ?_; rintro e w3 ⟨rfl, hB3⟩))
    go_ret
    exact ⟨rfl, below_up (below_up hB05 hBf) hB3⟩
  by_cases c6 : H ≤ y
  · clear hbad
    -- rintro e w1 ⟨rfl, hBc⟩: the rest of made's contract (a term for the case)
    go_enter Try.func3, Try.ntmps3
    go_wp2_with (first
      | (go_at_call 14; rw [H1.out, H2.out, H3.out, H4.out, H5.out]; refine (HCR.out _ hB05).mono ?_; rintro e w1 ⟨rfl, hBc⟩; obtain ⟨⟨p0, p1, p2⟩, p3, p4, p5, p6⟩ := HALL.out _ (below_allocs hBc (.cells #[.int .i64 0, .int .i64 0, .slice none 0 0] 24)))
      | (go_at_call 15; refine (imageError_is _ _ _ _ _ _ hn).mono ?_; rw [HE.out]; rintro e w2 ⟨rfl, hBe⟩; have hBf := below_up (below_allocs hBc _) hBe; obtain ⟨⟨k0, k1, k2⟩, k3, k4, k5, k6⟩ := HALL.out _ hBf; obtain ⟨j0, j1, j2⟩ := ((Blk.new w1 #[.int .i64 0, .int .i64 0, .slice none 0 0] 24).keep hBe).three)
      | (go_at_call 16; refine (made_err 2 (by omega) _ _ _).mono ?_; rintro e w3 ⟨rfl, hB3⟩))
    go_ret
    exact ⟨rfl, below_up (below_up hB05 hBf) hB3⟩
  by_cases c7 : W - x < cw
  · clear hbad
    -- rintro e w1 ⟨rfl, hBc⟩: the rest of made's contract (a term for the case)
    go_enter Try.func3, Try.ntmps3
    go_wp2_with (first
      | (go_at_call 14; rw [H1.out, H2.out, H3.out, H4.out, H5.out]; refine (HCR.out _ hB05).mono ?_; rintro e w1 ⟨rfl, hBc⟩; obtain ⟨⟨p0, p1, p2⟩, p3, p4, p5, p6⟩ := HALL.out _ (below_allocs hBc (.cells #[.int .i64 0, .int .i64 0, .slice none 0 0] 24)))
      | (go_at_call 15; refine (imageError_is _ _ _ _ _ _ hn).mono ?_; rw [HE.out]; rintro e w2 ⟨rfl, hBe⟩; have hBf := below_up (below_allocs hBc _) hBe; obtain ⟨⟨k0, k1, k2⟩, k3, k4, k5, k6⟩ := HALL.out _ hBf; obtain ⟨j0, j1, j2⟩ := ((Blk.new w1 #[.int .i64 0, .int .i64 0, .slice none 0 0] 24).keep hBe).three)
      | (go_at_call 16; refine (made_err 2 (by omega) _ _ _).mono ?_; rintro e w3 ⟨rfl, hB3⟩))
    go_ret
    exact ⟨rfl, below_up (below_up hB05 hBf) hB3⟩
  have c8 : H - y < ch := by omega
  clear hbad
  -- rintro e w1 ⟨rfl, hBc⟩: the rest of made's contract (a term for the case)
  go_enter Try.func3, Try.ntmps3
  go_wp2_with (first
    | (go_at_call 14; rw [H1.out, H2.out, H3.out, H4.out, H5.out]; refine (HCR.out _ hB05).mono ?_; rintro e w1 ⟨rfl, hBc⟩; obtain ⟨⟨p0, p1, p2⟩, p3, p4, p5, p6⟩ := HALL.out _ (below_allocs hBc (.cells #[.int .i64 0, .int .i64 0, .slice none 0 0] 24)))
    | (go_at_call 15; refine (imageError_is _ _ _ _ _ _ hn).mono ?_; rw [HE.out]; rintro e w2 ⟨rfl, hBe⟩; have hBf := below_up (below_allocs hBc _) hBe; obtain ⟨⟨k0, k1, k2⟩, k3, k4, k5, k6⟩ := HALL.out _ hBf; obtain ⟨j0, j1, j2⟩ := ((Blk.new w1 #[.int .i64 0, .int .i64 0, .slice none 0 0] 24).keep hBe).three)
    | (go_at_call 16; refine (made_err 2 (by omega) _ _ _).mono ?_; rintro e w3 ⟨rfl, hB3⟩))
  go_ret
  exact ⟨rfl, below_up (below_up hB05 hBf) hB3⟩
set_option maxRecDepth 100000 in
set_option maxHeartbeats 4000000 in
theorem pixCuts_ok (W H x y cw ch : Nat) (a : Option Addr) (n ca : Nat) (px : Nat → Int) (w : World) (hW : 1 ≤ W ∧ W ≤ 64 ∧ 1 ≤ H ∧ H ≤ 64) (hnn : n = 3 * (H * W)) (hr : Row w a n (fun i => .int .u8 (px i)))
    (hca : n ≤ ca) (hca2 : ca ≤ 9223372036854775807) (he : Im.err W H n = 0) (h1 : 1 ≤ cw) (h2 : 1 ≤ ch) (hx : x + cw ≤ W) (hy : y + ch ≤ H) :
    Calls Try.prog 3 #[.agg #[.int .i64 W, .int .i64 H, .slice a n ca], .int .i64 x, .int .i64 y, .int .i64 cw, .int .i64 ch] w fun e w' => e = .returned (.bool true) ∧ Below w.heap.size w w' := by
  have HE := Lib.hid he; clear he
  have hn : n ≤ 9223372036854775807 := by omega
  have hc2 : ch * cw ≤ 4096 := Nat.mul_le_mul (by omega : ch ≤ 64) (by omega : cw ≤ 64)
  have HCR := Lib.hid (fun V (hV : Below w.heap.size w V) => crop_ok W H x y cw ch a ca px V hW (hnn ▸ hr.keep hV) (hnn ▸ hca) hca2 h1 h2 hx hy)
  rw [← hnn] at HCR
  have HCL := Lib.hid (fun V (hV : Below w.heap.size w V) => pixCuts1_is W H x y cw ch a ca px V hW (hnn ▸ hr.keep hV) (hnn ▸ hca) hca2 h1 h2 hx hy)
  rw [← hnn] at HCL
  have HNN := Lib.hid hnn
  clear hr hnn
  obtain ⟨W1, HW1, hP1, hs1, hB1⟩ := box w #[.int .i64 W, .int .i64 H, .slice a n ca] 24
  obtain ⟨W2, HW2, hP2, hs2, hB2⟩ := box W1 #[.int .i64 x] 3
  obtain ⟨W3, HW3, hP3, hs3, hB3⟩ := box W2 #[.int .i64 y] 3
  obtain ⟨W4, HW4, hP4, hs4, hB4⟩ := box W3 #[.int .i64 cw] 3
  obtain ⟨W5, HW5, hP5, hs5, hB5⟩ := box W4 #[.int .i64 ch] 3
  have hB15 := below_up hB2 (below_up hB3 (below_up hB4 hB5))
  have hB05 := below_up hB1 hB15
  have hP1 := hP1.keep hB15
  have hP2 := hP2.keep (below_up hB3 (below_up hB4 hB5))
  have hP3 := hP3.keep (below_up hB4 hB5)
  have hP4 := hP4.keep hB5
  rw [show W1.heap.size = w.heap.size + 1 by omega] at hP2
  rw [show W2.heap.size = w.heap.size + 2 by omega] at hP3
  rw [show W3.heap.size = w.heap.size + 3 by omega] at hP4
  rw [show W4.heap.size = w.heap.size + 4 by omega] at hP5
  have HALL := Lib.hid (fun V (hV : Below W5.heap.size W5 V) => And.intro (hP1.keep hV).three (And.intro (hP2.keep hV).one (And.intro (hP3.keep hV).one (And.intro (hP4.keep hV).one (hP5.keep hV).one))))
  have H1 := Lib.hid HW1; have H2 := Lib.hid HW2; have H3 := Lib.hid HW3; have H4 := Lib.hid HW4; have H5 := Lib.hid HW5
  clear HW1 HW2 HW3 HW4 HW5 hP1 hP2 hP3 hP4 hP5 hB1 hB2 hB3 hB4 hB5 hB15 hs1 hs2 hs3 hs4
  -- rintro e w1 ⟨b, rfl, hbb, hO, hBc⟩: the rest of made's contract (a term for the case)
  go_enter Try.func3, Try.ntmps3
  go_wp2_with (first
    | (go_at_call 14; rw [H1.out, H2.out, H3.out, H4.out, H5.out]; refine (HCR.out _ hB05).mono ?_; rintro e w1 ⟨b, rfl, hbb, hO, hBc⟩; obtain ⟨⟨p0, p1, p2⟩, p3, p4, p5, p6⟩ := HALL.out _ (below_allocs hBc (.cells #[.int .i64 cw, .int .i64 ch, .slice (some ⟨b, 0, none⟩) (3 * (ch * cw)) (3 * (ch * cw))] 24)))
    | (go_at_call 15; refine (imageError_is _ _ _ _ _ _ hn).mono ?_; rw [HE.out]; rintro e w2 ⟨rfl, hBe⟩; have hBf := below_up (below_allocs hBc _) hBe; obtain ⟨⟨k0, k1, k2⟩, k3, k4, k5, k6⟩ := HALL.out _ hBf; obtain ⟨j0, j1, j2⟩ := ((Blk.new w1 #[.int .i64 cw, .int .i64 ch, .slice (some ⟨b, 0, none⟩) (3 * (ch * cw)) (3 * (ch * cw))] 24).keep hBe).three)
    | (go_at_call 16; refine (made_ok 17 _ pixCuts1_eg cw ch _ (3 * (ch * cw)) (3 * (ch * cw)) _ w2 ((out_bytes hO).keep (below_up (below_allocs (Below.refl _ w1) _) hBe)) (by omega) (Nat.le_refl _) (fun V hV => HCL.out V (below_up hB05 (below_up hBf hV)) _ _ _ _ _ (HALL.out V (below_up hBf hV)))).mono ?_; rintro e w3 ⟨rfl, hB3⟩))
  go_ret
  exact ⟨rfl, below_up (below_up hB05 hBf) hB3⟩
end Go.Proofs.Ytkebkbjkapfgkaa
