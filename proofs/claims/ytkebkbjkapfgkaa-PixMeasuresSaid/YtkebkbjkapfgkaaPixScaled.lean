/- scaled: the image in another size. -/
import Derived.Test.YtkebkbjkapfgkaaPixScaled0
namespace Go.Proofs.Ytkebkbjkapfgkaa
open Go.RowKit Go.Sort
set_option linter.unusedVariables false
attribute [local go_sem ↓] Go.wp_at_zero Go.wp_at_succ
set_option maxRecDepth 100000 in
set_option maxHeartbeats 4000000 in
theorem scaled_is (W H cw ch : Nat) (a : Option Addr) (ca : Nat) (px : Nat → Int) (w : World) (hW : 1 ≤ W ∧ W ≤ 64 ∧ 1 ≤ H ∧ H ≤ 64) (hs : 1 ≤ cw ∧ cw ≤ 64 ∧ 1 ≤ ch ∧ ch ≤ 64) (hr : Bytes w a (3 * (H * W)) px)
    (hca : 3 * (H * W) ≤ ca) (hca2 : ca ≤ 9223372036854775807) (hpx : ∀ i, 0 ≤ px i ∧ px i ≤ 255) :
    Calls Try.prog 75 #[.agg #[.int .i64 W, .int .i64 H, .slice a (3 * (H * W)) ca], .int .i64 cw, .int .i64 ch] w (ImgPost w cw ch (3 * (ch * cw)) (Im.scOf W H px cw ch)) := by
  have hWH : H * W ≤ 4096 := Nat.mul_le_mul hW.2.2.2 hW.2.1
  have hWH1 : 1 ≤ H * W := Nat.mul_le_mul (show 1 ≤ H from hW.2.2.1) hW.1
  have hc2 : ch * cw ≤ 4096 := Nat.mul_le_mul hs.2.2.2 hs.2.1
  have hc1 : 1 ≤ ch * cw := Nat.mul_le_mul (show 1 ≤ ch from hs.2.2.1) hs.1
  obtain ⟨b0, off0, rfl, hb0, hc0⟩ := hr (by omega)
  have HC := Lib.hid hc0; clear hc0 hr
  obtain ⟨f, hf⟩ : ∃ f, Im.scOf W H px cw ch = f := ⟨_, rfl⟩
  have hfat : ∀ x y c, x < cw → c < 3 → f (3 * (y * cw + x) + c) = Im.scCol W H (fun i j => Im.pix px W i j c) cw ch x y := fun x y c h1 h2 => by rw [← hf]; exact Im.content_at _ _ _ _ _ h1 h2
  rw [hf]
  have HF := Lib.hid hfat; clear hfat hf
  have HPX := Lib.hid hpx; clear hpx
  have gall : (W : Int) * (H : Int) = ((H * W : Nat) : Int) := by rw [Int.mul_comm]; simp
  obtain ⟨N, hN⟩ : ∃ N, H * W = N := ⟨_, rfl⟩
  rw [hN] at gall
  have HNN := Lib.hid hN
  obtain ⟨M, hM⟩ : ∃ M, ch * cw = M := ⟨_, rfl⟩
  have hbl := fun V => blank_is cw ch V hs.1 hs.2.1 hs.2.2.1 hs.2.2.2
  simp only [hM] at hbl
  have HBL := Lib.hid hbl
  have HM := Lib.hid hM
  rw [hN] at hca hWH hWH1 HC ⊢
  rw [hM] at hc1 hc2 ⊢
  clear hN hM hbl
  -- .int .i64 W, .int .i64 H, .slice (some ⟨b0, off0, none⟩) (3 * N) ca: the image's fields; the parameter's box and the result's box (a zero image) under names
  obtain ⟨W1, HW1, hP, hs1, hB1⟩ := box w #[.int .i64 W, .int .i64 H, .slice (some ⟨b0, off0, none⟩) (3 * N) ca] 24
  obtain ⟨W2, HW2, hR, hs2, hB2⟩ := box W1 #[.int .i64 0, .int .i64 0, .slice none 0 0] 24
  have hP := hP.keep hB2
  rw [hs1] at hR hs2
  have hB12 := below_up hB1 hB2
  have H1 := Lib.hid HW1; have H2 := Lib.hid HW2; clear HW1 HW2 hB1 hB2 hs1
  go_enter Try.func75, Try.ntmps75
  go_wp2_with (go_at_call 64; rw [H1.out, H2.out]; refine (HBL.out _).mono ?_; rintro e w2 ⟨b, rfl, hbb, hO, hB2⟩; obtain ⟨p0, p1, p2⟩ := ((hP.keep hB2).alloc (.cells #[.int .i64 cw, .int .i64 ch, .slice (some ⟨b, 0, none⟩) (3 * M) (3 * M)] 24)).three)
  obtain ⟨w3, HW3, hO3, hs3, hB3⟩ := box w2 #[.int .i64 cw, .int .i64 ch, .slice (some ⟨b, 0, none⟩) (3 * M) (3 * M)] 24
  rw [HW3]
  have hbl := hO.lt
  have hF : Fill w w3 (.int .i64 W) (.int .i64 H) (.slice (some ⟨b0, off0, none⟩) (3 * N) ca) (.int .i64 cw) (.int .i64 ch) (.slice (some ⟨b, 0, none⟩) (3 * M) (3 * M)) w2.heap.size b (3 * M) 0 f :=
    ⟨(hP.keep hB2).keep hB3, (hR.keep hB2).keep hB3, hO3, by rw [Im.mk_zero]; exact hO.keep hB3, below_up (below_up hB12 hB2) hB3, hbl, by omega⟩
  obtain ⟨o, ho⟩ : ∃ o, o = w2.heap.size := ⟨_, rfl⟩
  rw [← ho] at hF ⊢
  clear hO3 hO hP hR p0 p1 p2 hB2 hB3 HW3 ho H1 H2 hB12 hs2 hs3 hbb hbl HBL
  go_loopg [32] ch (fun gk v wr => ∃ j : Nat, j ≤ ch ∧ gk = ch - j ∧ v = .int .i64 j ∧ Fill w wr (.int .i64 W) (.int .i64 H) (.slice (some ⟨b0, off0, none⟩) (3 * N) ca) (.int .i64 cw) (.int .i64 ch) (.slice (some ⟨b, 0, none⟩) (3 * M) (3 * M)) o b (3 * M) (3 * (j * cw)) f)
  case atStart => exact ⟨0, by omega, rfl, rfl, hF.cast (by simp)⟩
  case round =>
    clear hF
    obtain ⟨j, hj, rfl, rfl, hF⟩ := hrel
    obtain ⟨p0, p1, p2, o0, o1, o2⟩ := hF.six
    by_cases hlt : j < ch
    · have HSR := Lib.hid (fun V => shares_is H ch j V hW.2.2 hs.2.2 hlt)
      go_wp2_with (go_at_call 89; refine (HSR.out _).mono ?_; rintro e w2 ⟨gr, lr, cr, Ar, Pr, rfl, hl1, hl2, hl3, hl4, hcov, hown, hB2⟩)
      have hrow := SRow.of_own hown
      have hgb : b < gr := by
        have h1 := (hown.lt gr rfl).1; have h2 := hF.ob; have h3 := hF.out.lt
        omega
      have hF := hF.keep hB2
      have HCR := Lib.hid hcov
      clear hown hB2 p0 p1 p2 o0 o1 o2 hcov
      go_loopg [41] cw (fun gk v wr => ∃ i : Nat, i ≤ cw ∧ gk = cw - i ∧ v = .int .i64 i ∧ SRow wr gr lr Ar Pr ∧ Fill w wr (.int .i64 W) (.int .i64 H) (.slice (some ⟨b0, off0, none⟩) (3 * N) ca) (.int .i64 cw) (.int .i64 ch) (.slice (some ⟨b, 0, none⟩) (3 * M) (3 * M)) o b (3 * M) (3 * (j * cw + i)) f)
      case atStart => exact ⟨0, by omega, rfl, rfl, hrow, hF⟩
      case round =>
        clear hF hrow
        obtain ⟨i, hi, rfl, rfl, hrow, hF⟩ := hrel
        by_cases hlt2 : i < cw
        · obtain ⟨w0, rfl⟩ : ∃ w0 : World, w0 = wr := ⟨_, rfl⟩
          have HSC := Lib.hid (fun V => shares_is W cw i V ⟨hW.1, hW.2.1⟩ ⟨hs.1, hs.2.1⟩ hlt2)
          obtain ⟨p0, p1, p2, o0, o1, o2⟩ := (hF.keep (below_allocs (Below.refl _ w0) (.cells #[.int .i64 0, .int .i64 0, .int .i64 0] 124))).six
          go_wp2_with (go_at_call 89; refine (HSC.out _).mono ?_; rintro e w4 ⟨gc, lc, cc, Ac, Pc, rfl, hm1, hm2, hm3, hm4, hcov2, hown2, hB4⟩)
          have hgc := (hown2.lt gc rfl).1
          have hgr := hrow.1
          have hS : Sums w0 w4 w0.heap.size 0 0 0 gr lr Ar Pr gc lc Ac Pc :=
            ⟨below_up (below_allocs (Below.refl _ w0) _) hB4, (Blk.new w0 #[.int .i64 0, .int .i64 0, .int .i64 0] 124).keep hB4, hrow.keep (below_up (below_allocs (Below.refl _ w0) _) hB4), SRow.of_own hown2, by simp at hgc; omega⟩
          obtain ⟨RS, CS, hR0, hR1, hC0, hC1, hRE, hRb, hCb⟩ := sums_exist W H cw ch i j lr lc Ar Pr Ac Pc HCR.out hcov2 hW.2.1 hW.2.2.2 px HPX.out
          have HRb := Lib.hid hRb; have HCb := Lib.hid hCb; have HR1 := Lib.hid hR1; have HC0 := Lib.hid hC0; have HC1 := Lib.hid hC1; have HRE := Lib.hid hRE
          have HCC := Lib.hid hcov2.2
          have hS : Sums w0 w4 w0.heap.size (RS 0 0) (RS 1 0) (RS 2 0) gr lr Ar Pr gc lc Ac Pc := by rw [hR0, hR0, hR0]; exact hS
          obtain ⟨s, hs'⟩ : ∃ s, s = w0.heap.size := ⟨_, rfl⟩
          rw [← hs'] at hS ⊢
          clear hown2 hB4 hgc hgr hR0 hR1 hC0 hC1 hRE hRb hCb hcov2 p0 p1 p2 o0 o1 o2 hs'
          go_loopg [51] lr (fun gk v wr => ∃ r : Nat, r ≤ lr ∧ gk = lr - r ∧ v = .int .i64 r ∧ Sums w0 wr s (RS 0 r) (RS 1 r) (RS 2 r) gr lr Ar Pr gc lc Ac Pc)
          case atStart => exact ⟨0, by omega, rfl, rfl, hS⟩
          case round =>
            clear hS
            obtain ⟨r, hr, rfl, rfl, hS⟩ := hrel
            by_cases hlt3 : r < lr
            · obtain ⟨hr1, hr2⟩ := hS.rows.2 r hlt3
              have hArH := (HCR.out.2 r hlt3).1
              have hPr := (HCR.out.2 r hlt3).2
              go_wp2_with fail
              obtain ⟨w5, HW5, hrb, hs5, hB5⟩ := box wr #[.int .i64 (Ar r), .int .i64 (Pr r)] 126
              rw [HW5]
              have hS := hS.keep hB5
              have hS : Sums w0 w5 s (RS 0 r + CS 0 r 0 * (Pr r : Int)) (RS 1 r + CS 1 r 0 * (Pr r : Int)) (RS 2 r + CS 2 r 0 * (Pr r : Int)) gr lr Ar Pr gc lc Ac Pc := by
                rw [HC0.out, HC0.out, HC0.out, Int.zero_mul, Int.add_zero, Int.add_zero, Int.add_zero]; exact hS
              have hne := hS.sum.lt
              obtain ⟨rb, hrb'⟩ : ∃ rb, rb = wr.heap.size := ⟨_, rfl⟩
              rw [← hrb'] at hrb ⊢
              have hsr : s ≠ rb := by
                have := hS.sum.lt
                intro e
                have h1 := hS.sum; have h2 := hrb
                rw [← e] at h2
                have := Option.some.inj (h1.symm.trans h2)
                simp at this
              clear HW5 hs5 hB5 hrb' hr1 hr2 hne
              have HRB0 := Lib.hid (HRb.out 0 r hr); have HRB1 := Lib.hid (HRb.out 1 r hr); have HRB2 := Lib.hid (HRb.out 2 r hr)
              go_loopg [57] lc (fun gk v wr => ∃ c : Nat, c ≤ lc ∧ gk = lc - c ∧ v = .int .i64 c ∧ Blk wr rb #[.int .i64 (Ar r), .int .i64 (Pr r)] 126 ∧ Sums w0 wr s (RS 0 r + CS 0 r c * (Pr r : Int)) (RS 1 r + CS 1 r c * (Pr r : Int)) (RS 2 r + CS 2 r c * (Pr r : Int)) gr lr Ar Pr gc lc Ac Pc)
              case atStart => exact ⟨0, by omega, rfl, rfl, hrb, hS⟩
              case round =>
                clear hS hrb
                obtain ⟨c, hc, rfl, rfl, hrb, hS⟩ := hrel
                by_cases hlt4 : c < lc
                · obtain ⟨hc1', hc2'⟩ := hS.cols.2 c hlt4
                  have hAcW := (HCC.out c hlt4).1
                  have hPc := (HCC.out c hlt4).2
                  have hpl := Im.place_lt W H (Ac c) (Ar r) hAcW hArH
                  rw [HNN.out] at hpl
                  have hFA := hF.keep (below_allocs hS.bel (.cells #[.int .i64 (Ac c), .int .i64 (Pc c)] 126))
                  obtain ⟨p0, p1, p2, o0, o1, o2⟩ := hFA.six
                  obtain ⟨y0, y1⟩ := (hrb.alloc (.cells #[.int .i64 (Ac c), .int .i64 (Pc c)] 126)).two
                  have HAT := Lib.hid (fun V (hV : Below w.heap.size w V) => at_int W H (Ac c) (Ar r) (Ac c) (Ar r) rfl rfl b0 off0 (3 * N) ca px V w hb0 HC.out hV (by omega) (by omega) hca hca2)
                  have HN0 := Lib.hid (show (RS 0 r + CS 0 r c * (Pr r : Int)) + Im.pix px W (Ac c) (Ar r) 0 * (Pr r : Int) * (Pc c : Int) = RS 0 r + CS 0 r (c + 1) * (Pr r : Int) by rw [HC1.out]; exact step_eq _ _ _ _ _)
                  have HN1 := Lib.hid (show (RS 1 r + CS 1 r c * (Pr r : Int)) + Im.pix px W (Ac c) (Ar r) 1 * (Pr r : Int) * (Pc c : Int) = RS 1 r + CS 1 r (c + 1) * (Pr r : Int) by rw [HC1.out]; exact step_eq _ _ _ _ _)
                  have HN2 := Lib.hid (show (RS 2 r + CS 2 r c * (Pr r : Int)) + Im.pix px W (Ac c) (Ar r) 2 * (Pr r : Int) * (Pc c : Int) = RS 2 r + CS 2 r (c + 1) * (Pr r : Int) by rw [HC1.out]; exact step_eq _ _ _ _ _)
                  have tb0 : 0 ≤ RS 0 r + CS 0 r c * (Pr r : Int) ∧ RS 0 r + CS 0 r c * (Pr r : Int) ≤ 2088960 := by
                    have h1 := HRB0.out; have h2 := HCb.out 0 r c hc; have h3 := mul_bd2 (b := (Pr r : Int)) (B := 64) h2.1 h2.2 (by omega) (by omega) (by omega); omega
                  have tb1 : 0 ≤ RS 1 r + CS 1 r c * (Pr r : Int) ∧ RS 1 r + CS 1 r c * (Pr r : Int) ≤ 2088960 := by
                    have h1 := HRB1.out; have h2 := HCb.out 1 r c hc; have h3 := mul_bd2 (b := (Pr r : Int)) (B := 64) h2.1 h2.2 (by omega) (by omega) (by omega); omega
                  have tb2 : 0 ≤ RS 2 r + CS 2 r c * (Pr r : Int) ∧ RS 2 r + CS 2 r c * (Pr r : Int) ≤ 2088960 := by
                    have h1 := HRB2.out; have h2 := HCb.out 2 r c hc; have h3 := mul_bd2 (b := (Pr r : Int)) (B := 64) h2.1 h2.2 (by omega) (by omega) (by omega); omega
                  have b1 : 0 ≤ Im.pix px W (Ac c) (Ar r) 0 ∧ Im.pix px W (Ac c) (Ar r) 0 ≤ 255 := HPX.out _
                  have b2 : 0 ≤ Im.pix px W (Ac c) (Ar r) 1 ∧ Im.pix px W (Ac c) (Ar r) 1 ≤ 255 := HPX.out _
                  have b3 : 0 ≤ Im.pix px W (Ac c) (Ar r) 2 ∧ Im.pix px W (Ac c) (Ar r) 2 ≤ 255 := HPX.out _
                  generalize Im.pix px W (Ac c) (Ar r) 0 = g0 at *
                  generalize Im.pix px W (Ac c) (Ar r) 1 = g1 at *
                  generalize Im.pix px W (Ac c) (Ar r) 2 = g2 at *
                  generalize RS 0 r + CS 0 r c * (Pr r : Int) = T0 at *
                  generalize RS 1 r + CS 1 r c * (Pr r : Int) = T1 at *
                  generalize RS 2 r + CS 2 r c * (Pr r : Int) = T2 at *
                  go_wp2_with (go_at_call 66; refine (HAT.out _ hFA.bel).mono ?_; rintro e w7 ⟨rfl, hB7⟩)
                  have hS := (hS.alloc (.cells #[.int .i64 (Ac c), .int .i64 (Pc c)] 126)).keep hB7
                  have hrb := (hrb.alloc (.cells #[.int .i64 (Ac c), .int .i64 (Pc c)] 126)).keep hB7
                  have hcb := (Blk.new wr #[.int .i64 (Ac c), .int .i64 (Pc c)] 126).keep hB7
                  obtain ⟨cb, hcb'⟩ : ∃ cb, cb = wr.heap.size := ⟨_, rfl⟩
                  rw [← hcb'] at hcb ⊢
                  have hsc : s ≠ cb := by
                    intro e
                    have h1 := hS.sum; have h2 := hcb
                    rw [← e] at h2
                    have := Option.some.inj (h1.symm.trans h2)
                    simp at this
                  obtain ⟨e0, ge0⟩ : ∃ e, g0 * (Pr r : Int) = e := ⟨_, rfl⟩
                  obtain ⟨e1, ge1⟩ : ∃ e, g1 * (Pr r : Int) = e := ⟨_, rfl⟩
                  obtain ⟨e2, ge2⟩ : ∃ e, g2 * (Pr r : Int) = e := ⟨_, rfl⟩
                  obtain ⟨d0, gd0⟩ : ∃ e, e0 * (Pc c : Int) = e := ⟨_, rfl⟩
                  obtain ⟨d1, gd1⟩ : ∃ e, e1 * (Pc c : Int) = e := ⟨_, rfl⟩
                  obtain ⟨d2, gd2⟩ : ∃ e, e2 * (Pc c : Int) = e := ⟨_, rfl⟩
                  have be0 : 0 ≤ e0 ∧ e0 ≤ 255 * 64 := by rw [← ge0]; exact mul_bd2 b1.1 b1.2 (by omega) (by omega) (by omega)
                  have be1 : 0 ≤ e1 ∧ e1 ≤ 255 * 64 := by rw [← ge1]; exact mul_bd2 b2.1 b2.2 (by omega) (by omega) (by omega)
                  have be2 : 0 ≤ e2 ∧ e2 ≤ 255 * 64 := by rw [← ge2]; exact mul_bd2 b3.1 b3.2 (by omega) (by omega) (by omega)
                  have bd0 : 0 ≤ d0 ∧ d0 ≤ 255 * 64 * 64 := by rw [← gd0]; exact mul_bd2 be0.1 be0.2 (by omega) (by omega) (by omega)
                  have bd1 : 0 ≤ d1 ∧ d1 ≤ 255 * 64 * 64 := by rw [← gd1]; exact mul_bd2 be1.1 be1.2 (by omega) (by omega) (by omega)
                  have bd2 : 0 ≤ d2 ∧ d2 ≤ 255 * 64 * 64 := by rw [← gd2]; exact mul_bd2 be2.1 be2.2 (by omega) (by omega) (by omega)
                  rw [ge0, gd0] at HN0
                  rw [ge1, gd1] at HN1
                  rw [ge2, gd2] at HN2
                  have hi0 := pindex0 g0 g1 g2; have hi1 := pindex1 g0 g1 g2; have hi2 := pindex2 g0 g1 g2
                  clear hc1' hc2' hFA p0 p1 p2 o0 o1 o2 y0 y1 HAT hB7 hcb' hpl
                  go_loopg [67] 3 (fun gk v wr => ∃ k : Nat, k ≤ 3 ∧ gk = 3 - k ∧ v = .int .i64 k ∧ Blk wr rb #[.int .i64 (Ar r), .int .i64 (Pr r)] 126 ∧ Blk wr cb #[.int .i64 (Ac c), .int .i64 (Pc c)] 126 ∧ ((k = 0 ∧ Sums w0 wr s T0 T1 T2 gr lr Ar Pr gc lc Ac Pc) ∨ (k = 1 ∧ Sums w0 wr s (T0 + d0) T1 T2 gr lr Ar Pr gc lc Ac Pc) ∨ (k = 2 ∧ Sums w0 wr s (T0 + d0) (T1 + d1) T2 gr lr Ar Pr gc lc Ac Pc) ∨ (k = 3 ∧ Sums w0 wr s (T0 + d0) (T1 + d1) (T2 + d2) gr lr Ar Pr gc lc Ac Pc)))
                  case atStart => exact ⟨0, by omega, rfl, rfl, hrb, hcb, .inl ⟨rfl, hS⟩⟩
                  case round =>
                    clear hrb hcb hS
                    obtain ⟨k, hk, rfl, rfl, hrb, hcb, hcase⟩ := hrel
                    rcases hcase with ⟨rfl, hS⟩ | ⟨rfl, hS⟩ | ⟨rfl, hS⟩ | ⟨rfl, hS⟩
                    · obtain ⟨x0, x1, x2⟩ := hS.sum.three
                      have hsf := hS.sum.free
                      obtain ⟨y0, y1⟩ := hrb.two
                      obtain ⟨z0, z1⟩ := hcb.two
                      go_wp2_with fail
                      go_region
                      go_wp2_with fail
                      go_roundg 2
                      case rel => exact ⟨1, by omega, rfl, rfl, (hrb.setOther (a := ⟨s, 0, none⟩) (fun e => hsr e.symm) (.int .i64 (T0 + d0))).drew, (hcb.setOther (a := ⟨s, 0, none⟩) (fun e => hsc e.symm) (.int .i64 (T0 + d0))).drew, .inr (.inl ⟨rfl, (hS.set0 (T0 + d0)).drew⟩)⟩
                      case measure => omega
                    · obtain ⟨x0, x1, x2⟩ := hS.sum.three
                      have hsf := hS.sum.free
                      obtain ⟨y0, y1⟩ := hrb.two
                      obtain ⟨z0, z1⟩ := hcb.two
                      go_wp2_with fail
                      go_region
                      go_wp2_with fail
                      go_roundg 1
                      case rel => exact ⟨2, by omega, rfl, rfl, (hrb.setOther (a := ⟨s, 1, none⟩) (fun e => hsr e.symm) (.int .i64 (T1 + d1))).drew, (hcb.setOther (a := ⟨s, 1, none⟩) (fun e => hsc e.symm) (.int .i64 (T1 + d1))).drew, .inr (.inr (.inl ⟨rfl, (hS.set1 (T1 + d1)).drew⟩))⟩
                      case measure => omega
                    · obtain ⟨x0, x1, x2⟩ := hS.sum.three
                      have hsf := hS.sum.free
                      obtain ⟨y0, y1⟩ := hrb.two
                      obtain ⟨z0, z1⟩ := hcb.two
                      go_wp2_with fail
                      go_region
                      go_wp2_with fail
                      go_roundg 0
                      case rel => exact ⟨3, by omega, rfl, rfl, (hrb.setOther (a := ⟨s, 2, none⟩) (fun e => hsr e.symm) (.int .i64 (T2 + d2))).drew, (hcb.setOther (a := ⟨s, 2, none⟩) (fun e => hsc e.symm) (.int .i64 (T2 + d2))).drew, .inr (.inr (.inr ⟨rfl, (hS.set2 (T2 + d2)).drew⟩))⟩
                      case measure => omega
                    · obtain ⟨x0, x1, x2⟩ := hS.sum.three
                      have hsf := hS.sum.free
                      obtain ⟨y0, y1⟩ := hrb.two
                      obtain ⟨z0, z1⟩ := hcb.two
                      go_wp2_with fail
                      go_roundg (lc - (c + 1))
                      case rel => exact ⟨c + 1, by omega, rfl, by go_num, hrb, by rw [← HN0.out, ← HN1.out, ← HN2.out]; exact hS⟩
                      case measure => omega
                · obtain rfl : c = lc := by omega
                  have hS : Sums w0 wr s (RS 0 (r + 1)) (RS 1 (r + 1)) (RS 2 (r + 1)) gr lr Ar Pr gc c Ac Pc := by rw [HR1.out, HR1.out, HR1.out]; exact hS
                  go_wp2_with fail
                  go_roundg (lr - (r + 1))
                  case rel => exact ⟨r + 1, by omega, rfl, by go_num, hS⟩
                  case measure => omega
            · obtain rfl : r = lr := by omega
              have HV : Hid (∀ q, 0 ≤ (2 * RS q r + (N : Int)) / (2 * (N : Int)) ∧ (2 * RS q r + (N : Int)) / (2 * (N : Int)) ≤ 255 ∧ Im.scCol W H (fun i j => Im.pix px W i j q) cw ch i j = (2 * RS q r + (N : Int)) / (2 * (N : Int))) := by
                intro q
                have h1 := Im.scCol_bd W H (fun i j => Im.pix px W i j q) cw ch i j (fun _ _ => HPX.out _) (by rw [HNN.out]; exact hWH1)
                rw [HRE.out q]
                unfold Im.scCol at h1 ⊢
                rw [gall] at h1 ⊢
                exact ⟨h1.1, h1.2, rfl⟩
              have hb0' := HRb.out 0 r (by omega)
              have hb1' := HRb.out 1 r (by omega)
              have hb2' := HRb.out 2 r (by omega)
              have hv0 := HV.out 0
              have hv1 := HV.out 1
              have hv2 := HV.out 2
              have HF0 := Lib.hid ((HF.out i j 0 hlt2 (by omega)).trans hv0.2.2)
              have HF1 := Lib.hid ((HF.out i j 1 hlt2 (by omega)).trans hv1.2.2)
              have HF2 := Lib.hid ((HF.out i j 2 hlt2 (by omega)).trans hv2.2.2)
              have hw0 := And.intro hv0.1 hv0.2.1
              have hw1 := And.intro hv1.1 hv1.2.1
              have hw2 := And.intro hv2.1 hv2.2.1
              clear hv0 hv1 hv2 HV HRb HCb HR1 HC0 HC1 HRE
              generalize RS 0 r = S0 at *
              generalize RS 1 r = S1 at *
              generalize RS 2 r = S2 at *
              obtain ⟨q0, q1, q2⟩ := (hS.alloc (.cells #[.int .u8 0, .int .u8 0, .int .u8 0] 93)).sum.three
              have hx0 := sindex0 S0 S1 S2; have hx1 := sindex1 S0 S1 S2; have hx2 := sindex2 S0 S1 S2
              go_wp2_with fail
              obtain ⟨w6, HW6, hpb, hs6, hB6⟩ := box wr #[.int .u8 0, .int .u8 0, .int .u8 0] 93
              rw [HW6]
              have hB6' := below_up hS.bel hB6
              have hpb0 := Nat.le_trans hS.bel.size (Nat.le_refl _)
              obtain ⟨pb, hpb'⟩ : ∃ pb, pb = wr.heap.size := ⟨_, rfl⟩
              rw [← hpb'] at hpb hpb0 ⊢
              clear HW6 hs6 hB6 hpb' hS q0 q1 q2
              go_loopg [88] 3 (fun gk v wr => ∃ k : Nat, k ≤ 3 ∧ gk = 3 - k ∧ v = .int .i64 k ∧ Below w0.heap.size w0 wr ∧ ((k = 0 ∧ Blk wr pb #[.int .u8 0, .int .u8 0, .int .u8 0] 93) ∨ (k = 1 ∧ Blk wr pb #[.int .u8 ((2 * S0 + (N : Int)) / (2 * (N : Int))), .int .u8 0, .int .u8 0] 93) ∨ (k = 2 ∧ Blk wr pb #[.int .u8 ((2 * S0 + (N : Int)) / (2 * (N : Int))), .int .u8 ((2 * S1 + (N : Int)) / (2 * (N : Int))), .int .u8 0] 93) ∨ (k = 3 ∧ Blk wr pb #[.int .u8 ((2 * S0 + (N : Int)) / (2 * (N : Int))), .int .u8 ((2 * S1 + (N : Int)) / (2 * (N : Int))), .int .u8 ((2 * S2 + (N : Int)) / (2 * (N : Int)))] 93)))
              case atStart => exact ⟨0, by omega, rfl, rfl, hB6', .inl ⟨rfl, hpb⟩⟩
              case round =>
                clear hB6' hpb
                obtain ⟨k, hk, rfl, rfl, hB, hcase⟩ := hrel
                rcases hcase with ⟨rfl, hp⟩ | ⟨rfl, hp⟩ | ⟨rfl, hp⟩ | ⟨rfl, hp⟩
                · obtain ⟨q0, q1, q2⟩ := hp.three
                  have hpf := hp.free
                  go_wp2_with fail
                  go_roundg 2
                  case rel => exact ⟨1, by omega, rfl, rfl, hB.setCell hpb0 _, .inr (.inl ⟨rfl, by simpa using hp.set 0 (.int .u8 ((2 * S0 + (N : Int)) / (2 * (N : Int))))⟩)⟩
                  case measure => omega
                · obtain ⟨q0, q1, q2⟩ := hp.three
                  have hpf := hp.free
                  go_wp2_with fail
                  go_roundg 1
                  case rel => exact ⟨2, by omega, rfl, rfl, hB.setCell hpb0 _, .inr (.inr (.inl ⟨rfl, by simpa using hp.set 1 (.int .u8 ((2 * S1 + (N : Int)) / (2 * (N : Int))))⟩))⟩
                  case measure => omega
                · obtain ⟨q0, q1, q2⟩ := hp.three
                  have hpf := hp.free
                  go_wp2_with fail
                  go_roundg 0
                  case rel => exact ⟨3, by omega, rfl, rfl, hB.setCell hpb0 _, .inr (.inr (.inr ⟨rfl, by simpa using hp.set 2 (.int .u8 ((2 * S2 + (N : Int)) / (2 * (N : Int))))⟩))⟩
                  case measure => omega
                · obtain ⟨q0, q1, q2⟩ := hp.three
                  have hFk := hF.keep hB
                  obtain ⟨p0, p1, p2, o0, o1, o2⟩ := hFk.six
                  have hpl := Im.place_lt cw ch i j hlt2 hlt
                  rw [HM.out] at hpl
                  have hrk := hrow.keep hB
                  go_wp2_with (go_at_call 65; refine (set_is cw ch i j b (3 * M) _ _ _ _ _ hFk.row (by omega) (by omega)).mono ?_; rintro e w9 ⟨rfl, hO9, hg9⟩)
                  have hF9 := hFk.fill hg9 hO9 HF0.out HF1.out HF2.out
                  have hr9 : SRow w9 gr r Ar Pr := hrk.grown hg9 hgb
                  go_roundg (cw - (i + 1))
                  case rel => exact ⟨i + 1, by omega, rfl, by go_num, hr9, hF9.cast (by omega)⟩
                  case measure => omega
        · obtain rfl : i = cw := by omega
          go_wp2_with fail
          go_roundg (ch - (j + 1))
          case rel => exact ⟨j + 1, by omega, rfl, by go_num, hF.cast (by rw [Nat.add_mul]; omega)⟩
          case measure => omega
    · obtain rfl : j = ch := by omega
      have hF := hF.cast (by rw [HM.out])
      have hFr := hF.res.free
      obtain ⟨r0, r1, r2⟩ := hF.res.three
      go_wp2_with fail
      -- tintype/pix.scaled: the function; .int .i64 cw .int .i64 j .slice (some ⟨b, 0, none⟩) (3 * M) (3 * M): the image's fields; .agg #[.int .i64 cw, .int .i64 j, .slice (some ⟨b, 0, none⟩) (3 * M) (3 * M)]: the result as a value; the post is ImgPost
      have hBf := ((hF.bel.setCell (p := ⟨w.heap.size + 1, 0, none⟩) (by simp) (.int .i64 cw)).setCell (p := ⟨w.heap.size + 1, 1, none⟩) (by simp) (.int .i64 j)).setCell (p := ⟨w.heap.size + 1, 2, none⟩) (by simp) (.slice (some ⟨b, 0, none⟩) (3 * M) (3 * M))
      have hOf := hF.whole
      have hOb := hF.ob
      have hOf := ((Blk.setOther hOf (a := ⟨w.heap.size + 1, 0, none⟩) (by simp; omega) (.int .i64 cw)).setOther (a := ⟨w.heap.size + 1, 1, none⟩) (by simp; omega) (.int .i64 j)).setOther (a := ⟨w.heap.size + 1, 2, none⟩) (by simp; omega) (.slice (some ⟨b, 0, none⟩) (3 * M) (3 * M))
      exact bodyPost_ret (v := .agg #[.int .i64 cw, .int .i64 j, .slice (some ⟨b, 0, none⟩) (3 * M) (3 * M)]) (by simp [results, Try.results75, go_sem, r0, r1, r2]) rfl ⟨_, _, rfl, bytes_of_out hOf, Nat.le_refl _, by omega, hBf⟩
end Go.Proofs.Ytkebkbjkapfgkaa
