/- The law PixExchanged, walked: a turn that exchanges the sides. -/
import Derived.Test.YtkebkbjkapfgkaaPixExLaw
namespace Go.Proofs.Ytkebkbjkapfgkaa
open Go.RowKit Go.Sort Go.Shelf
set_option linter.unusedVariables false
set_option maxRecDepth 100000 in
set_option maxHeartbeats 4000000 in
theorem exch_ok_high (W H t cw ch : Nat) (a : Option Addr) (n ca : Nat) (w : World) (hn : n ≤ 9223372036854775807) (px : Nat → Int) (hW : 1 ≤ W ∧ W ≤ 64 ∧ 1 ≤ H ∧ H ≤ 64) (hnn : n = 3 * (H * W)) (hr : Bytes w a n px) (hca : n ≤ ca) (hca2 : ca ≤ 9223372036854775807) (hpx : ∀ i, 0 ≤ px i ∧ px i ≤ 255)
    (ht : 1 ≤ t ∧ t ≤ 8) (h5 : 5 ≤ t) (hs : 1 ≤ cw ∧ cw ≤ 64 ∧ 1 ≤ ch ∧ ch ≤ 64) : Calls Try.prog 9 #[.agg #[.int .i64 W, .int .i64 H, .slice a n ca], .int .i64 t, .int .i64 cw, .int .i64 ch] w fun e w' => e = .returned (.bool true) ∧ Below w.heap.size w w' := by
  have HE : Hid (Im.err (W : Int) (H : Int) n = 0) := by rw [hnn]; exact err_ok W H hW
  have hWH1 : 1 ≤ H * W := Nat.mul_le_mul (show 1 ≤ H from hW.2.2.1) hW.1
  have hc1 : 1 ≤ ch * cw := Nat.mul_le_mul (show 1 ≤ ch from hs.2.2.1) hs.1
  have hn2 : 3 ≤ n ∧ n ≤ 12288 := by
    have hWH : H * W ≤ 4096 := Nat.mul_le_mul hW.2.2.2 hW.2.1
    omega
  have hm2 : 3 * (ch * cw) ≤ 12288 := by
    have : ch * cw ≤ 64 * 64 := Nat.mul_le_mul hs.2.2.2 hs.2.1
    omega
  have ew : ∀ a b, Im.sw t a b = b := fun a b => by simp [Im.sw, h5]
  have eh : ∀ a b, Im.sh t a b = a := fun a b => by simp [Im.sh, h5]
  have hcol : (∀ i, i < n → px i = px (i % 3)) → ∀ i, i < 3 * (ch * cw) → Im.scOf W H px cw ch i = px (i % 3) := fun e i hi => Im.scale_one W H cw ch px (by rw [← hnn]; exact e) i hi hWH1
  have hFb : ∀ i, 0 ≤ Im.scOf W H px cw ch i ∧ Im.scOf W H px cw ch i ≤ 255 := fun i => Im.scCol_bd W H _ cw ch _ _ (fun _ _ => hpx _) hWH1
  have hs1 := fun V (hV : Below w.heap.size w V) => scale_ok W H cw ch a ca px V hW hs (by rw [← hnn]; exact hr.keep hV) (by rw [← hnn]; exact hca) hca2 hpx
  have ht1 := fun V a2 c2 (h1 : Bytes V a2 (3 * (ch * cw)) (Im.scOf W H px cw ch)) h2 h3 => turn_ok t cw ch a2 c2 (Im.scOf W H px cw ch) V ht hs h1 h2 h3
  have ht2 := fun V (hV : Below w.heap.size w V) => turn_ok t W H a ca px V ht hW (by rw [← hnn]; exact hr.keep hV) (by rw [← hnn]; exact hca) hca2
  have hs2 : ∀ V a2 c2, Bytes V a2 n (Im.turnOf t W H px) → n ≤ c2 → c2 ≤ 9223372036854775807 → Calls Try.prog 30 #[.agg #[.int .i64 H, .int .i64 W, .slice a2 n c2], .int .i64 ch, .int .i64 cw] V (ImgPost2 V ch cw (3 * (ch * cw)) (Im.turnOf t cw ch (Im.scOf W H px cw ch))) := by
    intro V a2 c2 h1 h2 h3
    have hN' : 3 * (W * H) = n := by rw [hnn]; rw [Nat.mul_comm W H]
    have hM' : 3 * (cw * ch) = 3 * (ch * cw) := by rw [Nat.mul_comm cw ch]
    have hx := scale_ok H W ch cw a2 c2 (Im.turnOf t W H px) V (by omega) (by omega) (by rw [hN']; exact h1) (by rw [hN']; exact h2) h3 (fun i => hpx _)
    rw [hN', hM'] at hx
    refine hx.mono fun e w' ⟨a3, c3, g1, g2, g3, g4, g5⟩ => ⟨a3, c3, g1, g2.congr fun i hi => ?_, g3, g4, g5⟩
    have := Im.turn_scale t W H cw ch px ht i hi
    rw [ew, eh, ew, eh] at this
    exact this.symm
  have hs3 : ∀ V, Below w.heap.size w V → Calls Try.prog 30 #[.agg #[.int .i64 W, .int .i64 H, .slice a n ca], .int .i64 W, .int .i64 H] V (ImgPost2 V W H n px) := by
    intro V hV
    have hx := scale_ok W H W H a ca px V hW hW (by rw [← hnn]; exact hr.keep hV) (by rw [← hnn]; exact hca) hca2 hpx
    rw [← hnn] at hx
    exact hx.mono fun e w' ⟨a3, c3, g1, g2, g3, g4, g5⟩ => ⟨a3, c3, g1, g2.congr fun i hi => Im.scale_own W H px i (by rw [← hnn]; exact hi), g3, g4, g5⟩
  simp only [← hnn, ew, eh] at hs1 ht1 ht2
  generalize Im.turnOf t cw ch (Im.scOf W H px cw ch) = B at *
  generalize Im.scOf W H px cw ch = F at *
  generalize Im.turnOf t W H px = G at *
  have hM0 : 1 ≤ 3 * (ch * cw) := by omega
  generalize 3 * (ch * cw) = M at *
  have HS1 := Lib.hid hs1; have HT1 := Lib.hid ht1; have HT2 := Lib.hid ht2; have HS2 := Lib.hid hs2; have HS3 := Lib.hid hs3; have HCOL := Lib.hid hcol; have HFB := Lib.hid hFb; have HPX := Lib.hid hpx
  have HSM := Lib.hid (fun V a2 c2 a3 c3 (h1 : Bytes V a2 M B) (h2 : Bytes V a3 M B) h3 h4 => same_any ch cw ch cw a2 a3 M M c2 c3 B B V h1 h2 hm2 h3 h4)
  rw [show Im.eqB ch cw M B ch cw M B = true from by simp [Im.eqB]] at HSM
  have HSO := Lib.hid (fun V a2 c2 (h1 : Bytes V a2 n px) (h2 : Bytes V a n px) h3 => same_any W H W H a2 a n n c2 ca px px V h1 h2 hn2.2 h3 hca)
  rw [show Im.eqB W H n px W H n px = true from by simp [Im.eqB]] at HSO
  have HR := Lib.hid hr
  clear hs1 ht1 ht2 hs2 hs3 hcol hFb hpx ew eh hnn hr hc1 hWH1
  obtain ⟨W1, HW1, hP1, hz1, hB1⟩ := box w #[.int .i64 W, .int .i64 H, .slice a n ca] 24
  have HALL := Lib.hid (fun V (hV : Below W1.heap.size W1 V) => (hP1.keep hV).three)
  have H1 := Lib.hid HW1; clear HW1 hP1 hz1
  have dt1 : decide ((t : Int) < 1) = false := by simp; omega
  have dt2 : decide ((8 : Int) < (t : Int)) = false := by simp; omega
  have dt3 : decide ((cw : Int) < 1) = false := by simp; omega
  have dt4 : decide ((ch : Int) < 1) = false := by simp; omega
  have dt5 : decide ((64 : Int) < (cw : Int)) = false := by simp; omega
  have dt6 : decide ((64 : Int) < (ch : Int)) = false := by simp; omega
  go_enter Try.func9, Try.ntmps9
  go_wp2_with (first
    | (go_at_call 27; rw [H1.out]; refine (awake_is _).mono ?_; rintro e w' ⟨rfl, rfl⟩; have hC := Below.refl W1.heap.size W1; obtain ⟨p0, p1, p2⟩ := HALL.out _ hC)
    | (go_at_call 28; refine (check_is _ _ _ _ _ _ hn).mono ?_; rw [HE.out]; rintro e w1 ⟨rfl, hBx⟩; have hC := below_up hC hBx; obtain ⟨p0, p1, p2⟩ := HALL.out _ hC)
    | (go_at_call 30; (with_reducible refine (HS1.out _ (below_up hB1 hC)).mono ?_); rintro e w2 ⟨a1, c1, rfl, hb1, hc1, hd1, hBt⟩; have hBx := below_allocs hBt (.cells #[.int .i64 cw, .int .i64 ch, .slice a1 M c1] 24); have hC := below_up hC hBx; have hb1 := hb1.keep (below_allocs (Below.refl _ w2) (.cells #[.int .i64 cw, .int .i64 ch, .slice a1 M c1] 24)); have hX1 := Blk.new w2 #[.int .i64 cw, .int .i64 ch, .slice a1 M c1] 24; obtain ⟨p0, p1, p2⟩ := HALL.out _ hC)
    | (go_at_call 21; (with_reducible refine (HT1.out _ _ _ hb1 hc1 hd1).mono ?_); rintro e w3 ⟨a2, c2, rfl, hb2, hc2, hd2, hBt⟩; have hBx := below_allocs hBt (.cells #[.int .i64 ch, .int .i64 cw, .slice a2 M c2] 24); have hC := below_up hC hBx; have hX1 := hX1.keep hBx; have hb1 := hb1.keep hBx; have hb2 := hb2.keep (below_allocs (Below.refl _ w3) (.cells #[.int .i64 ch, .int .i64 cw, .slice a2 M c2] 24)); have hX2 := Blk.new w3 #[.int .i64 ch, .int .i64 cw, .slice a2 M c2] 24; obtain ⟨p0, p1, p2⟩ := HALL.out _ hC)
    | (go_at_call 21; (with_reducible refine (HT2.out _ (below_up hB1 hC)).mono ?_); rintro e w4 ⟨a3, c3, rfl, hb3, hc3, hd3, hBt⟩; have hBx := below_allocs hBt (.cells #[.int .i64 H, .int .i64 W, .slice a3 n c3] 24); have hC := below_up hC hBx; have hX1 := hX1.keep hBx; have hb1 := hb1.keep hBx; have hX2 := hX2.keep hBx; have hb2 := hb2.keep hBx; have hb3 := hb3.keep (below_allocs (Below.refl _ w4) (.cells #[.int .i64 H, .int .i64 W, .slice a3 n c3] 24)); have hX3 := Blk.new w4 #[.int .i64 H, .int .i64 W, .slice a3 n c3] 24; obtain ⟨p0, p1, p2⟩ := HALL.out _ hC; obtain ⟨j0, j1, j2⟩ := hX3.three)
    | (go_at_call 30; (with_reducible refine (HS2.out _ _ _ hb3 hc3 hd3).mono ?_); rintro e w5 ⟨a4, c4, rfl, hb4, hc4, hd4, hBt⟩; have hBx := below_allocs hBt (.cells #[.int .i64 ch, .int .i64 cw, .slice a4 M c4] 24); have hC := below_up hC hBx; have hX1 := hX1.keep hBx; have hb1 := hb1.keep hBx; have hX2 := hX2.keep hBx; have hb2 := hb2.keep hBx; have hX3 := hX3.keep hBx; have hb3 := hb3.keep hBx; have hb4 := hb4.keep (below_allocs (Below.refl _ w5) (.cells #[.int .i64 ch, .int .i64 cw, .slice a4 M c4] 24)); have hX4 := Blk.new w5 #[.int .i64 ch, .int .i64 cw, .slice a4 M c4] 24; obtain ⟨p0, p1, p2⟩ := HALL.out _ hC)
    | (go_at_call 30; (with_reducible refine (HS3.out _ (below_up hB1 hC)).mono ?_); rintro e w6 ⟨a5, c5, rfl, hb5, hc5, hd5, hBt⟩; have hBx := below_allocs hBt (.cells #[.int .i64 W, .int .i64 H, .slice a5 n c5] 24); have hC := below_up hC hBx; have hX1 := hX1.keep hBx; have hb1 := hb1.keep hBx; have hX2 := hX2.keep hBx; have hb2 := hb2.keep hBx; have hX3 := hX3.keep hBx; have hb3 := hb3.keep hBx; have hX4 := hX4.keep hBx; have hb4 := hb4.keep hBx; have hb5 := hb5.keep (below_allocs (Below.refl _ w6) (.cells #[.int .i64 W, .int .i64 H, .slice a5 n c5] 24)); have hX5 := Blk.new w6 #[.int .i64 W, .int .i64 H, .slice a5 n c5] 24; obtain ⟨p0, p1, p2⟩ := HALL.out _ hC; obtain ⟨x0, x1, x2⟩ := hX2.three; obtain ⟨y0, y1, y2⟩ := hX4.three)
    | (go_at_call 29; first
       | ((with_reducible refine (HSM.out _ _ _ _ _ hb2 hb4 hc2 hc4).mono ?_); rintro e w7 ⟨rfl, hBx⟩; have hC := below_up hC hBx; have hX1 := hX1.keep hBx; have hb1 := hb1.keep hBx; have hX2 := hX2.keep hBx; have hb2 := hb2.keep hBx; have hX3 := hX3.keep hBx; have hb3 := hb3.keep hBx; have hX4 := hX4.keep hBx; have hb4 := hb4.keep hBx; have hX5 := hX5.keep hBx; have hb5 := hb5.keep hBx; obtain ⟨p0, p1, p2⟩ := HALL.out _ hC; obtain ⟨z0, z1, z2⟩ := hX5.three)
       | ((with_reducible refine (HSO.out _ _ _ hb5 (HR.out.keep (below_up hB1 hC)) hc5).mono ?_); rintro e w8 ⟨rfl, hBx⟩; have hC := below_up hC hBx; have hX1 := hX1.keep hBx; have hb1 := hb1.keep hBx; have hX2 := hX2.keep hBx; have hb2 := hb2.keep hBx; have hX3 := hX3.keep hBx; have hb3 := hb3.keep hBx; have hX4 := hX4.keep hBx; have hb4 := hb4.keep hBx; have hX5 := hX5.keep hBx; have hb5 := hb5.keep hBx; obtain ⟨p0, p1, p2⟩ := HALL.out _ hC)))
  obtain ⟨b0, off0, rfl, hb0, hcell⟩ := HR.out (by omega)
  have HCL := Lib.hid hcell; clear hcell
  obtain ⟨o1, ho1⟩ : ∃ o1, o1 = w2.heap.size := ⟨_, rfl⟩
  rw [← ho1] at hX1 ⊢
  have HBX := Lib.hid (fun V (hV : Below w8.heap.size w8 V) => And.intro (HALL.out V (below_up hC hV)) (And.intro (hX1.keep hV).three (hb1.keep hV)))
  have HBL := Lib.hid (fun V (hV : Below w8.heap.size w8 V) => below_up hB1 (below_up hC hV))
  clear ho1 hX1 hX2 hX3 hX4 hX5 hb1 hb2 hb3 hb4 hb5 hB1 HR p0 p1 p2 x0 x1 x2 y0 y1 y2 z0 z1 z2 j0 j1 j2 hC
  go_loopg [123] n (fun gk v wr => ∃ i : Nat, i ≤ n ∧ gk = n - i ∧ v = .int .i64 i ∧ Hid (∀ k, k < i → px k = px (k % 3)) ∧ Below w8.heap.size w8 wr)
  case atStart => exact ⟨0, by omega, rfl, rfl, (fun k hk => by omega), Below.refl _ _⟩
  case round =>
    obtain ⟨i, hi, rfl, rfl, HQ, hL⟩ := hrel
    obtain ⟨⟨p0, p1, p2⟩, ⟨q0, q1, q2⟩, hb1⟩ := HBX.out _ hL
    have hBall := HBL.out _ hL
    by_cases hlt : i < n
    · have e1 : wr.cell? ⟨b0, off0 + i, none⟩ = some (.int .u8 (px i)) := (hBall.cell (p := ⟨b0, off0 + i, none⟩) hb0).trans (HCL.out i hlt)
      have e2 : wr.cell? ⟨b0, off0 + i % 3, none⟩ = some (.int .u8 (px (i % 3))) := (hBall.cell (p := ⟨b0, off0 + i % 3, none⟩) hb0).trans (HCL.out (i % 3) (by omega))
      have r3 : (i : Int) % 3 = ((i % 3 : Nat) : Int) := by omega
      have r2 : (i : Int).tmod 3 = ((i % 3 : Nat) : Int) := by rw [Int.tmod_eq_emod_of_nonneg (by omega)]; exact r3
      have m3 : i % 3 < 3 := by omega
      by_cases hq : px i = px (i % 3)
      · have HQ2 : Hid (∀ k, k < i + 1 → px k = px (k % 3)) := fun k hk => by
          by_cases e : k = i
          · rw [e]; exact hq
          · exact HQ.out k (by omega)
        rw [hq] at e1
        clear hq HQ
        generalize px (i % 3) = v at *
        generalize i % 3 = m at *
        go_wp2_with fail
        go_quiet (fail)
        go_wp2_with fail
        go_roundg (n - (i + 1))
        case rel => exact ⟨i + 1, by omega, rfl, by go_num, HQ2, below_drewN hL _⟩
        case measure => omega
      · have n1 : (px i == px (i % 3)) = false := by simpa using hq
        have n2 : (px i != px (i % 3)) = true := by simpa using hq
        clear HQ
        generalize px (i % 3) = v at *
        generalize px i = u at *
        generalize i % 3 = m at *
        go_wp2_with fail
        go_quiet (fail)
        go_wp2_with fail
        go_ret
        exact ⟨rfl, below_drewN hBall _⟩
    · obtain rfl : n = i := by omega
      have HC2 := Lib.hid (HCOL.out HQ.out)
      clear HQ HCOL
      go_wp2_with fail
      obtain ⟨wb, rfl⟩ : ∃ wb : World, wb = wr := ⟨_, rfl⟩
      go_loopg [142] M (fun gk v wr => ∃ i : Nat, i ≤ M ∧ gk = M - i ∧ v = .int .i64 i ∧ Below w8.heap.size w8 wr)
      case atStart => exact ⟨0, by omega, rfl, rfl, hL⟩
      case round =>
        clear hL p0 p1 p2 q0 q1 q2 hb1 hBall
        obtain ⟨i, hi, rfl, rfl, hL⟩ := hrel
        obtain ⟨⟨p0, p1, p2⟩, ⟨q0, q1, q2⟩, hb1⟩ := HBX.out _ hL
        have hBall := HBL.out _ hL
        by_cases hlt : i < M
        · obtain ⟨ba, oa, rfl, hba, hca1⟩ := hb1 (by omega)
          have e1 : wr.cell? ⟨ba, oa + i, none⟩ = some (.int .u8 (F i)) := hca1 i hlt
          rw [HC2.out i hlt] at e1
          have e2 : wr.cell? ⟨b0, off0 + i % 3, none⟩ = some (.int .u8 (px (i % 3))) := (hBall.cell (p := ⟨b0, off0 + i % 3, none⟩) hb0).trans (HCL.out (i % 3) (by omega))
          have r3 : (i : Int) % 3 = ((i % 3 : Nat) : Int) := by omega
          have m3 : i % 3 < 3 := by omega
          generalize px (i % 3) = v at *
          generalize i % 3 = m at *
          clear hca1
          go_wp2_with fail
          go_roundg (M - (i + 1))
          case rel => exact ⟨i + 1, by omega, rfl, by go_num, hL⟩
          case measure => omega
        · obtain rfl : M = i := by omega
          go_wp2_with fail
          go_ret
          exact ⟨rfl, hBall⟩
theorem pixExchanged_walk (W H : Int) (a : Option Addr) (n ca : Nat) (px : Nat → Int) (t cw ch : Int) (w : World) (hr : Row w a n (fun i => .int .u8 (px i))) (hn : n ≤ 9223372036854775807) (hca : n ≤ ca) (hca2 : ca ≤ 9223372036854775807) (hpx : ∀ i, 0 ≤ px i ∧ px i ≤ 255) :
    Calls Try.prog 9 #[.agg #[.int .i64 W, .int .i64 H, .slice a n ca], .int .i64 t, .int .i64 cw, .int .i64 ch] w fun e w' => e = .returned (.bool true) ∧ Below w.heap.size w w' := by
  by_cases he : Im.err W H n = 0
  · by_cases hb : t < 1 ∨ 8 < t ∨ cw < 1 ∨ ch < 1 ∨ 64 < cw ∨ 64 < ch
    · exact exch_range W H t cw ch a n ca w hn he hb
    · obtain ⟨Wn, Hn, rfl, rfl, hW, hnn⟩ := right_nat he
      obtain ⟨tn, rfl⟩ := Int.eq_ofNat_of_zero_le (show 0 ≤ t by omega)
      obtain ⟨cn, rfl⟩ := Int.eq_ofNat_of_zero_le (show 0 ≤ cw by omega)
      obtain ⟨dn, rfl⟩ := Int.eq_ofNat_of_zero_le (show 0 ≤ ch by omega)
      by_cases h5 : 5 ≤ tn
      · exact exch_ok_high Wn Hn tn cn dn a n ca w hn px hW hnn hr hca hca2 hpx (by omega) h5 (by omega)
      · exact exch_ok_low Wn Hn tn cn dn a n ca w hn px hW hnn hr hca hca2 hpx (by omega) h5 (by omega)
  · exact exch_err W H t cw ch a n ca w hn _ rfl he
end Go.Proofs.Ytkebkbjkapfgkaa
