/- The law PixMeasures, walked: two right images; and for all. -/
import Derived.Test.YtkebkbjkapfgkaaPixMeasLaw
namespace Go.Proofs.Ytkebkbjkapfgkaa
open Go.RowKit Go.Sort Go.Shelf
set_option linter.unusedVariables false
set_option maxRecDepth 100000 in
set_option maxHeartbeats 2000000 in
theorem meas_form (W H : Nat) (W' H' : Int) (a a2 : Option Addr) (n ca m ca2 : Nat) (x y : Nat) (w : World) (hn : n ≤ 9223372036854775807) (hm : m ≤ 9223372036854775807) (hx : x < 18446744073709551616) (hy : y < 18446744073709551616) (px : Nat → Int) (hW : 1 ≤ W ∧ W ≤ 64 ∧ 1 ≤ H ∧ H ≤ 64) (hnn : n = 3 * (H * W)) (hr : Bytes w a n px) (hca : n ≤ ca) (hcb : ca ≤ 9223372036854775807) (hpx : ∀ i, 0 ≤ px i ∧ px i ≤ 255) (he : Im.err W' H' m = 0) (hd : (W : Int) ≠ W' ∨ (H : Int) ≠ H') : Calls Try.prog 10 #[.agg #[.int .i64 W, .int .i64 H, .slice a n ca], .agg #[.int .i64 W', .int .i64 H', .slice a2 m ca2], .int .u64 x, .int .u64 y] w fun e w' => e = .returned (.bool true) ∧ Below w.heap.size w w' := by
  have HE2 := Lib.hid he; clear he
  have HD := Lib.hid hd
  by_cases h1 : (W : Int) = W'
  · have h2 : (H : Int) ≠ H' := by rcases hd with h | h; exact absurd h1 h; exact h
    have g1 : ((H : Int) == H') = false := by simpa using h2
    have g2 : ((H : Int) != H') = true := by simpa using h2
    have g3 : ((W : Int) == W') = true := by simpa using h1
    have g4 : ((W : Int) != W') = false := by simpa using h1
    clear hd h2 h1
    -- apart_form W H W' H' a a2 n ca m ca2 _ hn hm HE.out HE2.out HD.out: behind Apart (apart_form W H W' H' a a2 n ca m ca2 _ hn hm HE.out HE2.out HD.out: its contract); : the error; : the number
    have hWH : H * W ≤ 4096 := Nat.mul_le_mul hW.2.2.2 hW.2.1
    have HE : Hid (Im.err (W : Int) (H : Int) n = 0) := by rw [hnn]; exact err_ok W H hW
    have hs1 := fun V (hV : Below w.heap.size w V) => sharpness_ok W H a ca px V hW (by rw [← hnn]; exact hr.keep hV) (by rw [← hnn]; exact hca) hcb hpx
    have hs2 := fun V (hV : Below w.heap.size w V) => rsharp_is W H a ca px V hW (by rw [← hnn]; exact hr.keep hV) (by rw [← hnn]; exact hca) hcb hpx
    have hh1 := fun V (hV : Below w.heap.size w V) => hash_ok W H a ca px V hW (by rw [← hnn]; exact hr.keep hV) (by rw [← hnn]; exact hca) hcb hpx
    have hh2 := fun V (hV : Below w.heap.size w V) => rhash_is W H a ca px V hW (by rw [← hnn]; exact hr.keep hV) (by rw [← hnn]; exact hca) hcb hpx
    have ht1 := fun V (hV : Below w.heap.size w V) => hturned_ok W H a ca px V hW (by rw [← hnn]; exact hr.keep hV) (by rw [← hnn]; exact hca) hcb hpx
    have ht2 := fun t (ht : 1 ≤ t ∧ t ≤ 8) V (hV : Below w.heap.size w V) => rturned_is t W H a ca px V ht hW (by rw [← hnn]; exact hr.keep hV) (by rw [← hnn]; exact hca) hcb
    have ht3 : ∀ t, 1 ≤ t ∧ t ≤ 8 → ∀ V a3 c3, Bytes V a3 n (Im.turnOf t W H px) → n ≤ c3 → c3 ≤ 9223372036854775807 → Calls Try.prog 47 #[.agg #[.int .i64 (Im.sw t W H : Nat), .int .i64 (Im.sh t W H : Nat), .slice a3 n c3]] V fun e w' => e = .returned (.int .u64 (Im.hT W H px t : Nat)) ∧ Below V.heap.size V w' := by
      intro t ht V a3 c3 h1 h2 h3
      have hN : 3 * (Im.sh t W H * Im.sw t W H) = n := by rw [Im.s_mul, hnn]
      have := rhash_is (Im.sw t W H) (Im.sh t W H) a3 c3 (Im.turnOf t W H px) V (Im.s_bd hW) (by rw [hN]; exact h1) (by rw [hN]; exact h2) h3 (fun i => hpx _)
      rw [hN] at this
      exact this
    simp only [← hnn] at hs1 hs2 hh1 hh2 ht1 ht2
    generalize Im.sharp (Im.gr px W) W H H = sv at *
    generalize Im.hashOf W H px = hv at *
    generalize Im.hT W H px = hT at *
    have HS1 := Lib.hid hs1; have HS2 := Lib.hid hs2; have HH1 := Lib.hid hh1; have HH2 := Lib.hid hh2; have HT1 := Lib.hid ht1; have HT2 := Lib.hid ht2; have HT3 := Lib.hid ht3
    have HR := Lib.hid hr; have HPX := Lib.hid hpx; have HNN := Lib.hid hnn
    clear hs1 hs2 hh1 hh2 ht1 ht2 ht3 hnn hr hpx
    obtain ⟨W1, HW1, hP1, hs1, hB1⟩ := box w #[.int .i64 W, .int .i64 H, .slice a n ca] 24
    obtain ⟨W2, HW2, hP2, hs2, hB2⟩ := box W1 #[.int .i64 W', .int .i64 H', .slice a2 m ca2] 24
    have hP1 := hP1.keep hB2
    rw [hs1] at hP2
    have hB02 := below_up hB1 hB2
    have HALL := Lib.hid (fun V (hV : Below W2.heap.size W2 V) => And.intro (hP1.keep hV).three (hP2.keep hV).three)
    have H1 := Lib.hid HW1; have H2 := Lib.hid HW2
    have HDI := Lib.hid (fun V => distance_is x y hx hy V); have HDF := Lib.hid (fun V => differ_is x y hx hy V)
    generalize Pop.dist x y = dxy at *
    clear HW1 HW2 hP1 hP2 hs1 hs2 hB1 hB2 hx hy
    have hC := Below.refl W2.heap.size W2
    obtain ⟨⟨p0, p1, p2⟩, q0, q1, q2⟩ := HALL.out _ hC
    go_enter Try.func10, Try.ntmps10
    go_wp2_with (first
      | (go_at_call 41; rw [H1.out, H2.out]; refine (apart_form W H W' H' a a2 n ca m ca2 _ hn hm HE.out HE2.out HD.out).mono ?_; rintro e w1 ⟨rfl, hBx⟩; have hC := below_up hC hBx; obtain ⟨⟨p0, p1, p2⟩, q0, q1, q2⟩ := HALL.out _ hC)
      | (go_at_call 42; refine (HS1.out _ (below_up hB02 hC)).mono ?_; rintro e w2 ⟨rfl, hBx⟩; have hC := below_up hC hBx; obtain ⟨⟨p0, p1, p2⟩, q0, q1, q2⟩ := HALL.out _ hC)
      | (go_at_call 40; refine (HH1.out _ (below_up hB02 hC)).mono ?_; rintro e w3 ⟨rfl, hBx⟩; have hC := below_up hC hBx; obtain ⟨⟨p0, p1, p2⟩, q0, q1, q2⟩ := HALL.out _ hC)
      | (go_at_call 43; refine (HT1.out _ (below_up hB02 hC)).mono ?_; rintro e w4 ⟨g, rfl, hG, hBx⟩; have hC := below_up hC hBx; obtain ⟨⟨p0, p1, p2⟩, q0, q1, q2⟩ := HALL.out _ hC)
      | (go_at_call 44; refine (HDI.out _).mono ?_; rintro e w5 ⟨rfl, rfl⟩)
      | (go_at_call 45; refine (HDF.out _).mono ?_; rintro e w5 ⟨rfl, rfl⟩)
      | (go_at_call 15; refine (imageError_is _ _ _ _ _ _ hn).mono ?_; rw [HE.out]; rintro e w6 ⟨rfl, hBx⟩; have hC := below_up hC hBx; have hG := hG.keep hBx; obtain ⟨⟨p0, p1, p2⟩, q0, q1, q2⟩ := HALL.out _ hC)
      | (go_at_call 46; refine (HS2.out _ (below_up hB02 hC)).mono ?_; rintro e w7 ⟨rfl, hBx⟩; have hC := below_up hC hBx; have hG := hG.keep hBx; obtain ⟨⟨p0, p1, p2⟩, q0, q1, q2⟩ := HALL.out _ hC)
      | (go_at_call 47; refine (HH2.out _ (below_up hB02 hC)).mono ?_; rintro e w8 ⟨rfl, hBx⟩; have hC := below_up hC hBx; have hG := hG.keep hBx; obtain ⟨⟨p0, p1, p2⟩, q0, q1, q2⟩ := HALL.out _ hC))
    go_loopg [116] 8 (fun gk v wr => ∃ i : Nat, i ≤ 8 ∧ gk = 8 - i ∧ v = .int .i64 i ∧ Blk wr g (hcells hT 8) 51 ∧ Below W2.heap.size W2 wr)
    case atStart => exact ⟨0, by omega, rfl, rfl, hG, hC⟩
    case round =>
      clear hG hC
      obtain ⟨i, hi, rfl, rfl, hG, hC⟩ := hrel
      obtain ⟨⟨p0, p1, p2⟩, q0, q1, q2⟩ := HALL.out _ hC
      by_cases hlt : i < 8
      · have e1 : wr.cell? ⟨g, i, none⟩ = some (.int .u64 (hT (i + 1))) := by rw [hG.cell]; simp [hcells, hlt]
        have HTI := Lib.hid (HT2.out (i + 1) (by omega))
        have HHI := Lib.hid (HT3.out (i + 1) (by omega))
        rw [show ((i + 1 : Nat) : Int) = (i : Int) + 1 from by simp] at HTI
        generalize hT (i + 1) = hvi at *
        generalize Im.turnOf (i + 1) W H px = gt at *
        generalize Im.sw (i + 1) W H = tw at *
        generalize Im.sh (i + 1) W H = th at *
        go_wp2_with (first
          | (go_at_call 25; refine (HTI.out _ (below_up hB02 hC)).mono ?_; rintro e w3 ⟨a3, c3, rfl, hb3, hc3, hd3, hBx⟩; have hG := hG.keep hBx; have hC := below_up hC hBx)
          | (go_at_call 47; refine (HHI.out _ _ _ hb3 hc3 hd3).mono ?_; rintro e w4 ⟨rfl, hBx⟩; have hG := hG.keep hBx; have hC := below_up hC hBx))
        go_roundg (8 - (i + 1))
        case rel => exact ⟨i + 1, by omega, rfl, by go_num, hG, hC⟩
        case measure => omega
      · obtain rfl : i = 8 := by omega
        go_wp2_with (go_at_call 15; refine (imageError_is _ _ _ _ _ _ hm).mono ?_; rw [HE2.out]; rintro e w6 ⟨rfl, hBx⟩; have hC := below_up hC hBx; obtain ⟨⟨p0, p1, p2⟩, q0, q1, q2⟩ := HALL.out _ hC)
        go_ret
        exact ⟨rfl, below_up hB02 hC⟩
  · have g3 : ((W : Int) == W') = false := by simpa using h1
    have g4 : ((W : Int) != W') = true := by simpa using h1
    clear hd
    -- apart_form W H W' H' a a2 n ca m ca2 _ hn hm HE.out HE2.out HD.out: behind Apart (apart_form W H W' H' a a2 n ca m ca2 _ hn hm HE.out HE2.out HD.out: its contract); : the error; : the number
    have hWH : H * W ≤ 4096 := Nat.mul_le_mul hW.2.2.2 hW.2.1
    have HE : Hid (Im.err (W : Int) (H : Int) n = 0) := by rw [hnn]; exact err_ok W H hW
    have hs1 := fun V (hV : Below w.heap.size w V) => sharpness_ok W H a ca px V hW (by rw [← hnn]; exact hr.keep hV) (by rw [← hnn]; exact hca) hcb hpx
    have hs2 := fun V (hV : Below w.heap.size w V) => rsharp_is W H a ca px V hW (by rw [← hnn]; exact hr.keep hV) (by rw [← hnn]; exact hca) hcb hpx
    have hh1 := fun V (hV : Below w.heap.size w V) => hash_ok W H a ca px V hW (by rw [← hnn]; exact hr.keep hV) (by rw [← hnn]; exact hca) hcb hpx
    have hh2 := fun V (hV : Below w.heap.size w V) => rhash_is W H a ca px V hW (by rw [← hnn]; exact hr.keep hV) (by rw [← hnn]; exact hca) hcb hpx
    have ht1 := fun V (hV : Below w.heap.size w V) => hturned_ok W H a ca px V hW (by rw [← hnn]; exact hr.keep hV) (by rw [← hnn]; exact hca) hcb hpx
    have ht2 := fun t (ht : 1 ≤ t ∧ t ≤ 8) V (hV : Below w.heap.size w V) => rturned_is t W H a ca px V ht hW (by rw [← hnn]; exact hr.keep hV) (by rw [← hnn]; exact hca) hcb
    have ht3 : ∀ t, 1 ≤ t ∧ t ≤ 8 → ∀ V a3 c3, Bytes V a3 n (Im.turnOf t W H px) → n ≤ c3 → c3 ≤ 9223372036854775807 → Calls Try.prog 47 #[.agg #[.int .i64 (Im.sw t W H : Nat), .int .i64 (Im.sh t W H : Nat), .slice a3 n c3]] V fun e w' => e = .returned (.int .u64 (Im.hT W H px t : Nat)) ∧ Below V.heap.size V w' := by
      intro t ht V a3 c3 h1 h2 h3
      have hN : 3 * (Im.sh t W H * Im.sw t W H) = n := by rw [Im.s_mul, hnn]
      have := rhash_is (Im.sw t W H) (Im.sh t W H) a3 c3 (Im.turnOf t W H px) V (Im.s_bd hW) (by rw [hN]; exact h1) (by rw [hN]; exact h2) h3 (fun i => hpx _)
      rw [hN] at this
      exact this
    simp only [← hnn] at hs1 hs2 hh1 hh2 ht1 ht2
    generalize Im.sharp (Im.gr px W) W H H = sv at *
    generalize Im.hashOf W H px = hv at *
    generalize Im.hT W H px = hT at *
    have HS1 := Lib.hid hs1; have HS2 := Lib.hid hs2; have HH1 := Lib.hid hh1; have HH2 := Lib.hid hh2; have HT1 := Lib.hid ht1; have HT2 := Lib.hid ht2; have HT3 := Lib.hid ht3
    have HR := Lib.hid hr; have HPX := Lib.hid hpx; have HNN := Lib.hid hnn
    clear hs1 hs2 hh1 hh2 ht1 ht2 ht3 hnn hr hpx
    obtain ⟨W1, HW1, hP1, hs1, hB1⟩ := box w #[.int .i64 W, .int .i64 H, .slice a n ca] 24
    obtain ⟨W2, HW2, hP2, hs2, hB2⟩ := box W1 #[.int .i64 W', .int .i64 H', .slice a2 m ca2] 24
    have hP1 := hP1.keep hB2
    rw [hs1] at hP2
    have hB02 := below_up hB1 hB2
    have HALL := Lib.hid (fun V (hV : Below W2.heap.size W2 V) => And.intro (hP1.keep hV).three (hP2.keep hV).three)
    have H1 := Lib.hid HW1; have H2 := Lib.hid HW2
    have HDI := Lib.hid (fun V => distance_is x y hx hy V); have HDF := Lib.hid (fun V => differ_is x y hx hy V)
    generalize Pop.dist x y = dxy at *
    clear HW1 HW2 hP1 hP2 hs1 hs2 hB1 hB2 hx hy
    have hC := Below.refl W2.heap.size W2
    obtain ⟨⟨p0, p1, p2⟩, q0, q1, q2⟩ := HALL.out _ hC
    go_enter Try.func10, Try.ntmps10
    go_wp2_with (first
      | (go_at_call 41; rw [H1.out, H2.out]; refine (apart_form W H W' H' a a2 n ca m ca2 _ hn hm HE.out HE2.out HD.out).mono ?_; rintro e w1 ⟨rfl, hBx⟩; have hC := below_up hC hBx; obtain ⟨⟨p0, p1, p2⟩, q0, q1, q2⟩ := HALL.out _ hC)
      | (go_at_call 42; refine (HS1.out _ (below_up hB02 hC)).mono ?_; rintro e w2 ⟨rfl, hBx⟩; have hC := below_up hC hBx; obtain ⟨⟨p0, p1, p2⟩, q0, q1, q2⟩ := HALL.out _ hC)
      | (go_at_call 40; refine (HH1.out _ (below_up hB02 hC)).mono ?_; rintro e w3 ⟨rfl, hBx⟩; have hC := below_up hC hBx; obtain ⟨⟨p0, p1, p2⟩, q0, q1, q2⟩ := HALL.out _ hC)
      | (go_at_call 43; refine (HT1.out _ (below_up hB02 hC)).mono ?_; rintro e w4 ⟨g, rfl, hG, hBx⟩; have hC := below_up hC hBx; obtain ⟨⟨p0, p1, p2⟩, q0, q1, q2⟩ := HALL.out _ hC)
      | (go_at_call 44; refine (HDI.out _).mono ?_; rintro e w5 ⟨rfl, rfl⟩)
      | (go_at_call 45; refine (HDF.out _).mono ?_; rintro e w5 ⟨rfl, rfl⟩)
      | (go_at_call 15; refine (imageError_is _ _ _ _ _ _ hn).mono ?_; rw [HE.out]; rintro e w6 ⟨rfl, hBx⟩; have hC := below_up hC hBx; have hG := hG.keep hBx; obtain ⟨⟨p0, p1, p2⟩, q0, q1, q2⟩ := HALL.out _ hC)
      | (go_at_call 46; refine (HS2.out _ (below_up hB02 hC)).mono ?_; rintro e w7 ⟨rfl, hBx⟩; have hC := below_up hC hBx; have hG := hG.keep hBx; obtain ⟨⟨p0, p1, p2⟩, q0, q1, q2⟩ := HALL.out _ hC)
      | (go_at_call 47; refine (HH2.out _ (below_up hB02 hC)).mono ?_; rintro e w8 ⟨rfl, hBx⟩; have hC := below_up hC hBx; have hG := hG.keep hBx; obtain ⟨⟨p0, p1, p2⟩, q0, q1, q2⟩ := HALL.out _ hC))
    go_loopg [116] 8 (fun gk v wr => ∃ i : Nat, i ≤ 8 ∧ gk = 8 - i ∧ v = .int .i64 i ∧ Blk wr g (hcells hT 8) 51 ∧ Below W2.heap.size W2 wr)
    case atStart => exact ⟨0, by omega, rfl, rfl, hG, hC⟩
    case round =>
      clear hG hC
      obtain ⟨i, hi, rfl, rfl, hG, hC⟩ := hrel
      obtain ⟨⟨p0, p1, p2⟩, q0, q1, q2⟩ := HALL.out _ hC
      by_cases hlt : i < 8
      · have e1 : wr.cell? ⟨g, i, none⟩ = some (.int .u64 (hT (i + 1))) := by rw [hG.cell]; simp [hcells, hlt]
        have HTI := Lib.hid (HT2.out (i + 1) (by omega))
        have HHI := Lib.hid (HT3.out (i + 1) (by omega))
        rw [show ((i + 1 : Nat) : Int) = (i : Int) + 1 from by simp] at HTI
        generalize hT (i + 1) = hvi at *
        generalize Im.turnOf (i + 1) W H px = gt at *
        generalize Im.sw (i + 1) W H = tw at *
        generalize Im.sh (i + 1) W H = th at *
        go_wp2_with (first
          | (go_at_call 25; refine (HTI.out _ (below_up hB02 hC)).mono ?_; rintro e w3 ⟨a3, c3, rfl, hb3, hc3, hd3, hBx⟩; have hG := hG.keep hBx; have hC := below_up hC hBx)
          | (go_at_call 47; refine (HHI.out _ _ _ hb3 hc3 hd3).mono ?_; rintro e w4 ⟨rfl, hBx⟩; have hG := hG.keep hBx; have hC := below_up hC hBx))
        go_roundg (8 - (i + 1))
        case rel => exact ⟨i + 1, by omega, rfl, by go_num, hG, hC⟩
        case measure => omega
      · obtain rfl : i = 8 := by omega
        go_wp2_with (go_at_call 15; refine (imageError_is _ _ _ _ _ _ hm).mono ?_; rw [HE2.out]; rintro e w6 ⟨rfl, hBx⟩; have hC := below_up hC hBx; obtain ⟨⟨p0, p1, p2⟩, q0, q1, q2⟩ := HALL.out _ hC)
        go_ret
        exact ⟨rfl, below_up hB02 hC⟩
set_option maxRecDepth 100000 in
set_option maxHeartbeats 2000000 in
theorem meas_ok (W H : Nat) (a a2 : Option Addr) (n ca ca2 : Nat) (x y : Nat) (w : World) (hn : n ≤ 9223372036854775807) (hx : x < 18446744073709551616) (hy : y < 18446744073709551616) (px : Nat → Int) (hW : 1 ≤ W ∧ W ≤ 64 ∧ 1 ≤ H ∧ H ≤ 64) (hnn : n = 3 * (H * W)) (hr : Bytes w a n px) (hca : n ≤ ca) (hcb : ca ≤ 9223372036854775807) (hpx : ∀ i, 0 ≤ px i ∧ px i ≤ 255) (qx : Nat → Int) (hr2 : Bytes w a2 n qx) (hqx : ∀ i, 0 ≤ qx i ∧ qx i ≤ 255) :
    Calls Try.prog 10 #[.agg #[.int .i64 W, .int .i64 H, .slice a n ca], .agg #[.int .i64 W, .int .i64 H, .slice a2 n ca2], .int .u64 x, .int .u64 y] w fun e w' => e = .returned (.bool true) ∧ Below w.heap.size w w' := by
  have HR2 := Lib.hid hr2; have HQX := Lib.hid hqx; clear hr2 hqx
  have hn2 : n ≤ 12288 := by
    have : H * W ≤ 4096 := Nat.mul_le_mul hW.2.2.2 hW.2.1
    omega
  -- apart_ok W H a a2 n ca ca2 px qx _ hn (HR.out.keep hB02) (HR2.out.keep hB02) HE.out hn2 HPX.out HQX.out: behind Apart (apart_ok W H a a2 n ca ca2 px qx _ hn (HR.out.keep hB02) (HR2.out.keep hB02) HE.out hn2 HPX.out HQX.out: its contract); : the error; : the number
  have hWH : H * W ≤ 4096 := Nat.mul_le_mul hW.2.2.2 hW.2.1
  have HE : Hid (Im.err (W : Int) (H : Int) n = 0) := by rw [hnn]; exact err_ok W H hW
  have hs1 := fun V (hV : Below w.heap.size w V) => sharpness_ok W H a ca px V hW (by rw [← hnn]; exact hr.keep hV) (by rw [← hnn]; exact hca) hcb hpx
  have hs2 := fun V (hV : Below w.heap.size w V) => rsharp_is W H a ca px V hW (by rw [← hnn]; exact hr.keep hV) (by rw [← hnn]; exact hca) hcb hpx
  have hh1 := fun V (hV : Below w.heap.size w V) => hash_ok W H a ca px V hW (by rw [← hnn]; exact hr.keep hV) (by rw [← hnn]; exact hca) hcb hpx
  have hh2 := fun V (hV : Below w.heap.size w V) => rhash_is W H a ca px V hW (by rw [← hnn]; exact hr.keep hV) (by rw [← hnn]; exact hca) hcb hpx
  have ht1 := fun V (hV : Below w.heap.size w V) => hturned_ok W H a ca px V hW (by rw [← hnn]; exact hr.keep hV) (by rw [← hnn]; exact hca) hcb hpx
  have ht2 := fun t (ht : 1 ≤ t ∧ t ≤ 8) V (hV : Below w.heap.size w V) => rturned_is t W H a ca px V ht hW (by rw [← hnn]; exact hr.keep hV) (by rw [← hnn]; exact hca) hcb
  have ht3 : ∀ t, 1 ≤ t ∧ t ≤ 8 → ∀ V a3 c3, Bytes V a3 n (Im.turnOf t W H px) → n ≤ c3 → c3 ≤ 9223372036854775807 → Calls Try.prog 47 #[.agg #[.int .i64 (Im.sw t W H : Nat), .int .i64 (Im.sh t W H : Nat), .slice a3 n c3]] V fun e w' => e = .returned (.int .u64 (Im.hT W H px t : Nat)) ∧ Below V.heap.size V w' := by
    intro t ht V a3 c3 h1 h2 h3
    have hN : 3 * (Im.sh t W H * Im.sw t W H) = n := by rw [Im.s_mul, hnn]
    have := rhash_is (Im.sw t W H) (Im.sh t W H) a3 c3 (Im.turnOf t W H px) V (Im.s_bd hW) (by rw [hN]; exact h1) (by rw [hN]; exact h2) h3 (fun i => hpx _)
    rw [hN] at this
    exact this
  simp only [← hnn] at hs1 hs2 hh1 hh2 ht1 ht2
  generalize Im.sharp (Im.gr px W) W H H = sv at *
  generalize Im.hashOf W H px = hv at *
  generalize Im.hT W H px = hT at *
  have HS1 := Lib.hid hs1; have HS2 := Lib.hid hs2; have HH1 := Lib.hid hh1; have HH2 := Lib.hid hh2; have HT1 := Lib.hid ht1; have HT2 := Lib.hid ht2; have HT3 := Lib.hid ht3
  have HR := Lib.hid hr; have HPX := Lib.hid hpx; have HNN := Lib.hid hnn
  clear hs1 hs2 hh1 hh2 ht1 ht2 ht3 hnn hr hpx
  obtain ⟨W1, HW1, hP1, hs1, hB1⟩ := box w #[.int .i64 W, .int .i64 H, .slice a n ca] 24
  obtain ⟨W2, HW2, hP2, hs2, hB2⟩ := box W1 #[.int .i64 W, .int .i64 H, .slice a2 n ca2] 24
  have hP1 := hP1.keep hB2
  rw [hs1] at hP2
  have hB02 := below_up hB1 hB2
  have HALL := Lib.hid (fun V (hV : Below W2.heap.size W2 V) => And.intro (hP1.keep hV).three (hP2.keep hV).three)
  have H1 := Lib.hid HW1; have H2 := Lib.hid HW2
  have HDI := Lib.hid (fun V => distance_is x y hx hy V); have HDF := Lib.hid (fun V => differ_is x y hx hy V)
  generalize Pop.dist x y = dxy at *
  clear HW1 HW2 hP1 hP2 hs1 hs2 hB1 hB2 hx hy
  have hC := Below.refl W2.heap.size W2
  obtain ⟨⟨p0, p1, p2⟩, q0, q1, q2⟩ := HALL.out _ hC
  go_enter Try.func10, Try.ntmps10
  go_wp2_with (first
    | (go_at_call 41; rw [H1.out, H2.out]; refine (apart_ok W H a a2 n ca ca2 px qx _ hn (HR.out.keep hB02) (HR2.out.keep hB02) HE.out hn2 HPX.out HQX.out).mono ?_; rintro e w1 ⟨rfl, hBx⟩; have hC := below_up hC hBx; obtain ⟨⟨p0, p1, p2⟩, q0, q1, q2⟩ := HALL.out _ hC)
    | (go_at_call 42; refine (HS1.out _ (below_up hB02 hC)).mono ?_; rintro e w2 ⟨rfl, hBx⟩; have hC := below_up hC hBx; obtain ⟨⟨p0, p1, p2⟩, q0, q1, q2⟩ := HALL.out _ hC)
    | (go_at_call 40; refine (HH1.out _ (below_up hB02 hC)).mono ?_; rintro e w3 ⟨rfl, hBx⟩; have hC := below_up hC hBx; obtain ⟨⟨p0, p1, p2⟩, q0, q1, q2⟩ := HALL.out _ hC)
    | (go_at_call 43; refine (HT1.out _ (below_up hB02 hC)).mono ?_; rintro e w4 ⟨g, rfl, hG, hBx⟩; have hC := below_up hC hBx; obtain ⟨⟨p0, p1, p2⟩, q0, q1, q2⟩ := HALL.out _ hC)
    | (go_at_call 44; refine (HDI.out _).mono ?_; rintro e w5 ⟨rfl, rfl⟩)
    | (go_at_call 45; refine (HDF.out _).mono ?_; rintro e w5 ⟨rfl, rfl⟩)
    | (go_at_call 15; refine (imageError_is _ _ _ _ _ _ hn).mono ?_; rw [HE.out]; rintro e w6 ⟨rfl, hBx⟩; have hC := below_up hC hBx; have hG := hG.keep hBx; obtain ⟨⟨p0, p1, p2⟩, q0, q1, q2⟩ := HALL.out _ hC)
    | (go_at_call 46; refine (HS2.out _ (below_up hB02 hC)).mono ?_; rintro e w7 ⟨rfl, hBx⟩; have hC := below_up hC hBx; have hG := hG.keep hBx; obtain ⟨⟨p0, p1, p2⟩, q0, q1, q2⟩ := HALL.out _ hC)
    | (go_at_call 47; refine (HH2.out _ (below_up hB02 hC)).mono ?_; rintro e w8 ⟨rfl, hBx⟩; have hC := below_up hC hBx; have hG := hG.keep hBx; obtain ⟨⟨p0, p1, p2⟩, q0, q1, q2⟩ := HALL.out _ hC))
  go_loopg [116] 8 (fun gk v wr => ∃ i : Nat, i ≤ 8 ∧ gk = 8 - i ∧ v = .int .i64 i ∧ Blk wr g (hcells hT 8) 51 ∧ Below W2.heap.size W2 wr)
  case atStart => exact ⟨0, by omega, rfl, rfl, hG, hC⟩
  case round =>
    clear hG hC
    obtain ⟨i, hi, rfl, rfl, hG, hC⟩ := hrel
    obtain ⟨⟨p0, p1, p2⟩, q0, q1, q2⟩ := HALL.out _ hC
    by_cases hlt : i < 8
    · have e1 : wr.cell? ⟨g, i, none⟩ = some (.int .u64 (hT (i + 1))) := by rw [hG.cell]; simp [hcells, hlt]
      have HTI := Lib.hid (HT2.out (i + 1) (by omega))
      have HHI := Lib.hid (HT3.out (i + 1) (by omega))
      rw [show ((i + 1 : Nat) : Int) = (i : Int) + 1 from by simp] at HTI
      generalize hT (i + 1) = hvi at *
      generalize Im.turnOf (i + 1) W H px = gt at *
      generalize Im.sw (i + 1) W H = tw at *
      generalize Im.sh (i + 1) W H = th at *
      go_wp2_with (first
        | (go_at_call 25; refine (HTI.out _ (below_up hB02 hC)).mono ?_; rintro e w3 ⟨a3, c3, rfl, hb3, hc3, hd3, hBx⟩; have hG := hG.keep hBx; have hC := below_up hC hBx)
        | (go_at_call 47; refine (HHI.out _ _ _ hb3 hc3 hd3).mono ?_; rintro e w4 ⟨rfl, hBx⟩; have hG := hG.keep hBx; have hC := below_up hC hBx))
      go_roundg (8 - (i + 1))
      case rel => exact ⟨i + 1, by omega, rfl, by go_num, hG, hC⟩
      case measure => omega
    · obtain rfl : i = 8 := by omega
      go_wp2_with (first
        | (go_at_call 15; refine (imageError_is _ _ _ _ _ _ hn).mono ?_; rw [HE.out]; rintro e w6 ⟨rfl, hBx⟩; have hC := below_up hC hBx; obtain ⟨⟨p0, p1, p2⟩, q0, q1, q2⟩ := HALL.out _ hC)
        | (go_at_call 48; refine (distant_is W H W H a a2 n ca ca2 px qx _ (HR.out.keep (below_up hB02 hC)) (HR2.out.keep (below_up hB02 hC)) hn2 HPX.out HQX.out).mono ?_; rintro e w7 ⟨rfl, hBx⟩; have hC := below_up hC hBx))
      go_ret
      exact ⟨rfl, below_up hB02 hC⟩
theorem bnd_byte {n : Int} (h : (Lit.int .u8 n).wf = true) : 0 ≤ n ∧ n ≤ 255 := by
  simp [Lit.wf, IntKind.min, IntKind.max, IntKind.bits, IntKind.signed] at h
  omega
theorem u64_nat {n : Int} (h : (Lit.int .u64 n).wf = true) : ∃ k : Nat, n = k ∧ k < 18446744073709551616 := by
  simp [Lit.wf, IntKind.min, IntKind.max, IntKind.bits, IntKind.signed] at h
  exact ⟨n.toNat, by omega, by omega⟩
theorem pixMeasures_walk (W H : Int) (a : Option Addr) (n ca : Nat) (px : Nat → Int) (W' H' : Int) (a2 : Option Addr) (m ca2 : Nat) (qx : Nat → Int) (x y : Int) (w : World) (hr : Row w a n (fun i => .int .u8 (px i))) (hn : n ≤ 9223372036854775807) (hca : n ≤ ca) (hcb : ca ≤ 9223372036854775807) (hpx : ∀ i, (Lit.int .u8 (px i)).wf = true)
    (hr2 : Row w a2 m (fun i => .int .u8 (qx i))) (hm : m ≤ 9223372036854775807) (hqx : ∀ i, (Lit.int .u8 (qx i)).wf = true) (hx : (Lit.int .u64 x).wf = true) (hy : (Lit.int .u64 y).wf = true) : Calls Try.prog 10 #[.agg #[.int .i64 W, .int .i64 H, .slice a n ca], .agg #[.int .i64 W', .int .i64 H', .slice a2 m ca2], .int .u64 x, .int .u64 y] w fun e w' => e = .returned (.bool true) ∧ Below w.heap.size w w' := by
  obtain ⟨xn, rfl, hx2⟩ := u64_nat hx
  obtain ⟨yn, rfl, hy2⟩ := u64_nat hy
  by_cases he : Im.err W H n = 0
  · obtain ⟨Wn, Hn, rfl, rfl, hW, hnn⟩ := right_nat he
    have hp := fun i => bnd_byte (hpx i)
    by_cases he2 : Im.err W' H' m = 0
    · by_cases hd : (Wn : Int) ≠ W' ∨ (Hn : Int) ≠ H'
      · exact meas_form Wn Hn W' H' a a2 n ca m ca2 xn yn w hn hm hx2 hy2 px hW hnn hr hca hcb hp he2 hd
      · obtain ⟨W2, H2, rfl, rfl, hW2, hmm⟩ := right_nat he2
        obtain rfl : W2 = Wn := by omega
        obtain rfl : H2 = Hn := by omega
        obtain rfl : m = n := by omega
        exact meas_ok W2 H2 a a2 m ca ca2 xn yn w hn hx2 hy2 px hW hnn hr hca hcb hp qx hr2 (fun i => bnd_byte (hqx i))
    · exact meas_err2 Wn Hn W' H' a a2 n ca m ca2 xn yn w hn hm hx2 hy2 px hW hnn hr hca hcb hp _ rfl he2
  · exact meas_err W H W' H' a a2 n ca m ca2 xn yn w hn hm hx2 hy2 _ rfl he
end Go.Proofs.Ytkebkbjkapfgkaa
