/- The law PixMeasures, walked. -/
import Derived.Test.YtkebkbjkapfgkaaPixHashT
import Derived.Test.YtkebkbjkapfgkaaPixDiffer
import Derived.Test.YtkebkbjkapfgkaaPixTurnAll
namespace Go.Proofs.Ytkebkbjkapfgkaa
open Go.RowKit Go.Sort Go.Shelf
set_option linter.unusedVariables false
set_option maxRecDepth 100000 in
set_option maxHeartbeats 2000000 in
theorem meas_err (W H W' H' : Int) (a a2 : Option Addr) (n ca m ca2 : Nat) (x y : Nat) (w : World) (hn : n ≤ 9223372036854775807) (hm : m ≤ 9223372036854775807) (hx : x < 18446744073709551616) (hy : y < 18446744073709551616) (q : Int) (he : Im.err W H n = q) (hq : q ≠ 0) : Calls Try.prog 10 #[.agg #[.int .i64 W, .int .i64 H, .slice a n ca], .agg #[.int .i64 W', .int .i64 H', .slice a2 m ca2], .int .u64 x, .int .u64 y] w fun e w' => e = .returned (.bool true) ∧ Below w.heap.size w w' := by
  have HE := Lib.hid he; clear he
  have hq' : (q == 0) = false := by simpa using hq
  obtain ⟨W1, HW1, hP1, hs1, hB1⟩ := box w #[.int .i64 W, .int .i64 H, .slice a n ca] 24
  obtain ⟨W2, HW2, hP2, hs2, hB2⟩ := box W1 #[.int .i64 W', .int .i64 H', .slice a2 m ca2] 24
  have hP1 := hP1.keep hB2
  rw [hs1] at hP2
  have hB02 := below_up hB1 hB2
  have HALL := Lib.hid (fun V (hV : Below W2.heap.size W2 V) => And.intro (hP1.keep hV).three (hP2.keep hV).three)
  have H1 := Lib.hid HW1; have H2 := Lib.hid HW2
  have HDI := Lib.hid (fun V => distance_is x y hx hy V); have HDF := Lib.hid (fun V => differ_is x y hx hy V)
  generalize Pop.dist x y = dxy at *
  clear HW1 HW2 hP1 hP2 hs1 hs2 hB1 hB2 hx hy
  have hC := Below.refl W2.heap.size W2
  obtain ⟨⟨p0, p1, p2⟩, q0, q1, q2⟩ := HALL.out _ hC
  go_enter Try.func10, Try.ntmps10
  go_wp2_with (first
    | (go_at_call 41; rw [H1.out, H2.out]; refine (apart_err1 W H W' H' a a2 n ca m ca2 _ hn hm q HE.out hq).mono ?_; rintro e w1 ⟨rfl, hBx⟩; have hC := below_up hC hBx; obtain ⟨⟨p0, p1, p2⟩, q0, q1, q2⟩ := HALL.out _ hC)
    | (go_at_call 42; refine (sharpness_err W H a n ca q _ hn HE.out hq).mono ?_; rintro e w2 ⟨rfl, hBx⟩; have hC := below_up hC hBx; obtain ⟨⟨p0, p1, p2⟩, q0, q1, q2⟩ := HALL.out _ hC)
    | (go_at_call 40; refine (hash_err W H a n ca q _ hn HE.out hq).mono ?_; rintro e w3 ⟨rfl, hBx⟩; have hC := below_up hC hBx; obtain ⟨⟨p0, p1, p2⟩, q0, q1, q2⟩ := HALL.out _ hC)
    | (go_at_call 43; refine (hturned_err W H a n ca q _ hn HE.out hq).mono ?_; rintro e w4 ⟨rfl, hBx⟩; have hC := below_up hC hBx; obtain ⟨⟨p0, p1, p2⟩, q0, q1, q2⟩ := HALL.out _ hC)
    | (go_at_call 44; refine (HDI.out _).mono ?_; rintro e w5 ⟨rfl, rfl⟩)
    | (go_at_call 45; refine (HDF.out _).mono ?_; rintro e w5 ⟨rfl, rfl⟩)
    | (go_at_call 15; refine (imageError_is _ _ _ _ _ _ hn).mono ?_; rw [HE.out]; rintro e w6 ⟨rfl, hBx⟩; have hC := below_up hC hBx))
  go_ret
  exact ⟨rfl, below_up hB02 hC⟩
set_option maxRecDepth 100000 in
set_option maxHeartbeats 2000000 in
theorem meas_err2 (W H : Nat) (W' H' : Int) (a a2 : Option Addr) (n ca m ca2 : Nat) (x y : Nat) (w : World) (hn : n ≤ 9223372036854775807) (hm : m ≤ 9223372036854775807) (hx : x < 18446744073709551616) (hy : y < 18446744073709551616) (px : Nat → Int) (hW : 1 ≤ W ∧ W ≤ 64 ∧ 1 ≤ H ∧ H ≤ 64) (hnn : n = 3 * (H * W)) (hr : Bytes w a n px) (hca : n ≤ ca) (hcb : ca ≤ 9223372036854775807) (hpx : ∀ i, 0 ≤ px i ∧ px i ≤ 255) (q : Int) (he : Im.err W' H' m = q) (hq : q ≠ 0) : Calls Try.prog 10 #[.agg #[.int .i64 W, .int .i64 H, .slice a n ca], .agg #[.int .i64 W', .int .i64 H', .slice a2 m ca2], .int .u64 x, .int .u64 y] w fun e w' => e = .returned (.bool true) ∧ Below w.heap.size w w' := by
  have HE2 := Lib.hid he; clear he
  have hq' : (q == 0) = false := by simpa using hq
  -- apart_err2 W H W' H' a a2 n ca m ca2 _ hn hm HE.out q HE2.out hq: behind Apart (apart_err2 W H W' H' a a2 n ca m ca2 _ hn hm HE.out q HE2.out hq: its contract); : the error; : the number
  have hWH : H * W ≤ 4096 := Nat.mul_le_mul hW.2.2.2 hW.2.1
  have HE : Hid (Im.err (W : Int) (H : Int) n = 0) := by rw [hnn]; exact err_ok W H hW
  have hs1 := fun V (hV : Below w.heap.size w V) => sharpness_ok W H a ca px V hW (by rw [← hnn]; exact hr.keep hV) (by rw [← hnn]; exact hca) hcb hpx
  have hs2 := fun V (hV : Below w.heap.size w V) => rsharp_is W H a ca px V hW (by rw [← hnn]; exact hr.keep hV) (by rw [← hnn]; exact hca) hcb hpx
  have hh1 := fun V (hV : Below w.heap.size w V) => hash_ok W H a ca px V hW (by rw [← hnn]; exact hr.keep hV) (by rw [← hnn]; exact hca) hcb hpx
  have hh2 := fun V (hV : Below w.heap.size w V) => rhash_is W H a ca px V hW (by rw [← hnn]; exact hr.keep hV) (by rw [← hnn]; exact hca) hcb hpx
  have ht1 := fun V (hV : Below w.heap.size w V) => hturned_ok W H a ca px V hW (by rw [← hnn]; exact hr.keep hV) (by rw [← hnn]; exact hca) hcb hpx
  have ht2 := fun t (ht : 1 ≤ t ∧ t ≤ 8) V (hV : Below w.heap.size w V) => rturned_is t W H a ca px V ht hW (by rw [← hnn]; exact hr.keep hV) (by rw [← hnn]; exact hca) hcb
  have ht3 : ∀ t, 1 ≤ t ∧ t ≤ 8 → ∀ V a3 c3, Bytes V a3 n (Im.turnOf t W H px) → n ≤ c3 → c3 ≤ 9223372036854775807 → Calls Try.prog 47 #[.agg #[.int .i64 (Im.sw t W H : Nat), .int .i64 (Im.sh t W H : Nat), .slice a3 n c3]] V fun e w' => e = .returned (.int .u64 (Im.hT W H px t : Nat)) ∧ Below V.heap.size V w' := by
    intro t ht V a3 c3 h1 h2 h3
    have hN : 3 * (Im.sh t W H * Im.sw t W H) = n := by rw [Im.s_mul, hnn]
    have := rhash_is (Im.sw t W H) (Im.sh t W H) a3 c3 (Im.turnOf t W H px) V (Im.s_bd hW) (by rw [hN]; exact h1) (by rw [hN]; exact h2) h3 (fun i => hpx _)
    rw [hN] at this
    exact this
  simp only [← hnn] at hs1 hs2 hh1 hh2 ht1 ht2
  generalize Im.sharp (Im.gr px W) W H H = sv at *
  generalize Im.hashOf W H px = hv at *
  generalize Im.hT W H px = hT at *
  have HS1 := Lib.hid hs1; have HS2 := Lib.hid hs2; have HH1 := Lib.hid hh1; have HH2 := Lib.hid hh2; have HT1 := Lib.hid ht1; have HT2 := Lib.hid ht2; have HT3 := Lib.hid ht3
  have HR := Lib.hid hr; have HPX := Lib.hid hpx; have HNN := Lib.hid hnn
  clear hs1 hs2 hh1 hh2 ht1 ht2 ht3 hnn hr hpx
  obtain ⟨W1, HW1, hP1, hs1, hB1⟩ := box w #[.int .i64 W, .int .i64 H, .slice a n ca] 24
  obtain ⟨W2, HW2, hP2, hs2, hB2⟩ := box W1 #[.int .i64 W', .int .i64 H', .slice a2 m ca2] 24
  have hP1 := hP1.keep hB2
  rw [hs1] at hP2
  have hB02 := below_up hB1 hB2
  have HALL := Lib.hid (fun V (hV : Below W2.heap.size W2 V) => And.intro (hP1.keep hV).three (hP2.keep hV).three)
  have H1 := Lib.hid HW1; have H2 := Lib.hid HW2
  have HDI := Lib.hid (fun V => distance_is x y hx hy V); have HDF := Lib.hid (fun V => differ_is x y hx hy V)
  generalize Pop.dist x y = dxy at *
  clear HW1 HW2 hP1 hP2 hs1 hs2 hB1 hB2 hx hy
  have hC := Below.refl W2.heap.size W2
  obtain ⟨⟨p0, p1, p2⟩, q0, q1, q2⟩ := HALL.out _ hC
  go_enter Try.func10, Try.ntmps10
  go_wp2_with (first
    | (go_at_call 41; rw [H1.out, H2.out]; refine (apart_err2 W H W' H' a a2 n ca m ca2 _ hn hm HE.out q HE2.out hq).mono ?_; rintro e w1 ⟨rfl, hBx⟩; have hC := below_up hC hBx; obtain ⟨⟨p0, p1, p2⟩, q0, q1, q2⟩ := HALL.out _ hC)
    | (go_at_call 42; refine (HS1.out _ (below_up hB02 hC)).mono ?_; rintro e w2 ⟨rfl, hBx⟩; have hC := below_up hC hBx; obtain ⟨⟨p0, p1, p2⟩, q0, q1, q2⟩ := HALL.out _ hC)
    | (go_at_call 40; refine (HH1.out _ (below_up hB02 hC)).mono ?_; rintro e w3 ⟨rfl, hBx⟩; have hC := below_up hC hBx; obtain ⟨⟨p0, p1, p2⟩, q0, q1, q2⟩ := HALL.out _ hC)
    | (go_at_call 43; refine (HT1.out _ (below_up hB02 hC)).mono ?_; rintro e w4 ⟨g, rfl, hG, hBx⟩; have hC := below_up hC hBx; obtain ⟨⟨p0, p1, p2⟩, q0, q1, q2⟩ := HALL.out _ hC)
    | (go_at_call 44; refine (HDI.out _).mono ?_; rintro e w5 ⟨rfl, rfl⟩)
    | (go_at_call 45; refine (HDF.out _).mono ?_; rintro e w5 ⟨rfl, rfl⟩)
    | (go_at_call 15; refine (imageError_is _ _ _ _ _ _ hn).mono ?_; rw [HE.out]; rintro e w6 ⟨rfl, hBx⟩; have hC := below_up hC hBx; have hG := hG.keep hBx; obtain ⟨⟨p0, p1, p2⟩, q0, q1, q2⟩ := HALL.out _ hC)
    | (go_at_call 46; refine (HS2.out _ (below_up hB02 hC)).mono ?_; rintro e w7 ⟨rfl, hBx⟩; have hC := below_up hC hBx; have hG := hG.keep hBx; obtain ⟨⟨p0, p1, p2⟩, q0, q1, q2⟩ := HALL.out _ hC)
    | (go_at_call 47; refine (HH2.out _ (below_up hB02 hC)).mono ?_; rintro e w8 ⟨rfl, hBx⟩; have hC := below_up hC hBx; have hG := hG.keep hBx; obtain ⟨⟨p0, p1, p2⟩, q0, q1, q2⟩ := HALL.out _ hC))
  go_loopg [116] 8 (fun gk v wr => ∃ i : Nat, i ≤ 8 ∧ gk = 8 - i ∧ v = .int .i64 i ∧ Blk wr g (hcells hT 8) 51 ∧ Below W2.heap.size W2 wr)
  case atStart => exact ⟨0, by omega, rfl, rfl, hG, hC⟩
  case round =>
    clear hG hC
    obtain ⟨i, hi, rfl, rfl, hG, hC⟩ := hrel
    obtain ⟨⟨p0, p1, p2⟩, q0, q1, q2⟩ := HALL.out _ hC
    by_cases hlt : i < 8
    · have e1 : wr.cell? ⟨g, i, none⟩ = some (.int .u64 (hT (i + 1))) := by rw [hG.cell]; simp [hcells, hlt]
      have HTI := Lib.hid (HT2.out (i + 1) (by omega))
      have HHI := Lib.hid (HT3.out (i + 1) (by omega))
      rw [show ((i + 1 : Nat) : Int) = (i : Int) + 1 from by simp] at HTI
      generalize hT (i + 1) = hvi at *
      generalize Im.turnOf (i + 1) W H px = gt at *
      generalize Im.sw (i + 1) W H = tw at *
      generalize Im.sh (i + 1) W H = th at *
      go_wp2_with (first
        | (go_at_call 25; refine (HTI.out _ (below_up hB02 hC)).mono ?_; rintro e w3 ⟨a3, c3, rfl, hb3, hc3, hd3, hBx⟩; have hG := hG.keep hBx; have hC := below_up hC hBx)
        | (go_at_call 47; refine (HHI.out _ _ _ hb3 hc3 hd3).mono ?_; rintro e w4 ⟨rfl, hBx⟩; have hG := hG.keep hBx; have hC := below_up hC hBx))
      go_roundg (8 - (i + 1))
      case rel => exact ⟨i + 1, by omega, rfl, by go_num, hG, hC⟩
      case measure => omega
    · obtain rfl : i = 8 := by omega
      go_wp2_with (go_at_call 15; refine (imageError_is _ _ _ _ _ _ hm).mono ?_; rw [HE2.out]; rintro e w6 ⟨rfl, hBx⟩; have hC := below_up hC hBx; obtain ⟨⟨p0, p1, p2⟩, q0, q1, q2⟩ := HALL.out _ hC)
      go_ret
      exact ⟨rfl, below_up hB02 hC⟩
end Go.Proofs.Ytkebkbjkapfgkaa
