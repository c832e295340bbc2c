/- Sharpness and HashTurned of the program; Distant of the reference. -/
import Derived.Test.YtkebkbjkapfgkaaPixHashR
import Derived.Test.YtkebkbjkapfgkaaPixApart2
import Derived.Test.YtkebkbjkapfgkaaPixSharpR
import Derived.Test.YtkebkbjkapfgkaaPixTurnedR
namespace Go.Proofs.Ytkebkbjkapfgkaa
open Go.RowKit Go.Sort
set_option linter.unusedVariables false
theorem sharpness_err (W H : Int) (a : Option Addr) (n ca : Nat) (q : Int) (w : World) (hn : n ≤ 9223372036854775807) (he : Im.err W H n = q) (hq : q ≠ 0) :
    Calls Try.prog 42 #[.agg #[.int .i64 W, .int .i64 H, .slice a n ca]] w fun e w' => e = .returned (.tuple #[.int .i64 0, .int .i64 q]) ∧ Below w.heap.size w w' := by
  have HE := Lib.hid he; clear he
  have hq' : (q == 0) = false := by simpa using hq
  obtain ⟨W1, HW1, hP, hs1, hB1⟩ := box w #[.int .i64 W, .int .i64 H, .slice a n ca] 24
  have H1 := Lib.hid HW1; clear HW1
  obtain ⟨p0, p1, p2⟩ := hP.three
  go_enter Try.func42, Try.ntmps42
  go_wp2_with (go_at_call 28; rw [H1.out]; refine (check_is _ _ _ _ _ _ hn).mono ?_; rw [HE.out]; rintro e w' ⟨rfl, hB⟩)
  go_ret2
  exact ⟨rfl, below_up hB1 hB⟩
theorem sharpness_ok (W H : Nat) (a : Option Addr) (ca : Nat) (px : Nat → Int) (w : World) (hW : 1 ≤ W ∧ W ≤ 64 ∧ 1 ≤ H ∧ H ≤ 64) (hr : Bytes w a (3 * (H * W)) px)
    (hca : 3 * (H * W) ≤ ca) (hca2 : ca ≤ 9223372036854775807) (hpx : ∀ i, 0 ≤ px i ∧ px i ≤ 255) :
    Calls Try.prog 42 #[.agg #[.int .i64 W, .int .i64 H, .slice a (3 * (H * W)) ca]] w fun e w' => e = .returned (.tuple #[.int .i64 (Im.sharp (Im.gr px W) W H H), .int .i64 0]) ∧ Below w.heap.size w w' := by
  have HE := Lib.hid (err_ok W H hW)
  have HH := Lib.hid (fun V (hV : Below w.heap.size w V) => sharpness_is W H a ca px V hW (hr.keep hV) hca hca2 hpx)
  have hWH : H * W ≤ 4096 := Nat.mul_le_mul hW.2.2.2 hW.2.1
  generalize Im.sharp (Im.gr px W) W H H = q at *
  generalize 3 * (H * W) = N at *
  clear hr hpx
  obtain ⟨W1, HW1, hP, hs1, hB1⟩ := box w #[.int .i64 W, .int .i64 H, .slice a N ca] 24
  have H1 := Lib.hid HW1; clear HW1
  go_enter Try.func42, Try.ntmps42
  go_wp2_with (first
    | (go_at_call 28; rw [H1.out]; refine (check_is _ _ _ _ _ _ (by omega)).mono ?_; rw [HE.out]; rintro e w1 ⟨rfl, hB⟩; obtain ⟨p0, p1, p2⟩ := (hP.keep hB).three)
    | (go_at_call 69; refine (HH.out _ (below_up hB1 hB)).mono ?_; rintro e w2 ⟨rfl, hB2⟩))
  go_ret2
  exact ⟨rfl, below_up hB1 (below_up hB hB2)⟩
set_option maxRecDepth 100000 in
set_option maxHeartbeats 1000000 in
theorem distant_is (W H W' H' : Int) (a a2 : Option Addr) (n ca ca2 : Nat) (px qx : Nat → Int) (w : World) (hr : Bytes w a n px) (hr2 : Bytes w a2 n qx) (hn2 : n ≤ 12288) (hpx : ∀ i, 0 ≤ px i ∧ px i ≤ 255) (hqx : ∀ i, 0 ≤ qx i ∧ qx i ≤ 255) :
    Calls Try.prog 48 #[.agg #[.int .i64 W, .int .i64 H, .slice a n ca], .agg #[.int .i64 W', .int .i64 H', .slice a2 n ca2]] w fun e w' => e = .returned (.int .i64 (Im.apartTo px qx n)) ∧ Below w.heap.size w w' := by
  have HR := Lib.hid hr; have HR2 := Lib.hid hr2; have HPX := Lib.hid hpx; have HQX := Lib.hid hqx
  have HBD := Lib.hid (fun k => Im.apartTo_bd px qx hpx hqx k)
  clear hr hr2 hpx hqx
  obtain ⟨W1, HW1, hP1, hs1, hB1⟩ := box w #[.int .i64 W, .int .i64 H, .slice a n ca] 24
  obtain ⟨W2, HW2, hP2, hs2, hB2⟩ := box W1 #[.int .i64 W', .int .i64 H', .slice a2 n ca2] 24
  have hP1 := hP1.keep hB2
  rw [hs1] at hP2
  have hB02 := below_up hB1 hB2
  obtain ⟨p0, p1, p2⟩ := hP1.three
  obtain ⟨q0, q1, q2⟩ := hP2.three
  have HALL := Lib.hid (fun V (hV : Below W2.heap.size W2 V) => And.intro (hP1.keep hV).three (hP2.keep hV).three)
  have H1 := Lib.hid HW1; have H2 := Lib.hid HW2
  clear HW1 HW2 hP1 hP2 hs1 hs2 hB1 hB2
  go_enter Try.func48, Try.ntmps48
  go_wp2_with fail
  try rw [H1.out, H2.out]
  go_wp2_with fail
  clear p0 p1 p2 q0 q1 q2
  go_loopg [5, 10] n (fun gk v5 v wr => ∃ i : Nat, i ≤ n ∧ gk = n - i ∧ v5 = .int .i64 (Im.apartTo px qx i) ∧ v = .int .i64 i ∧ Below W2.heap.size W2 wr)
  case atStart => exact ⟨0, by omega, rfl, rfl, rfl, Below.refl _ _⟩
  case round =>
    obtain ⟨i, hi, rfl, rfl, rfl, hL⟩ := hrel
    obtain ⟨⟨p0, p1, p2⟩, q0, q1, q2⟩ := HALL.out _ hL
    by_cases hlt : i < n
    · obtain ⟨b1, o1, rfl, hb1, hc1⟩ := HR.out.keep (below_up hB02 hL) (by omega)
      obtain ⟨b2, o2, rfl, hb2, hc2⟩ := HR2.out.keep (below_up hB02 hL) (by omega)
      have e1 : wr.cell? ⟨b1, o1 + i, none⟩ = some (.int .u8 (px i)) := hc1 i hlt
      have e2 : wr.cell? ⟨b2, o2 + i, none⟩ = some (.int .u8 (qx i)) := hc2 i hlt
      have hbd := HBD.out i
      have hp := HPX.out i
      have hq := HQX.out i
      have had := Im.ad_bd hp hq
      have HNX : Hid (Im.apartTo px qx (i + 1) = max (Im.apartTo px qx i) (Im.ad (px i) (qx i))) := rfl
      have HAP := Lib.hid (fun V => rsize_ad (px i) (qx i) hp hq V)
      generalize Im.ad (px i) (qx i) = d at *
      generalize Im.apartTo px qx i = s at *
      generalize px i = u at *
      generalize qx i = v at *
      have w1 : IntKind.i64.wrap u = u := by rw [IntKind.wrap_i64]; omega
      have w2 : IntKind.i64.wrap v = v := by rw [IntKind.wrap_i64]; omega
      have w3 : IntKind.i64.wrap (u - v) = u - v := by rw [IntKind.wrap_i64]; omega
      clear hc1 hc2
      by_cases hsd : s < d
      · go_wp2_with fail
        go_quiet ((go_at_call 80; exact quiet_same (HAP.out _)))
        go_wp2_with fail
        go_roundg (n - (i + 1))
        case rel => exact ⟨i + 1, by omega, rfl, by rw [HNX.out]; congr 1; omega, by go_num, below_drewN hL _⟩
        case measure => omega
      · go_wp2_with fail
        go_quiet ((go_at_call 80; exact quiet_same (HAP.out _)))
        go_wp2_with fail
        go_roundg (n - (i + 1))
        case rel => exact ⟨i + 1, by omega, rfl, by rw [HNX.out]; congr 1; omega, by go_num, below_drewN hL _⟩
        case measure => omega
    · obtain rfl : n = i := by omega
      go_wp2_with fail
      go_ret
      exact ⟨rfl, below_up hB02 hL⟩
end Go.Proofs.Ytkebkbjkapfgkaa
