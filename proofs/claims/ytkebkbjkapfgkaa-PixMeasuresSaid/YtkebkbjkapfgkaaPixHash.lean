/- hash and Hash of the program. -/
import Derived.Test.YtkebkbjkapfgkaaPixHashMath
import Derived.Test.YtkebkbjkapfgkaaPixScaled
import Derived.Test.YtkebkbjkapfgkaaPixGrey
import Derived.Test.YtkebkbjkapfgkaaPixTurn
import Derived.Laws.Bits64b
import Derived.Laws.ShiftsVar
namespace Go.Proofs.Ytkebkbjkapfgkaa
open Go.RowKit Go.Sort
set_option linter.unusedVariables false
attribute [local go_sem ↓] Go.wp_at_zero Go.wp_at_succ
theorem hindex0 (x y z : Int) (w : World) : (Instr.index 93 (.agg #[.int .u8 x, .int .u8 y, .int .u8 z]) (.int .i64 0)).run Try.prog w = .ok (.int .u8 x) w := by kernel_rfl
set_option maxRecDepth 100000 in
set_option maxHeartbeats 1000000 in
theorem hash_is (W H : Nat) (a : Option Addr) (ca : Nat) (px : Nat → Int) (w : World) (hW : 1 ≤ W ∧ W ≤ 64 ∧ 1 ≤ H ∧ H ≤ 64) (hr : Bytes w a (3 * (H * W)) px)
    (hca : 3 * (H * W) ≤ ca) (hca2 : ca ≤ 9223372036854775807) (hpx : ∀ i, 0 ≤ px i ∧ px i ≤ 255) :
    Calls Try.prog 77 #[.agg #[.int .i64 W, .int .i64 H, .slice a (3 * (H * W)) ca]] w fun e w' => e = .returned (.int .u64 (Im.hashOf W H px : Nat)) ∧ Below w.heap.size w w' := by
  have hWH : H * W ≤ 4096 := Nat.mul_le_mul hW.2.2.2 hW.2.1
  have hgb : ∀ i, 0 ≤ Im.content W (fun i k _ => Im.grey (Im.pix px W i k 0) (Im.pix px W i k 1) (Im.pix px W i k 2)) i ∧ Im.content W (fun i k _ => Im.grey (Im.pix px W i k 0) (Im.pix px W i k 1) (Im.pix px W i k 2)) i ≤ 255 := fun i => Im.grey_bd (hpx _) (hpx _) (hpx _)
  have hg : ∀ V, Below w.heap.size w V → Calls Try.prog 76 #[.agg #[.int .i64 W, .int .i64 H, .slice a (3 * (H * W)) ca]] V (ImgPost V W H (3 * (H * W)) (Im.content W (fun i k _ => Im.grey (Im.pix px W i k 0) (Im.pix px W i k 1) (Im.pix px W i k 2)))) := fun V hV =>
    (grey_is W H a ca px V hW (hr.keep hV) hca hca2 hpx).mono fun e w' ⟨b, h1, h2, h3, h4⟩ => ⟨_, _, h1, bytes_of_out h3, Nat.le_refl _, by omega, h4⟩
  have hs : ∀ V a2 c2, Bytes V a2 (3 * (H * W)) (Im.content W (fun i k _ => Im.grey (Im.pix px W i k 0) (Im.pix px W i k 1) (Im.pix px W i k 2))) → 3 * (H * W) ≤ c2 → c2 ≤ 9223372036854775807 →
      Calls Try.prog 75 #[.agg #[.int .i64 W, .int .i64 H, .slice a2 (3 * (H * W)) c2], .int .i64 9, .int .i64 8] V (ImgPost V 9 8 216 (Im.hashPx W H px)) := fun V a2 c2 h1 h2 h3 =>
    scaled_is W H 9 8 a2 c2 _ V hW (by omega) h1 h2 h3 hgb
  have hlt := Im.hashTo_lt (Im.hashBit (Im.hashPx W H px))
  have hor := Im.hashTo_or (Im.hashBit (Im.hashPx W H px))
  have hsk := Im.hashTo_skip (Im.hashBit (Im.hashPx W H px))
  have hbit := Im.hashBit_at (Im.hashPx W H px)
  have hsb : ∀ i, 0 ≤ Im.hashPx W H px i ∧ Im.hashPx W H px i ≤ 255 := fun i => Im.scCol_bd W H _ 9 8 _ _ (fun _ _ => hgb _) (Nat.mul_le_mul (show 1 ≤ H from hW.2.2.1) hW.1)
  unfold Im.hashOf
  generalize Im.content W (fun i k _ => Im.grey (Im.pix px W i k 0) (Im.pix px W i k 1) (Im.pix px W i k 2)) = gp at *
  generalize Im.hashPx W H px = s at *
  generalize 3 * (H * W) = N at *
  have HG := Lib.hid hg; have HS := Lib.hid hs; have HLT := Lib.hid hlt; have HOR := Lib.hid hor; have HSK := Lib.hid hsk; have HBIT := Lib.hid hbit; have HSB := Lib.hid hsb
  clear hg hs hlt hor hsk hbit hsb hgb hr hpx
  obtain ⟨h0, hh0⟩ : ∃ h0, h0 = Im.hashTo (Im.hashBit s) := ⟨_, rfl⟩
  rw [← hh0] at HLT HOR HSK ⊢
  clear hh0
  obtain ⟨W1, HW1, hP, hs1, hB1⟩ := box w #[.int .i64 W, .int .i64 H, .slice a N ca] 24
  obtain ⟨p0, p1, p2⟩ := hP.three
  have H1 := Lib.hid HW1; clear HW1
  go_enter Try.func77, Try.ntmps77
  go_wp2_with (first
    | (go_at_call 76; rw [H1.out]; refine (HG.out _ hB1).mono ?_; rintro e w2 ⟨a2, c2, rfl, hb2, hc2, hd2, hB2⟩)
    | (go_at_call 75; refine (HS.out _ _ _ hb2 hc2 hd2).mono ?_; rintro e w3 ⟨a3, c3, rfl, hb3, hc3, hd3, hB3⟩; have hP3 := (hP.keep hB2).keep hB3; have hF3 := hP3.free; obtain ⟨q0, q1, q2⟩ := hP3.three))
  have hb4 := Bytes.fields hP3 hb3 (.int .i64 9) (.int .i64 8) (.slice a3 216 c3)
  have hP4 : Blk (((w3.setCell ⟨w.heap.size, 0, none⟩ (.int .i64 9)).setCell ⟨w.heap.size, 1, none⟩ (.int .i64 8)).setCell ⟨w.heap.size, 2, none⟩ (.slice a3 216 c3)) w.heap.size #[.int .i64 9, .int .i64 8, .slice a3 216 c3] 24 := by
    simpa using ((hP3.set 0 (.int .i64 9)).set 1 (.int .i64 8)).set 2 (.slice a3 216 c3)
  have hB4 := (((below_up hB1 (below_up hB2 hB3)).setCell (p := ⟨w.heap.size, 0, none⟩) (Nat.le_refl _) (.int .i64 9)).setCell (p := ⟨w.heap.size, 1, none⟩) (Nat.le_refl _) (.int .i64 8)).setCell (p := ⟨w.heap.size, 2, none⟩) (Nat.le_refl _) (.slice a3 216 c3)
  generalize ((w3.setCell ⟨w.heap.size, 0, none⟩ (.int .i64 9)).setCell ⟨w.heap.size, 1, none⟩ (.int .i64 8)).setCell ⟨w.heap.size, 2, none⟩ (.slice a3 216 c3) = w4 at *
  obtain ⟨b3, o3, rfl, hb3', hcell⟩ := hb4 (by omega)
  have HC := Lib.hid hcell; clear hcell
  clear hb2 hb3 hP hP3 hF3 q0 q1 q2 p0 p1 p2 hB1 hB2 hB3 HG HS
  go_loopg [3, 9] 8 (fun gk v3 v wr => ∃ y : Nat, y ≤ 8 ∧ gk = 8 - y ∧ v3 = .int .u64 (h0 (8 * y) : Nat) ∧ v = .int .i64 y ∧ Blk wr w.heap.size #[.int .i64 9, .int .i64 8, .slice (some ⟨b3, o3, none⟩) 216 c3] 24 ∧ Below w4.heap.size w4 wr)
  case atStart => exact ⟨0, by omega, rfl, by have := HLT.out 0; simp at this; simp [this], rfl, hP4, Below.refl _ _⟩
  case round =>
    obtain ⟨y, hy, rfl, rfl, rfl, hP, hL⟩ := hrel
    by_cases hlt : y < 8
    · go_wp2_with fail
      go_loopg [3, 12] 8 (fun gk v3 v wr => ∃ x : Nat, x ≤ 8 ∧ gk = 8 - x ∧ v3 = .int .u64 (h0 (8 * y + x) : Nat) ∧ v = .int .i64 x ∧ Blk wr w.heap.size #[.int .i64 9, .int .i64 8, .slice (some ⟨b3, o3, none⟩) 216 c3] 24 ∧ Below w4.heap.size w4 wr)
      case atStart => exact ⟨0, by omega, rfl, rfl, rfl, hP, hL⟩
      case round =>
        clear hP hL
        obtain ⟨x, hx, rfl, rfl, rfl, hP, hL⟩ := hrel
        by_cases hlt2 : x < 8
        · have HA1 : Hid (∀ (V : World) (X Y : Int), X = (x : Int) → Y = (y : Int) → Below w4.heap.size w4 V → Calls Try.prog 66 #[.agg #[.int .i64 9, .int .i64 8, .slice (some ⟨b3, o3, none⟩) 216 c3], .int .i64 X, .int .i64 Y] V fun e w' => e = .returned (.agg #[.int .u8 (Im.pix s 9 x y 0), .int .u8 (Im.pix s 9 x y 1), .int .u8 (Im.pix s 9 x y 2)]) ∧ Below V.heap.size V w') := fun V X Y hX hY hV => at_int 9 8 x y X Y hX hY b3 o3 216 c3 s V w4 hb3' HC.out hV (by omega) (by omega) hc3 hd3
          have HA2 : Hid (∀ (V : World) (X Y : Int), X = (x : Int) + 1 → Y = (y : Int) → Below w4.heap.size w4 V → Calls Try.prog 66 #[.agg #[.int .i64 9, .int .i64 8, .slice (some ⟨b3, o3, none⟩) 216 c3], .int .i64 X, .int .i64 Y] V fun e w' => e = .returned (.agg #[.int .u8 (Im.pix s 9 (x + 1) y 0), .int .u8 (Im.pix s 9 (x + 1) y 1), .int .u8 (Im.pix s 9 (x + 1) y 2)]) ∧ Below V.heap.size V w') := fun V X Y hX hY hV => at_int 9 8 (x + 1) y X Y (by rw [hX]; simp) hY b3 o3 216 c3 s V w4 hb3' HC.out hV (by omega) (by omega) hc3 hd3
          have hbt := HBIT.out x y hlt2
          have g1 : 0 ≤ Im.pix s 9 x y 0 ∧ Im.pix s 9 x y 0 ≤ 255 := HSB.out _
          have g2 : 0 ≤ Im.pix s 9 (x + 1) y 0 ∧ Im.pix s 9 (x + 1) y 0 ≤ 255 := HSB.out _
          have hx1 : IntKind.i64.wrap ((x : Int) + 1) = (x : Int) + 1 := by rw [IntKind.wrap_i64]; omega
          have hi0 := hindex0
          generalize Im.pix s 9 x y 0 = u at *
          generalize Im.pix s 9 (x + 1) y 0 = v at *
          have hP0 := hP.three
          by_cases hq : u < v
          · have hb : Im.hashBit s (8 * y + x) = true := by rw [hbt]; simpa using hq
            have HV : Hid (bits .or .u64 ((h0 (8 * y + x) : Nat) : Int) (IntKind.u64.wrap (2 ^ (x + 8 * y))) = ((h0 (8 * y + (x + 1)) : Nat) : Int)) := by
              have e1 : (2 : Nat) ^ (8 * y + x) ≤ 2 ^ 63 := Nat.pow_le_pow_right (by omega) (by omega)
              have e2 := HLT.out (8 * y + x)
              show _ = _
              rw [show (2 : Int) ^ (x + 8 * y) = ((2 ^ (8 * y + x) : Nat) : Int) by rw [Nat.add_comm (8 * y) x]; simp, show IntKind.u64.wrap ((2 ^ (8 * y + x) : Nat) : Int) = ((2 ^ (8 * y + x) : Nat) : Int) by rw [IntKind.wrap_u64]; omega, bits_or_u64_nat _ _ (by omega) (by omega), HOR.out _ hb]
              rfl
            clear hbt hb
            go_wp2_with fail
            have hP := hP.drew
            have hL := hL.drew
            go_region_held3 (fun w' => w'.cell? ⟨w.heap.size, 0, none⟩ = some (.int .i64 9) ∧ w'.cell? ⟨w.heap.size, 1, none⟩ = some (.int .i64 8) ∧ w'.cell? ⟨w.heap.size, 2, none⟩ = some (.slice (some ⟨b3, o3, none⟩) 216 c3))
              (exact hP.three)
              (first
                | (go_at_call 66; (with_reducible refine (HA1.out _ _ _ rfl rfl hL).mono ?_); rintro e w5 ⟨rfl, hBx⟩; have hP := hP.keep hBx; have hL := below_up hL hBx)
                | (go_at_call 66; refine (HA2.out _ _ _ (by first | rfl | exact hx1) rfl hL).mono ?_; rintro e w6 ⟨rfl, hBx⟩; have hP := hP.keep hBx; have hL := below_up hL hBx))
            all_goals
              go_wp2_with fail
              go_roundg (8 - (x + 1))
              case rel => exact ⟨x + 1, by omega, rfl, by rw [HV.out], by go_num, hP, hL⟩
              case measure => omega
          · have hb : Im.hashBit s (8 * y + x) = false := by rw [hbt]; simpa using hq
            have HV : Hid (((h0 (8 * y + x) : Nat) : Int) = ((h0 (8 * y + (x + 1)) : Nat) : Int)) := congrArg (fun n : Nat => (n : Int)) (HSK.out _ hb)
            clear hbt hb
            go_wp2_with fail
            have hP := hP.drew
            have hL := hL.drew
            go_region_held3 (fun w' => w'.cell? ⟨w.heap.size, 0, none⟩ = some (.int .i64 9) ∧ w'.cell? ⟨w.heap.size, 1, none⟩ = some (.int .i64 8) ∧ w'.cell? ⟨w.heap.size, 2, none⟩ = some (.slice (some ⟨b3, o3, none⟩) 216 c3))
              (exact hP.three)
              (first
                | (go_at_call 66; (with_reducible refine (HA1.out _ _ _ rfl rfl hL).mono ?_); rintro e w5 ⟨rfl, hBx⟩; have hP := hP.keep hBx; have hL := below_up hL hBx)
                | (go_at_call 66; refine (HA2.out _ _ _ (by first | rfl | exact hx1) rfl hL).mono ?_; rintro e w6 ⟨rfl, hBx⟩; have hP := hP.keep hBx; have hL := below_up hL hBx))
            all_goals
              go_wp2_with fail
              go_roundg (8 - (x + 1))
              case rel => exact ⟨x + 1, by omega, rfl, by rw [HV.out], by go_num, hP, hL⟩
              case measure => omega
        · obtain rfl : x = 8 := by omega
          go_wp2_with fail
          go_roundg (8 - (y + 1))
          case rel => exact ⟨y + 1, by omega, rfl, rfl, by go_num, hP, hL⟩
          case measure => omega
    · obtain rfl : y = 8 := by omega
      go_wp2_with fail
      go_ret
      exact ⟨rfl, below_up hB4 hL⟩
theorem hash_err (W H : Int) (a : Option Addr) (n ca : Nat) (q : Int) (w : World) (hn : n ≤ 9223372036854775807) (he : Im.err W H n = q) (hq : q ≠ 0) :
    Calls Try.prog 40 #[.agg #[.int .i64 W, .int .i64 H, .slice a n ca]] w fun e w' => e = .returned (.tuple #[.int .u64 0, .int .i64 q]) ∧ Below w.heap.size w w' := by
  have HE := Lib.hid he; clear he
  have hq' : (q == 0) = false := by simpa using hq
  obtain ⟨W1, HW1, hP, hs1, hB1⟩ := box w #[.int .i64 W, .int .i64 H, .slice a n ca] 24
  have H1 := Lib.hid HW1; clear HW1
  obtain ⟨p0, p1, p2⟩ := hP.three
  go_enter Try.func40, Try.ntmps40
  go_wp2_with (go_at_call 28; rw [H1.out]; refine (check_is _ _ _ _ _ _ hn).mono ?_; rw [HE.out]; rintro e w' ⟨rfl, hB⟩)
  go_ret2
  exact ⟨rfl, below_up hB1 hB⟩
theorem hash_ok (W H : Nat) (a : Option Addr) (ca : Nat) (px : Nat → Int) (w : World) (hW : 1 ≤ W ∧ W ≤ 64 ∧ 1 ≤ H ∧ H ≤ 64) (hr : Bytes w a (3 * (H * W)) px)
    (hca : 3 * (H * W) ≤ ca) (hca2 : ca ≤ 9223372036854775807) (hpx : ∀ i, 0 ≤ px i ∧ px i ≤ 255) :
    Calls Try.prog 40 #[.agg #[.int .i64 W, .int .i64 H, .slice a (3 * (H * W)) ca]] w fun e w' => e = .returned (.tuple #[.int .u64 (Im.hashOf W H px : Nat), .int .i64 0]) ∧ Below w.heap.size w w' := by
  have HE := Lib.hid (err_ok W H hW)
  have HH := Lib.hid (fun V (hV : Below w.heap.size w V) => hash_is W H a ca px V hW (hr.keep hV) hca hca2 hpx)
  have hWH : H * W ≤ 4096 := Nat.mul_le_mul hW.2.2.2 hW.2.1
  generalize Im.hashOf W H px = q at *
  generalize 3 * (H * W) = N at *
  clear hr hpx
  obtain ⟨W1, HW1, hP, hs1, hB1⟩ := box w #[.int .i64 W, .int .i64 H, .slice a N ca] 24
  have H1 := Lib.hid HW1; clear HW1
  go_enter Try.func40, Try.ntmps40
  go_wp2_with (first
    | (go_at_call 28; rw [H1.out]; refine (check_is _ _ _ _ _ _ (by omega)).mono ?_; rw [HE.out]; rintro e w1 ⟨rfl, hB⟩; obtain ⟨p0, p1, p2⟩ := (hP.keep hB).three)
    | (go_at_call 77; refine (HH.out _ (below_up hB1 hB)).mono ?_; rintro e w2 ⟨rfl, hB2⟩))
  go_ret2
  exact ⟨rfl, below_up hB1 (below_up hB hB2)⟩
end Go.Proofs.Ytkebkbjkapfgkaa
