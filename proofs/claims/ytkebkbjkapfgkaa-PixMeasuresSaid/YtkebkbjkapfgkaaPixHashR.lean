/- The reference's HashOf. -/
import Derived.Test.YtkebkbjkapfgkaaPixHash
import Derived.Test.YtkebkbjkapfgkaaPixScaledR
import Derived.Test.YtkebkbjkapfgkaaPixGreyed
namespace Go.Proofs.Ytkebkbjkapfgkaa
open Go.RowKit Go.Sort
set_option linter.unusedVariables false
attribute [local go_sem ↓] Go.wp_at_zero Go.wp_at_succ
set_option maxRecDepth 100000 in
set_option maxHeartbeats 2000000 in
theorem rhash_is (W H : Nat) (a : Option Addr) (ca : Nat) (px : Nat → Int) (w : World) (hW : 1 ≤ W ∧ W ≤ 64 ∧ 1 ≤ H ∧ H ≤ 64) (hr : Bytes w a (3 * (H * W)) px)
    (hca : 3 * (H * W) ≤ ca) (hca2 : ca ≤ 9223372036854775807) (hpx : ∀ i, 0 ≤ px i ∧ px i ≤ 255) :
    Calls Try.prog 47 #[.agg #[.int .i64 W, .int .i64 H, .slice a (3 * (H * W)) ca]] w fun e w' => e = .returned (.int .u64 (Im.hashOf W H px : Nat)) ∧ Below w.heap.size w w' := by
  have hWH : H * W ≤ 4096 := Nat.mul_le_mul hW.2.2.2 hW.2.1
  have hgb : ∀ i, 0 ≤ Im.content W (fun i k _ => Im.grey (Im.pix px W i k 0) (Im.pix px W i k 1) (Im.pix px W i k 2)) i ∧ Im.content W (fun i k _ => Im.grey (Im.pix px W i k 0) (Im.pix px W i k 1) (Im.pix px W i k 2)) i ≤ 255 := fun i => Im.grey_bd (hpx _) (hpx _) (hpx _)
  have hg : ∀ V, Below w.heap.size w V → Calls Try.prog 38 #[.agg #[.int .i64 W, .int .i64 H, .slice a (3 * (H * W)) ca]] V (ImgPost V W H (3 * (H * W)) (Im.content W (fun i k _ => Im.grey (Im.pix px W i k 0) (Im.pix px W i k 1) (Im.pix px W i k 2)))) := fun V hV =>
    (greyed_is W H a ca px V hW (hr.keep hV) hca hca2 hpx).mono fun e w' ⟨g, cap, h1, h2, h3, h4, h5⟩ => ⟨_, _, h1, bytes_of_own h4, h2, by unfold maxLen at h3; omega, h5⟩
  have hs : ∀ V a2 c2, Bytes V a2 (3 * (H * W)) (Im.content W (fun i k _ => Im.grey (Im.pix px W i k 0) (Im.pix px W i k 1) (Im.pix px W i k 2))) → 3 * (H * W) ≤ c2 → c2 ≤ 9223372036854775807 →
      Calls Try.prog 34 #[.agg #[.int .i64 W, .int .i64 H, .slice a2 (3 * (H * W)) c2], .int .i64 9, .int .i64 8] V (ImgPost V 9 8 216 (Im.hashPx W H px)) := fun V a2 c2 h1 h2 h3 =>
    rscaled_is W H 9 8 a2 c2 _ V hW (by omega) h1 h2 h3 hgb
  have hlt := Im.hashTo_lt (Im.hashBit (Im.hashPx W H px))
  have hnx : ∀ k, Im.hashTo (Im.hashBit (Im.hashPx W H px)) (k + 1) = Im.hashTo (Im.hashBit (Im.hashPx W H px)) k + if Im.hashBit (Im.hashPx W H px) k = true then 2 ^ k else 0 := fun k => rfl
  have hbit := Im.hashBit_at (Im.hashPx W H px)
  have hsb : ∀ i, 0 ≤ Im.hashPx W H px i ∧ Im.hashPx W H px i ≤ 255 := fun i => Im.scCol_bd W H _ 9 8 _ _ (fun _ _ => hgb _) (Nat.mul_le_mul (show 1 ≤ H from hW.2.2.1) hW.1)
  unfold Im.hashOf
  generalize Im.content W (fun i k _ => Im.grey (Im.pix px W i k 0) (Im.pix px W i k 1) (Im.pix px W i k 2)) = gp at *
  generalize Im.hashPx W H px = s at *
  generalize 3 * (H * W) = N at *
  have HG := Lib.hid hg; have HS := Lib.hid hs; have HLT := Lib.hid hlt; have HNX := Lib.hid hnx; have HBIT := Lib.hid hbit; have HSB := Lib.hid hsb
  clear hg hs hlt hnx hbit hsb hgb hr hpx
  obtain ⟨h0, hh0⟩ : ∃ h0, h0 = Im.hashTo (Im.hashBit s) := ⟨_, rfl⟩
  rw [← hh0] at HLT HNX ⊢
  have HZ : Hid (h0 0 = 0) := by rw [hh0]; rfl
  clear hh0
  obtain ⟨W1, HW1, hP, hs1, hB1⟩ := box w #[.int .i64 W, .int .i64 H, .slice a N ca] 24
  obtain ⟨p0, p1, p2⟩ := hP.three
  have H1 := Lib.hid HW1; clear HW1
  go_enter Try.func47, Try.ntmps47
  go_wp2_with (first
    | (go_at_call 38; rw [H1.out]; refine (HG.out _ hB1).mono ?_; rintro e w2 ⟨a2, c2, rfl, hb2, hc2, hd2, hB2⟩)
    | (go_at_call 34; refine (HS.out _ _ _ hb2 hc2 hd2).mono ?_; rintro e w3 ⟨a3, c3, rfl, hb3, hc3, hd3, hB3⟩))
  obtain ⟨w4, HW4, hP, hs4, hB4⟩ := box w3 #[.int .i64 9, .int .i64 8, .slice a3 216 c3] 24
  rw [HW4]
  have hb4 := hb3.keep hB4
  have hB04 := below_up (below_up hB1 (below_up hB2 hB3)) hB4
  obtain ⟨o, ho⟩ : ∃ o, o = w3.heap.size := ⟨_, rfl⟩
  rw [← ho] at hP ⊢
  obtain ⟨b3, o3, rfl, hb3', hcell⟩ := hb4 (by omega)
  have HC := Lib.hid hcell; clear hcell
  clear HW4 ho hb2 hb3 hs4 hs1 p0 p1 p2 hB1 hB2 hB3 hB4 HG HS
  go_loopg [4, 5, 11] 8 (fun gk v4 v5 v wr => ∃ (y : Nat) (P : Nat), y ≤ 8 ∧ gk = 8 - y ∧ v4 = .int .u64 (h0 (8 * y) : Nat) ∧ v5 = .int .u64 (P : Nat) ∧ Hid (8 * y < 64 → P = 2 ^ (8 * y)) ∧ v = .int .i64 y ∧ Blk wr o #[.int .i64 9, .int .i64 8, .slice (some ⟨b3, o3, none⟩) 216 c3] 24 ∧ Below w4.heap.size w4 wr)
  case atStart => exact ⟨0, 1, by omega, rfl, by rw [Nat.mul_zero, HZ.out]; rfl, rfl, (fun _ => rfl), rfl, hP, Below.refl _ _⟩
  case round =>
    clear hP
    obtain ⟨y, P, hy, rfl, rfl, rfl, HP, rfl, hP, hL⟩ := hrel
    by_cases hlt : y < 8
    · go_wp2_with fail
      go_loopg [4, 5, 14] 8 (fun gk v4 v5 v wr => ∃ (x : Nat) (P : Nat), x ≤ 8 ∧ gk = 8 - x ∧ v4 = .int .u64 (h0 (8 * y + x) : Nat) ∧ v5 = .int .u64 (P : Nat) ∧ Hid (8 * y + x < 64 → P = 2 ^ (8 * y + x)) ∧ v = .int .i64 x ∧ Blk wr o #[.int .i64 9, .int .i64 8, .slice (some ⟨b3, o3, none⟩) 216 c3] 24 ∧ Below w4.heap.size w4 wr)
      case atStart => exact ⟨0, P, by omega, rfl, rfl, rfl, HP, rfl, hP, hL⟩
      case round =>
        clear hP hL HP
        obtain ⟨x, P, hx, rfl, rfl, rfl, HP, rfl, hP, hL⟩ := hrel
        by_cases hlt2 : x < 8
        · have hP2 := HP.out (by omega)
          have hP3 : P ≤ 9223372036854775808 := by rw [hP2]; exact Nat.pow_le_pow_right (n := 2) (by omega) (show 8 * y + x ≤ 63 by omega)
          have hh := HLT.out (8 * y + x)
          rw [← hP2] at hh
          have hbt := HBIT.out x y hlt2
          have hnx := HNX.out (8 * y + x)
          rw [← hP2] at hnx
          have HQ : Hid (8 * y + (x + 1) < 64 → 2 * P % 18446744073709551616 = 2 ^ (8 * y + (x + 1))) := by
            intro h
            have h2 : 2 ^ (8 * y + (x + 1)) = 2 * P := by rw [hP2, ← Nat.add_assoc, Nat.pow_succ, Nat.mul_comm]
            rw [h2]
            have h3 : 2 * P ≤ 9223372036854775808 := by rw [← h2]; exact Nat.pow_le_pow_right (n := 2) (by omega) (show 8 * y + (x + 1) ≤ 63 by omega)
            omega
          have gq : IntKind.u64.wrap ((P : Int) + (P : Int)) = ((2 * P % 18446744073709551616 : Nat) : Int) := by rw [IntKind.wrap_u64]; omega
          have gh : IntKind.u64.wrap ((h0 (8 * y + x) : Int) + (P : Int)) = ((h0 (8 * y + x) + P : Nat) : Int) := by rw [IntKind.wrap_u64]; omega
          clear hP2
          generalize 2 * P % 18446744073709551616 = Q at *
          have g1 : 0 ≤ Im.pix s 9 x y 0 ∧ Im.pix s 9 x y 0 ≤ 255 := HSB.out _
          have g2 : 0 ≤ Im.pix s 9 (x + 1) y 0 ∧ Im.pix s 9 (x + 1) y 0 ≤ 255 := HSB.out _
          have hx1 : IntKind.i64.wrap ((x : Int) + 1) = (x : Int) + 1 := by rw [IntKind.wrap_i64]; omega
          have HPT := Lib.hid (fun V (hV : Below w4.heap.size w4 V) => And.intro (show V.cell? ⟨b3, o3 + 3 * (y * 9 + x), none⟩ = some (.int .u8 (Im.pix s 9 x y 0)) from (hV.cell (p := ⟨b3, o3 + 3 * (y * 9 + x), none⟩) hb3').trans (HC.out (3 * (y * 9 + x)) (by omega))) (show V.cell? ⟨b3, o3 + 3 * (y * 9 + (x + 1)), none⟩ = some (.int .u8 (Im.pix s 9 (x + 1) y 0)) from (hV.cell (p := ⟨b3, o3 + 3 * (y * 9 + (x + 1)), none⟩) hb3').trans (HC.out (3 * (y * 9 + (x + 1))) (by omega))))
          have HA1 : Hid (∀ (V : World) (X Y : Int), X = (x : Int) → Y = (y : Int) → Calls Try.prog 68 #[.agg #[.int .i64 9, .int .i64 8, .slice (some ⟨b3, o3, none⟩) 216 c3], .int .i64 X, .int .i64 Y] V fun e w' => e = .returned (.slice (some ⟨b3, o3 + 3 * (y * 9 + x), none⟩) 3 (c3 - 3 * (y * 9 + x))) ∧ Below V.heap.size V w') := fun V X Y hX hY => pixel_int 9 8 x y X Y hX hY b3 o3 216 c3 V (by omega) (by omega) hc3 hd3
          have HA2 : Hid (∀ (V : World) (X Y : Int), X = (x : Int) + 1 → Y = (y : Int) → Calls Try.prog 68 #[.agg #[.int .i64 9, .int .i64 8, .slice (some ⟨b3, o3, none⟩) 216 c3], .int .i64 X, .int .i64 Y] V fun e w' => e = .returned (.slice (some ⟨b3, o3 + 3 * (y * 9 + (x + 1)), none⟩) 3 (c3 - 3 * (y * 9 + (x + 1)))) ∧ Below V.heap.size V w') := fun V X Y hX hY => pixel_int 9 8 (x + 1) y X Y (by rw [hX]; simp) hY b3 o3 216 c3 V (by omega) (by omega) hc3 hd3
          generalize Im.pix s 9 x y 0 = u at *
          generalize Im.pix s 9 (x + 1) y 0 = v at *
          by_cases hq : u < v
          · have hb : Im.hashBit s (8 * y + x) = true := by rw [hbt]; simpa using hq
            rw [if_pos hb] at hnx
            have HV := Lib.hid hnx
            clear hbt hb hnx
            go_wp2_with fail
            have hP := hP.drew
            have hL := hL.drew
            go_region_held3 (fun w' => w'.cell? ⟨o, 0, none⟩ = some (.int .i64 9) ∧ w'.cell? ⟨o, 1, none⟩ = some (.int .i64 8) ∧ w'.cell? ⟨o, 2, none⟩ = some (.slice (some ⟨b3, o3, none⟩) 216 c3) ∧ w'.cell? ⟨b3, o3 + 3 * (y * 9 + x), none⟩ = some (.int .u8 u) ∧ w'.cell? ⟨b3, o3 + 3 * (y * 9 + (x + 1)), none⟩ = some (.int .u8 v))
              (exact ⟨hP.three.1, hP.three.2.1, hP.three.2.2, (HPT.out _ hL).1, (HPT.out _ hL).2⟩)
              (first
                | (go_at_call 68; (with_reducible refine (HA1.out _ _ _ rfl rfl).mono ?_); rintro e w5 ⟨rfl, hBx⟩; have hP := hP.keep hBx; have hL := below_up hL hBx)
                | (go_at_call 68; refine (HA2.out _ _ _ (by first | rfl | exact hx1) rfl).mono ?_; rintro e w6 ⟨rfl, hBx⟩; have hP := hP.keep hBx; have hL := below_up hL hBx))
            all_goals
              go_wp2_with fail
              go_roundg (8 - (x + 1))
              case rel => exact ⟨x + 1, Q, by omega, rfl, by rw [← Nat.add_assoc, HV.out]; rfl, rfl, HQ, by go_num, hP, hL⟩
              case measure => omega
          · have hb : Im.hashBit s (8 * y + x) = false := by rw [hbt]; simpa using hq
            rw [if_neg (by rw [hb]; simp)] at hnx
            have HV := Lib.hid hnx
            clear hbt hb hnx
            go_wp2_with fail
            have hP := hP.drew
            have hL := hL.drew
            go_region_held3 (fun w' => w'.cell? ⟨o, 0, none⟩ = some (.int .i64 9) ∧ w'.cell? ⟨o, 1, none⟩ = some (.int .i64 8) ∧ w'.cell? ⟨o, 2, none⟩ = some (.slice (some ⟨b3, o3, none⟩) 216 c3) ∧ w'.cell? ⟨b3, o3 + 3 * (y * 9 + x), none⟩ = some (.int .u8 u) ∧ w'.cell? ⟨b3, o3 + 3 * (y * 9 + (x + 1)), none⟩ = some (.int .u8 v))
              (exact ⟨hP.three.1, hP.three.2.1, hP.three.2.2, (HPT.out _ hL).1, (HPT.out _ hL).2⟩)
              (first
                | (go_at_call 68; (with_reducible refine (HA1.out _ _ _ rfl rfl).mono ?_); rintro e w5 ⟨rfl, hBx⟩; have hP := hP.keep hBx; have hL := below_up hL hBx)
                | (go_at_call 68; refine (HA2.out _ _ _ (by first | rfl | exact hx1) rfl).mono ?_; rintro e w6 ⟨rfl, hBx⟩; have hP := hP.keep hBx; have hL := below_up hL hBx))
            all_goals
              go_wp2_with fail
              go_roundg (8 - (x + 1))
              case rel => exact ⟨x + 1, Q, by omega, rfl, by rw [← Nat.add_assoc, HV.out]; rfl, rfl, HQ, by go_num, hP, hL⟩
              case measure => omega
        · obtain rfl : x = 8 := by omega
          go_wp2_with fail
          go_roundg (8 - (y + 1))
          case rel => exact ⟨y + 1, P, by omega, rfl, rfl, rfl, HP, by go_num, hP, hL⟩
          case measure => omega
    · obtain rfl : y = 8 := by omega
      go_wp2_with fail
      go_ret
      exact ⟨rfl, below_up hB04 hL⟩
end Go.Proofs.Ytkebkbjkapfgkaa
