/- sharpness of the program. -/
import Derived.Test.YtkebkbjkapfgkaaPixGrey
import Derived.Test.YtkebkbjkapfgkaaPixApart
namespace Go.Proofs.Ytkebkbjkapfgkaa
open Go.RowKit Go.Sort
set_option linter.unusedVariables false
/-- The grey of a pixel. -/
def Im.gr (px : Nat → Int) (W x y : Nat) : Int := Im.grey (Im.pix px W x y 0) (Im.pix px W x y 1) (Im.pix px W x y 2)
theorem Im.gr_bd {px : Nat → Int} (W : Nat) (h : ∀ i, 0 ≤ px i ∧ px i ≤ 255) (x y : Nat) : 0 ≤ Im.gr px W x y ∧ Im.gr px W x y ≤ 255 := Im.grey_bd (h _) (h _) (h _)
/-- An image of which the bytes are known, in block w.heap.size's box. -/
structure See (w wr : World) (o0 o1 o2 : Value) (b N : Nat) (f : Nat → Int) : Prop where
  box : Blk wr w.heap.size #[o0, o1, o2] 24
  by' : Out wr b N f
  bel : Below w.heap.size w wr
theorem See.keep {w wr wr' : World} {o0 o1 o2 : Value} {b N : Nat} {f : Nat → Int} (h : See w wr o0 o1 o2 b N f) (hb : Below wr.heap.size wr wr') : See w wr' o0 o1 o2 b N f :=
  ⟨h.box.keep hb, Blk.keep h.by' hb, below_up h.bel hb⟩
theorem index0 (x y z : Int) (w : World) : (Instr.index 93 (.agg #[.int .u8 x, .int .u8 y, .int .u8 z]) (.int .i64 0)).run Try.prog w = .ok (.int .u8 x) w := by kernel_rfl
theorem at_grey (W H x y : Nat) (X Y : Int) (hX : X = x) (hY : Y = y) (b : Nat) (g : Nat → Nat → Int) (w : World) (hO : Out w b (3 * (H * W)) (Im.content W (fun i k _ => g i k))) (hx : x < W) (hy : y < H) (hW : 1 ≤ W ∧ W ≤ 64 ∧ 1 ≤ H ∧ H ≤ 64) :
    Calls Try.prog 66 #[.agg #[.int .i64 W, .int .i64 H, .slice (some ⟨b, 0, none⟩) (3 * (H * W)) (3 * (H * W))], .int .i64 X, .int .i64 Y] w fun e w' => e = .returned (.agg #[.int .u8 (g x y), .int .u8 (g x y), .int .u8 (g x y)]) ∧ Below w.heap.size w w' := by
  have hWH : H * W ≤ 4096 := Nat.mul_le_mul hW.2.2.2 hW.2.1
  have hpl := Im.place_lt W H x y hx hy
  have := at_int W H x y X Y hX hY b 0 (3 * (H * W)) (3 * (H * W)) (Im.content W (fun i k _ => g i k)) w w hO.lt (fun i hi => by rw [Nat.zero_add, Blk.cell hO]; simp [hi]) (Below.refl _ _) (by omega) (by omega) (Nat.le_refl _) (by omega)
  rwa [Im.content_pix _ _ _ _ _ hx (by omega), Im.content_pix _ _ _ _ _ hx (by omega), Im.content_pix _ _ _ _ _ hx (by omega)] at this
set_option maxRecDepth 100000 in
set_option maxHeartbeats 4000000 in
theorem sharpness_is (W H : Nat) (a : Option Addr) (ca : Nat) (px : Nat → Int) (w : World) (hW : 1 ≤ W ∧ W ≤ 64 ∧ 1 ≤ H ∧ H ≤ 64) (hr : Row w a (3 * (H * W)) (fun i => .int .u8 (px i)))
    (hca : 3 * (H * W) ≤ ca) (hca2 : ca ≤ 9223372036854775807) (hpx : ∀ i, 0 ≤ px i ∧ px i ≤ 255) :
    Calls Try.prog 69 #[.agg #[.int .i64 W, .int .i64 H, .slice a (3 * (H * W)) ca]] w fun e w' => e = .returned (.int .i64 (Im.sharp (Im.gr px W) W H H)) ∧ Below w.heap.size w w' := by
  have hWH : H * W ≤ 4096 := Nat.mul_le_mul hW.2.2.2 hW.2.1
  have hWH1 : 1 ≤ H * W := Nat.mul_le_mul (show 1 ≤ H from hW.2.2.1) hW.1
  obtain ⟨W1, HW1, hP, hs1, hB1⟩ := box w #[.int .i64 W, .int .i64 H, .slice a (3 * (H * W)) ca] 24
  have HGR := Lib.hid (grey_is W H a ca px W1 hW (hr.keep hB1) hca hca2 hpx)
  have hgb := Im.gr_bd W hpx
  obtain ⟨g, hg⟩ : ∃ g, Im.gr px W = g := ⟨_, rfl⟩
  have hcont : (Im.content W fun i k c => Im.grey (Im.pix px W i k 0) (Im.pix px W i k 1) (Im.pix px W i k 2)) = Im.content W (fun i k c => g i k) := by rw [← hg]; rfl
  rw [hcont] at HGR
  rw [hg] at hgb ⊢
  clear hcont hg hr
  have HGB := Lib.hid hgb; clear hgb
  have H1 := Lib.hid HW1; clear HW1
  go_enter Try.func69, Try.ntmps69
  go_wp2_with (go_at_call 76; rw [H1.out]; refine HGR.out.mono ?_; rintro e w2 ⟨b, rfl, hbb, hO, hB2⟩; have hP2 := hP.keep hB2; have hF2 := hP2.free; obtain ⟨p0, p1, p2⟩ := hP2.three)
  have hW0 : Out (((w2.setCell ⟨w.heap.size, 0, none⟩ (.int .i64 W)).setCell ⟨w.heap.size, 1, none⟩ (.int .i64 H)).setCell ⟨w.heap.size, 2, none⟩ (.slice (some ⟨b, 0, none⟩) (3 * (H * W)) (3 * (H * W)))) b (3 * (H * W)) (Im.content W (fun i k _ => g i k)) :=
    ((Blk.setOther hO (a := ⟨w.heap.size, 0, none⟩) (by simp; omega) (.int .i64 W)).setOther (a := ⟨w.heap.size, 1, none⟩) (by simp; omega) (.int .i64 H)).setOther (a := ⟨w.heap.size, 2, none⟩) (by simp; omega) _
  have hP3 := ((hP2.set 0 (.int .i64 W)).set 1 (.int .i64 H)).set 2 (.slice (some ⟨b, 0, none⟩) (3 * (H * W)) (3 * (H * W)))
  have hB3 := (((below_up hB1 hB2).setCell (p := ⟨w.heap.size, 0, none⟩) (Nat.le_refl _) (.int .i64 W)).setCell (p := ⟨w.heap.size, 1, none⟩) (Nat.le_refl _) (.int .i64 H)).setCell (p := ⟨w.heap.size, 2, none⟩) (Nat.le_refl _) (.slice (some ⟨b, 0, none⟩) (3 * (H * W)) (3 * (H * W)))
  have hS : See w _ (.int .i64 W) (.int .i64 H) (.slice (some ⟨b, 0, none⟩) (3 * (H * W)) (3 * (H * W))) b (3 * (H * W)) (Im.content W (fun i k _ => g i k)) := ⟨by simpa using hP3, hW0, hB3⟩
  clear hW0 hP3 hB3 hO hP2 hF2 p0 p1 p2 hB2 hbb HGR hP H1
  generalize (((w2.setCell ⟨w.heap.size, 0, none⟩ (.int .i64 W)).setCell ⟨w.heap.size, 1, none⟩ (.int .i64 H)).setCell ⟨w.heap.size, 2, none⟩ (.slice (some ⟨b, 0, none⟩) (3 * (H * W)) (3 * (H * W)))) = w3 at *
  go_loopg [3, 11] H (fun gk s v wr => ∃ j : Nat, j ≤ H ∧ gk = H - j ∧ s = .int .i64 (Im.sharp g W H j) ∧ v = .int .i64 j ∧ See w wr (.int .i64 W) (.int .i64 H) (.slice (some ⟨b, 0, none⟩) (3 * (H * W)) (3 * (H * W))) b (3 * (H * W)) (Im.content W (fun i k _ => g i k)))
  case atStart => exact ⟨0, by omega, rfl, rfl, rfl, hS⟩
  case round =>
    clear hS
    obtain ⟨j, hj, rfl, rfl, rfl, hS⟩ := hrel
    by_cases hlt : j < H
    · obtain ⟨p0, p1, p2⟩ := hS.box.three
      have hsb := Im.sharp_bd (W := W) (H := H) HGB.out hW.2.1 j
      obtain ⟨s0, hs0⟩ : ∃ s, Im.sharp g W H j = s := ⟨_, rfl⟩
      rw [hs0] at hsb ⊢
      have HS0 := Lib.hid hs0; clear hs0
      go_wp2_with fail
      go_loopg [3, 16] W (fun gk s v wr => ∃ i : Nat, i ≤ W ∧ gk = W - i ∧ s = .int .i64 (s0 + Im.rowSum g W H j i) ∧ v = .int .i64 i ∧ See w wr (.int .i64 W) (.int .i64 H) (.slice (some ⟨b, 0, none⟩) (3 * (H * W)) (3 * (H * W))) b (3 * (H * W)) (Im.content W (fun i k _ => g i k)))
      case atStart => exact ⟨0, by omega, rfl, by simp [Im.rowSum], rfl, hS⟩
      case round =>
        clear hS p0 p1 p2
        obtain ⟨i, hi, rfl, rfl, rfl, hS⟩ := hrel
        by_cases hlt2 : i < W
        · obtain ⟨p0, p1, p2⟩ := hS.box.three
          have hrb := Im.rowSum_bd (W := W) (H := H) HGB.out j i
          have hA1 := Im.ad_bd (HGB.out i j) (HGB.out (i + 1) j)
          have hA2 := Im.ad_bd (HGB.out i j) (HGB.out i (j + 1))
          obtain ⟨S, hSS⟩ : ∃ S, s0 + Im.rowSum g W H j i = S := ⟨_, rfl⟩
          have hSb0 : 0 ≤ S ∧ S ≤ 3000000 := by omega
          rw [hSS]
          have HSS := Lib.hid hSS; clear hSS hrb
          by_cases c1 : i + 1 < W
          · by_cases c2 : j + 1 < H
            · -- the round's body, where the two tests are decided; : what is added
              go_wp2_with (first
                | (simp only [index0])
                | (go_at_call 66; (with_reducible refine (at_grey W H i j (i : Int) (j : Int) rfl rfl b g _ hS.by' (by omega) (by omega) hW).mono ?_); rintro e w4 ⟨rfl, hB4⟩; have hSa := hS.keep hB4; obtain ⟨q0, q1, q2⟩ := hSa.box.three)
                | (go_at_call 66; (with_reducible refine (at_grey W H (i + 1) j ((i : Int) + 1) (j : Int) (by simp) rfl b g _ hSa.by' (by omega) (by omega) hW).mono ?_); rintro e w5 ⟨rfl, hB5⟩; have hSb := hSa.keep hB5; obtain ⟨u0, u1, u2⟩ := hSb.box.three)
                | (go_at_call 66; (with_reducible refine (at_grey W H i (j + 1) (i : Int) ((j : Int) + 1) rfl (by simp) b g _ (by first | exact hSb.by' | exact hSa.by') (by omega) (by omega) hW).mono ?_); rintro e w6 ⟨rfl, hB6⟩; have hSc := (by first | exact hSb.keep hB6 | exact hSa.keep hB6 : See w w6 _ _ _ b _ _); obtain ⟨t0, t1, t2⟩ := hSc.box.three)
                | (go_at_call 78; refine (apart_is _ _ (HGB.out _ _) (HGB.out _ _) _).mono ?_; rintro e w7 ⟨rfl, rfl⟩))
              go_roundg (W - (i + 1))
              case rel => exact ⟨i + 1, by omega, rfl, by rw [← HSS.out]; simp only [Im.rowSum, Im.near1, Im.near2]; (first | rw [if_pos c1] | rw [if_neg c1]); (first | rw [if_pos c2] | rw [if_neg c2]); congr 1; omega, by go_num, by first | exact hSc | exact hSb | exact hSa⟩
              case measure => omega
            · -- the round's body, where the two tests are decided; : what is added
              go_wp2_with (first
                | (simp only [index0])
                | (go_at_call 66; (with_reducible refine (at_grey W H i j (i : Int) (j : Int) rfl rfl b g _ hS.by' (by omega) (by omega) hW).mono ?_); rintro e w4 ⟨rfl, hB4⟩; have hSa := hS.keep hB4; obtain ⟨q0, q1, q2⟩ := hSa.box.three)
                | (go_at_call 66; (with_reducible refine (at_grey W H (i + 1) j ((i : Int) + 1) (j : Int) (by simp) rfl b g _ hSa.by' (by omega) (by omega) hW).mono ?_); rintro e w5 ⟨rfl, hB5⟩; have hSb := hSa.keep hB5; obtain ⟨u0, u1, u2⟩ := hSb.box.three)
                | (go_at_call 66; (with_reducible refine (at_grey W H i (j + 1) (i : Int) ((j : Int) + 1) rfl (by simp) b g _ (by first | exact hSb.by' | exact hSa.by') (by omega) (by omega) hW).mono ?_); rintro e w6 ⟨rfl, hB6⟩; have hSc := (by first | exact hSb.keep hB6 | exact hSa.keep hB6 : See w w6 _ _ _ b _ _); obtain ⟨t0, t1, t2⟩ := hSc.box.three)
                | (go_at_call 78; refine (apart_is _ _ (HGB.out _ _) (HGB.out _ _) _).mono ?_; rintro e w7 ⟨rfl, rfl⟩))
              go_roundg (W - (i + 1))
              case rel => exact ⟨i + 1, by omega, rfl, by rw [← HSS.out]; simp only [Im.rowSum, Im.near1, Im.near2]; (first | rw [if_pos c1] | rw [if_neg c1]); (first | rw [if_pos c2] | rw [if_neg c2]); congr 1; omega, by go_num, by first | exact hSc | exact hSb | exact hSa⟩
              case measure => omega
          · by_cases c2 : j + 1 < H
            · -- the round's body, where the two tests are decided; : what is added
              go_wp2_with (first
                | (simp only [index0])
                | (go_at_call 66; (with_reducible refine (at_grey W H i j (i : Int) (j : Int) rfl rfl b g _ hS.by' (by omega) (by omega) hW).mono ?_); rintro e w4 ⟨rfl, hB4⟩; have hSa := hS.keep hB4; obtain ⟨q0, q1, q2⟩ := hSa.box.three)
                | (go_at_call 66; (with_reducible refine (at_grey W H (i + 1) j ((i : Int) + 1) (j : Int) (by simp) rfl b g _ hSa.by' (by omega) (by omega) hW).mono ?_); rintro e w5 ⟨rfl, hB5⟩; have hSb := hSa.keep hB5; obtain ⟨u0, u1, u2⟩ := hSb.box.three)
                | (go_at_call 66; (with_reducible refine (at_grey W H i (j + 1) (i : Int) ((j : Int) + 1) rfl (by simp) b g _ (by first | exact hSb.by' | exact hSa.by') (by omega) (by omega) hW).mono ?_); rintro e w6 ⟨rfl, hB6⟩; have hSc := (by first | exact hSb.keep hB6 | exact hSa.keep hB6 : See w w6 _ _ _ b _ _); obtain ⟨t0, t1, t2⟩ := hSc.box.three)
                | (go_at_call 78; refine (apart_is _ _ (HGB.out _ _) (HGB.out _ _) _).mono ?_; rintro e w7 ⟨rfl, rfl⟩))
              go_roundg (W - (i + 1))
              case rel => exact ⟨i + 1, by omega, rfl, by rw [← HSS.out]; simp only [Im.rowSum, Im.near1, Im.near2]; (first | rw [if_pos c1] | rw [if_neg c1]); (first | rw [if_pos c2] | rw [if_neg c2]); congr 1; omega, by go_num, by first | exact hSc | exact hSb | exact hSa⟩
              case measure => omega
            · -- the round's body, where the two tests are decided; : what is added
              go_wp2_with (first
                | (simp only [index0])
                | (go_at_call 66; (with_reducible refine (at_grey W H i j (i : Int) (j : Int) rfl rfl b g _ hS.by' (by omega) (by omega) hW).mono ?_); rintro e w4 ⟨rfl, hB4⟩; have hSa := hS.keep hB4; obtain ⟨q0, q1, q2⟩ := hSa.box.three)
                | (go_at_call 66; (with_reducible refine (at_grey W H (i + 1) j ((i : Int) + 1) (j : Int) (by simp) rfl b g _ hSa.by' (by omega) (by omega) hW).mono ?_); rintro e w5 ⟨rfl, hB5⟩; have hSb := hSa.keep hB5; obtain ⟨u0, u1, u2⟩ := hSb.box.three)
                | (go_at_call 66; (with_reducible refine (at_grey W H i (j + 1) (i : Int) ((j : Int) + 1) rfl (by simp) b g _ (by first | exact hSb.by' | exact hSa.by') (by omega) (by omega) hW).mono ?_); rintro e w6 ⟨rfl, hB6⟩; have hSc := (by first | exact hSb.keep hB6 | exact hSa.keep hB6 : See w w6 _ _ _ b _ _); obtain ⟨t0, t1, t2⟩ := hSc.box.three)
                | (go_at_call 78; refine (apart_is _ _ (HGB.out _ _) (HGB.out _ _) _).mono ?_; rintro e w7 ⟨rfl, rfl⟩))
              go_roundg (W - (i + 1))
              case rel => exact ⟨i + 1, by omega, rfl, by rw [← HSS.out]; simp only [Im.rowSum, Im.near1, Im.near2]; (first | rw [if_pos c1] | rw [if_neg c1]); (first | rw [if_pos c2] | rw [if_neg c2]); congr 1; omega, by go_num, by first | exact hSc | exact hSb | exact hSa⟩
              case measure => omega
        · obtain rfl : i = W := by omega
          go_wp2_with fail
          go_roundg (H - (j + 1))
          case rel => exact ⟨j + 1, by omega, rfl, by rw [Im.sharp, HS0.out], by go_num, hS⟩
          case measure => omega
    · obtain rfl : j = H := by omega
      go_wp2_with fail
      go_ret
      exact ⟨rfl, hS.bel⟩
end Go.Proofs.Ytkebkbjkapfgkaa
