/- BestOf of the reference, for a list of right images. -/
import Derived.Test.YtkebkbjkapfgkaaPixBest2
import Derived.Deep.RegionHeld3
import Derived.Deep.DrawnRows
namespace Go.Proofs.Ytkebkbjkapfgkaa
open Go.RowKit Go.Sort
set_option linter.unusedVariables false
attribute [local go_sem ↓] Go.wp_at_zero Go.wp_at_succ
set_option maxRecDepth 100000 in
set_option maxHeartbeats 4000000 in
theorem bestOf_ok (a : Option Addr) (n ca : Nat) (Wn Hn : Nat → Nat) (ads : Nat → Option Addr) (cas : Nat → Nat) (px : Nat → Nat → Int) (w : World) (hl : ImgList w a n (fun i => (Wn i : Int)) (fun i => (Hn i : Int)) ads (fun i => 3 * (Hn i * Wn i)) cas px) (hn : n ≤ 9223372036854775807) (hn0 : 0 < n)
    (hok : ∀ i, i < n → 1 ≤ Wn i ∧ Wn i ≤ 64 ∧ 1 ≤ Hn i ∧ Hn i ≤ 64) (hpx : ∀ i k, 0 ≤ px i k ∧ px i k ≤ 255) :
    Calls Try.prog 20 #[.slice a n ca] w fun e w' => e = .returned (.tuple #[.int .i64 (Im.best (Im.areaOf Wn Hn) (Im.sharpOf px Wn Hn) n), .int .i64 0]) ∧ Below w.heap.size w w' := by
  have HL := Lib.hid hl; clear hl
  have H0 := Lib.hid hok
  have hz : ((n : Int) == 0) = false := by simp; omega
  have herr : ∀ i, i < n → Im.err (Wn i : Int) (Hn i : Int) (3 * (Hn i * Wn i)) = 0 := fun i hi => by
    have := hok i hi
    unfold Im.err
    rw [if_neg (by omega), if_pos (by rw [Int.mul_assoc, Int.mul_comm (Wn i : Int)]; simp)]
  have HE := Lib.hid herr; clear herr hok
  have HSH := Lib.hid (fun i (hi : i < n) V (hV : Below w.heap.size w V) => rsharp_is (Wn i) (Hn i) (ads i) (cas i) (px i) V (H0.out i hi) ((HL.out.rows i hi).1.keep hV) (HL.out.rows i hi).2.1 (HL.out.rows i hi).2.2.1 (hpx i))
  have HSB := Lib.hid (fun i (hi : i < n) => Im.sharp_bd (W := Wn i) (H := Hn i) (Im.gr_bd (Wn i) (hpx i)) (H0.out i hi).2.1 (Hn i))
  clear hpx
  go_enter Try.func20, Try.ntmps20
  go_wp2_with fail
  go_loopg [16] n (fun gk v wr => ∃ i : Nat, i ≤ n ∧ gk = n - i ∧ v = .int .i64 i ∧ Below w.heap.size w wr)
  case atStart => exact ⟨0, by omega, rfl, rfl, Below.refl _ _⟩
  case round =>
    obtain ⟨i, hi, rfl, rfl, hB⟩ := hrel
    by_cases hlt : i < n
    · obtain ⟨b, off, rfl, hb, hc⟩ := (HL.out.keep hB).elems (by omega)
      obtain ⟨e0, e1, e2⟩ := hc i (by omega)
      have hns := (HL.out.rows i (by omega)).2.2.2
      clear hc
      go_wp2_with (go_at_call 15; refine (imageError_is _ _ _ _ _ _ hns).mono ?_; rw [HE.out i hlt]; rintro e w2 ⟨rfl, hB2⟩)
      go_roundg (n - (i + 1))
      case rel => exact ⟨i + 1, by omega, rfl, by go_num, below_up (below_allocs hB _) hB2⟩
      case measure => omega
    · obtain rfl : i = n := by omega
      go_wp2_with fail
      have hB0 := hB
      obtain ⟨A, hA⟩ : ∃ A, Im.areaOf Wn Hn = A := ⟨_, rfl⟩
      obtain ⟨S, hS⟩ : ∃ S, Im.sharpOf px Wn Hn = S := ⟨_, rfl⟩
      have HAA : Hid (∀ k, (Wn k : Int) * (Hn k : Int) = A k) := by rw [← hA]; exact fun k => rfl
      have HSS : Hid (∀ k, Im.sharp (Im.gr (px k) (Wn k)) (Wn k) (Hn k) (Hn k) = S k) := by rw [← hS]; exact fun k => rfl
      have HA := Lib.hid hA; have HS := Lib.hid hS; clear hA hS
      go_loopg [7, 28] i (fun gk v7 v wr => ∃ j : Nat, j ≤ i ∧ gk = i - j ∧ v7 = .int .i64 (Im.best A S j) ∧ v = .int .i64 j ∧ Below w.heap.size w wr)
      case atStart => exact ⟨0, by omega, rfl, rfl, rfl, hB⟩
      case round =>
        clear hB hB0
        obtain ⟨j, hj, rfl, rfl, rfl, hB⟩ := hrel
        by_cases hlt2 : j < i
        · have hBl := Im.best_lt A S j i hj (by omega)
          obtain ⟨B, hBB⟩ : ∃ B, Im.best A S j = B := ⟨_, rfl⟩
          rw [hBB] at hBl ⊢
          have HBB := Lib.hid hBB; clear hBB
          obtain ⟨b, off, rfl, hb, hc⟩ := (HL.out.keep hB).elems (by omega)
          obtain ⟨e0, e1, e2⟩ := hc j (by omega)
          obtain ⟨f0, f1, f2⟩ := hc B (by omega)
          clear hc
          have hok := H0.out j hlt2
          have hok2 := H0.out B hBl
          have hmul := mul_bd (a := (Wn j : Int)) (b := (Hn j : Int)) (by omega) (by omega) (by omega) (by omega)
          have hmul2 := mul_bd (a := (Wn B : Int)) (b := (Hn B : Int)) (by omega) (by omega) (by omega) (by omega)
          have hsb := HSB.out j hlt2
          have hsb2 := HSB.out B hBl
          have HSJ := Lib.hid (HSH.out j hlt2)
          have HSK := Lib.hid (HSH.out B hBl)
          rw [HSS.out j] at HSJ hsb
          rw [HSS.out B] at HSK hsb2
          have hAj := HAA.out j
          have hAB := HAA.out B
          rw [hAj] at hmul
          rw [hAB] at hmul2
          obtain ⟨q1, hq1⟩ : ∃ q, A j = q := ⟨_, rfl⟩
          obtain ⟨q2, hq2⟩ : ∃ q, S j = q := ⟨_, rfl⟩
          obtain ⟨q3, hq3⟩ : ∃ q, A B = q := ⟨_, rfl⟩
          obtain ⟨q4, hq4⟩ : ∃ q, S B = q := ⟨_, rfl⟩
          rw [hq1] at hAj hmul
          rw [hq3] at hAB hmul2
          rw [hq2] at HSJ hsb
          rw [hq4] at HSK hsb2
          have hnext : Im.best A S (j + 1) = if q3 < q1 ∨ (q1 = q3 ∧ q4 < q2) then j else B := by simp only [Im.best]; rw [HBB.out, hq1, hq2, hq3, hq4]
          have HNX := Lib.hid hnext; clear hq1 hq2 hq3 hq4 hnext
          have hwr : IntKind.i64.wrap ((Wn j : Int) * (Hn j : Int)) = q1 := by rw [hAj, IntKind.wrap_i64]; omega
          have hwr2 : IntKind.i64.wrap ((Wn B : Int) * (Hn B : Int)) = q3 := by rw [hAB, IntKind.wrap_i64]; omega
          clear hAj hAB
          obtain ⟨X1, HX1, hP1, hs1, hB1⟩ := box wr #[.int .i64 (Wn j), .int .i64 (Hn j), .slice (ads j) (3 * (Hn j * Wn j)) (cas j)] 24
          obtain ⟨X2, HX2, hP2, hs2, hB2⟩ := box X1 #[.int .i64 (Wn B), .int .i64 (Hn B), .slice (ads B) (3 * (Hn B * Wn B)) (cas B)] 24
          have hP1 := hP1.keep hB2
          rw [hs1] at hP2
          have hBX := below_up hB (below_up hB1 hB2)
          have HSIX := Lib.hid (fun V (hV : Below X2.heap.size X2 V) => And.intro (hP1.keep hV).three (hP2.keep hV).three)
          have HRJ := Lib.hid (fun d os => Calls.regrown_of (HSJ.out _ (below_up hBX (below_regrown X2 d os))))
          have HRK := Lib.hid (fun d os => Calls.regrown_of (HSK.out _ (below_up hBX (below_regrown X2 d os))))
          have G1 := Lib.hid HX1; have G2 := Lib.hid HX2; clear HX1 HX2 hP1 hP2 hB1 hB2 hs1 hs2
          by_cases c1 : q3 < q1
          · go_wp2_with fail
            rw [G1.out, G2.out]
            obtain ⟨⟨d0, d1, d2⟩, d3, d4, d5⟩ := HSIX.out X2 (Below.refl _ _)
            have k0 := cell_regrown d0
            have k1 := cell_regrown d1
            have k2 := cell_regrown d2
            have k3 := cell_regrown d3
            have k4 := cell_regrown d4
            have k5 := cell_regrown d5
            refine wp_region_quiet_below (by kernel_rfl) (by kernel_rfl) ?_
            repeat (go_big_quiet_step ((go_at_call 46; first | (with_reducible exact HRJ.out _ _) | (with_reducible exact HRK.out _ _))))
            refine wpQuiet_nil ?_
            intro _ hw'
            obtain ⟨⟨dq, osq⟩, hw''⟩ := hw'
            subst hw''
            have hBx3 := below_regrown X2 dq osq
            generalize grow (redrawn X2 dq) osq = x3 at *
            clear dq osq
            clear k0 k1 k2 k3 k4 k5 d0 d1 d2 d3 d4 d5
            go_wp2_with fail
            go_roundg (i - (j + 1))
            case rel => exact ⟨j + 1, by omega, rfl, by rw [HNX.out, if_pos (by omega)], by go_num, below_up hBX hBx3⟩
            case measure => omega
          · by_cases c2 : q1 = q3
            · subst c2
              clear c1
              by_cases c3 : q4 < q2
              · go_wp2_with fail
                rw [G1.out, G2.out]
                obtain ⟨⟨d0, d1, d2⟩, d3, d4, d5⟩ := HSIX.out X2 (Below.refl _ _)
                have k0 := cell_regrown d0
                have k1 := cell_regrown d1
                have k2 := cell_regrown d2
                have k3 := cell_regrown d3
                have k4 := cell_regrown d4
                have k5 := cell_regrown d5
                refine wp_region_quiet_below (by kernel_rfl) (by kernel_rfl) ?_
                repeat (go_big_quiet_step ((go_at_call 46; first | (with_reducible exact HRJ.out _ _) | (with_reducible exact HRK.out _ _))))
                refine wpQuiet_nil ?_
                intro _ hw'
                obtain ⟨⟨dq, osq⟩, hw''⟩ := hw'
                subst hw''
                have hBx3 := below_regrown X2 dq osq
                generalize grow (redrawn X2 dq) osq = x3 at *
                clear dq osq
                clear k0 k1 k2 k3 k4 k5 d0 d1 d2 d3 d4 d5
                go_wp2_with fail
                go_roundg (i - (j + 1))
                case rel => exact ⟨j + 1, by omega, rfl, by rw [HNX.out, if_pos (.inr ⟨by trivial, c3⟩)], by go_num, below_up hBX hBx3⟩
                case measure => omega
              · have hd : decide (q4 < q2) = false := decide_eq_false c3
                have hdf : (q4 < q2) = False := eq_false c3
                go_wp2_with fail
                rw [G1.out, G2.out]
                obtain ⟨⟨d0, d1, d2⟩, d3, d4, d5⟩ := HSIX.out X2 (Below.refl _ _)
                have k0 := cell_regrown d0
                have k1 := cell_regrown d1
                have k2 := cell_regrown d2
                have k3 := cell_regrown d3
                have k4 := cell_regrown d4
                have k5 := cell_regrown d5
                refine wp_region_quiet_below (by kernel_rfl) (by kernel_rfl) ?_
                repeat (go_big_quiet_step ((go_at_call 46; first | (with_reducible exact HRJ.out _ _) | (with_reducible exact HRK.out _ _))))
                refine wpQuiet_nil ?_
                intro _ hw'
                obtain ⟨⟨dq, osq⟩, hw''⟩ := hw'
                subst hw''
                have hBx3 := below_regrown X2 dq osq
                generalize grow (redrawn X2 dq) osq = x3 at *
                clear dq osq
                clear k0 k1 k2 k3 k4 k5 d0 d1 d2 d3 d4 d5
                go_wp2_with fail
                go_roundg (i - (j + 1))
                case rel => exact ⟨j + 1, by omega, rfl, by rw [HNX.out, if_neg (fun h => h.elim (fun h => absurd h (Int.lt_irrefl _)) (fun h => Int.not_lt.2 (by omega) h.2))], by go_num, below_up hBX hBx3⟩
                case measure => omega
            · have hd : decide (q3 < q1) = false := decide_eq_false c1
              have hdf : (q3 < q1) = False := eq_false c1
              have c2' : (q1 == q3) = false := by simpa using c2
              have c2'' : q1 < q3 := by omega
              clear c2
              go_wp2_with fail
              rw [G1.out, G2.out]
              obtain ⟨⟨d0, d1, d2⟩, d3, d4, d5⟩ := HSIX.out X2 (Below.refl _ _)
              have k0 := cell_regrown d0
              have k1 := cell_regrown d1
              have k2 := cell_regrown d2
              have k3 := cell_regrown d3
              have k4 := cell_regrown d4
              have k5 := cell_regrown d5
              refine wp_region_quiet_below (by kernel_rfl) (by kernel_rfl) ?_
              repeat (go_big_quiet_step ((go_at_call 46; first | (with_reducible exact HRJ.out _ _) | (with_reducible exact HRK.out _ _))))
              refine wpQuiet_nil ?_
              intro _ hw'
              obtain ⟨⟨dq, osq⟩, hw''⟩ := hw'
              subst hw''
              have hBx3 := below_regrown X2 dq osq
              generalize grow (redrawn X2 dq) osq = x3 at *
              clear dq osq
              clear k0 k1 k2 k3 k4 k5 d0 d1 d2 d3 d4 d5
              go_wp2_with fail
              go_roundg (i - (j + 1))
              case rel => exact ⟨j + 1, by omega, rfl, by rw [HNX.out, if_neg (by omega)], by go_num, below_up hBX hBx3⟩
              case measure => omega
        · obtain rfl : j = i := by omega
          go_wp2_with fail
          go_ret2
          exact ⟨by rw [← HA.out, ← HS.out]; rfl, hB⟩
end Go.Proofs.Ytkebkbjkapfgkaa
