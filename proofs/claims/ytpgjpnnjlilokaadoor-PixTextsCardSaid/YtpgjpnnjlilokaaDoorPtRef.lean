/- The reference's ImageText. -/
import Derived.Test.YtpgjpnnjlilokaaDoorPtCols
import Derived.Test.YtpgjpnnjlilokaaDoorPtSame
namespace Go.Proofs.YtpgjpnnjlilokaaDoor
open Go.RowKit Go.Sort Go.Shelf
set_option linter.unusedVariables false
theorem same_dec (px : Nat → Int) (a b : Nat) : decide (3 = 3 ∧ ∀ i, i < 3 → px (3 * a + i) = px (3 * b + i)) = Pt.same px a b := by
  unfold Pt.same
  apply decide_eq_decide.2
  constructor
  · rintro ⟨_, h⟩; exact ⟨h 0 (by omega), h 1 (by omega), h 2 (by omega)⟩
  · rintro ⟨h0, h1, h2⟩
    refine ⟨rfl, fun i hi => ?_⟩
    have : i = 0 ∨ i = 1 ∨ i = 2 := by omega
    rcases this with rfl | rfl | rfl
    · exact h0
    · exact h1
    · exact h2
set_option maxRecDepth 100000 in
set_option maxHeartbeats 8000000 in
theorem imageText_is (W H : Nat) (a : Option Addr) (ca : Nat) (px : Nat → Int) (w : World) (hW : 1 ≤ W ∧ W ≤ 64 ∧ 1 ≤ H ∧ H ≤ 64) (hr : Bytes w a (3 * (H * W)) px) (hpx : ∀ i, 0 ≤ px i ∧ px i ≤ 255) (hca : 3 * (H * W) ≤ ca) (hca2 : ca ≤ 9223372036854775807) :
    Calls Tryd.prog 11 #[.agg #[.int .i64 W, .int .i64 H, .slice a (3 * (H * W)) ca]] w fun e w' => e = .returned (.string (Tx.mk (Pt.text W H px))) ∧ Below w.heap.size w w' := by
  have hWH : H * W ≤ 4096 := Nat.mul_le_mul hW.2.2.2 hW.2.1
  have hWH1 : 1 ≤ H * W := Nat.mul_le_mul hW.2.2.1 hW.1
  obtain ⟨b0, off0, rfl, hb0, hcell0⟩ := hr (by omega)
  obtain ⟨N, hN⟩ : ∃ N, W * H = N := ⟨_, rfl⟩
  have hNi : (W : Int) * (H : Int) = (N : Int) := by rw [← hN, Int.natCast_mul]
  have hN2 : H * W = N := by rw [← hN, Nat.mul_comm]
  have hNs : N ≤ 4096 := by omega
  have HW : Hid (∀ (k : Nat), k < N → ∀ V, Below w.heap.size w V → Bytes V (some ⟨b0, off0 + 3 * k, none⟩) 3 (fun i => px (3 * k + i))) := by
    intro k hk V hV _
    refine ⟨b0, off0 + 3 * k, rfl, Nat.lt_of_lt_of_le hb0 hV.size, fun i hi => ?_⟩
    have := cell_below hV (hcell0 (3 * k + i) (by omega))
    rwa [← Nat.add_assoc] at this
  have HCO : Hid (∀ (k : Nat), k < N → ∀ V c, Below w.heap.size w V → Calls Tryd.prog 23 #[.slice (some ⟨b0, off0 + 3 * k, none⟩) 3 c] V fun e w' => e = .returned (.string (Tx.mk (Pt.cols px k))) ∧ Below V.heap.size V w') := by
    intro k hk V c hV
    refine colours_is b0 (off0 + 3 * k) c px k V (Nat.lt_of_lt_of_le hb0 hV.size) (fun i hi => ?_) hpx
    have := cell_below hV (hcell0 (3 * k + i) (by omega))
    rwa [← Nat.add_assoc] at this
  have HN := Lib.hid hN
  have HN2 := Lib.hid hN2
  have hn3 : 3 * (H * W) = 3 * N := by rw [hN2]
  obtain ⟨n3, hn3'⟩ : ∃ n3, 3 * (H * W) = n3 := ⟨_, rfl⟩
  have HN3 : Hid (n3 = 3 * N) := by show _ = _; omega
  rw [hn3'] at hca ⊢
  have hn3s : n3 ≤ 12288 := by rw [HN3.out]; omega
  clear hN hN2 hn3 hn3' hcell0 hr hWH hWH1
  obtain ⟨W1, HW1, hP, hs1, hB1⟩ := box w #[.int .i64 W, .int .i64 H, .slice (some ⟨b0, off0, none⟩) n3 ca] 24
  have H1 := Lib.hid HW1
  have HB1 := Lib.hid hB1
  obtain ⟨m0, m1, m2⟩ := hP.three
  have k0 := cell_regrown m0
  have k1 := cell_regrown m1
  have hd1 := Tx.dl_le W (by omega)
  have hd2 := Tx.dl_le H (by omega)
  have HTW := Lib.hid (fun d os => Calls.regrown_of (told_is W (by omega) (grow (redrawn W1 d) os)))
  have HTH := Lib.hid (fun d os => Calls.regrown_of (told_is H (by omega) (grow (redrawn W1 d) os)))
  have hc1 := cat_mk [105, 109, 97, 103, 101, 32] (Lib.decDigits W) (by unfold Tx.dl at hd1; simp; omega)
  have hc2 := cat_mk ([105, 109, 97, 103, 101, 32] ++ Lib.decDigits W) [32] (by unfold Tx.dl at hd1; simp; omega)
  have hc3 := cat_mk ([105, 109, 97, 103, 101, 32] ++ Lib.decDigits W ++ [32]) (Lib.decDigits H) (by unfold Tx.dl at hd1 hd2; simp; omega)
  have hc4 := cat_mk ([105, 109, 97, 103, 101, 32] ++ Lib.decDigits W ++ [32] ++ Lib.decDigits H) [10] (by unfold Tx.dl at hd1 hd2; simp; omega)
  have hhl : (Pt.head W H).length ≤ 100 := by unfold Pt.head; unfold Tx.dl at hd1 hd2; simp; omega
  have hh : Pt.head W H = [105, 109, 97, 103, 101, 32] ++ Lib.decDigits W ++ [32] ++ Lib.decDigits H ++ [10] := rfl
  rw [← hh] at hc4
  clear hh hd1 hd2 HW1
  generalize Tx.mk ([105, 109, 97, 103, 101, 32] ++ Lib.decDigits W ++ [32] ++ Lib.decDigits H) = M3 at *
  generalize Tx.mk ([105, 109, 97, 103, 101, 32] ++ Lib.decDigits W ++ [32]) = M2 at *
  generalize Tx.mk ([105, 109, 97, 103, 101, 32] ++ Lib.decDigits W) = M1 at *
  generalize Tx.mk (Lib.decDigits W) = S1 at *
  generalize Tx.mk (Lib.decDigits H) = S2 at *
  generalize hM4 : Tx.mk (Pt.head W H) = M4 at *
  go_enter Tryd.func11, Tryd.ntmps11
  go_wp2_with fail
  rw [H1.out]
  refine wp_region_quiet_below (by kernel_rfl) (by kernel_rfl) ?_
  repeat (go_big_quiet_step ((go_at_call 22; first | with_reducible exact HTW.out _ _ | with_reducible exact HTH.out _ _)))
  refine wpQuiet_nil ?_
  intro _ hw'
  obtain ⟨⟨dq, osq⟩, hw''⟩ := hw'
  subst hw''
  have hBw2 := below_regrown W1 dq osq
  generalize grow (redrawn W1 dq) osq = w2 at *
  clear dq osq
  clear hc1 hc2 hc3 hc4 k0 k1
  go_wp2_with fail
  go_loopg [3, 4] N (fun gk s f wr => ∃ (j : Nat) (l : List UInt8), j ≤ N ∧ gk = N - j ∧ s = .string (Tx.mk l) ∧ f = .int .i64 j ∧ l ++ Pt.txt px N j = Pt.text W H px ∧ Below W1.heap.size W1 wr)
  case atStart => exact ⟨0, Pt.head W H, by omega, rfl, by rw [hM4], rfl, by unfold Pt.text; rw [HN.out], hBw2⟩
  case round =>
    obtain ⟨j, l, hj, rfl, rfl, rfl, hl, hB⟩ := hrel
    obtain ⟨m0, m1, m2⟩ := (hP.keep hB).three
    by_cases hlt : j < N
    · have hj3 : 3 * j + 3 ≤ n3 := by rw [HN3.out]; omega
      have hj3i : 3 * (j : Int) + 3 ≤ (n3 : Int) := by omega
      have hst1 := Pt.stop_go (px := px) hlt (Pt.same_refl px j)
      have HST1 := Lib.hid hst1
      clear hst1
      go_wp2_with fail
      rw [Nat.add_sub_cancel_left]
      clear m0 m1 m2
      generalize wr = wv at *
      go_loopg [5] (N - 1) (fun gk t wq => ∃ n : Nat, 1 ≤ n ∧ j + n ≤ N ∧ gk = N - n ∧ t = .int .i64 n ∧ Pt.stop px N j j = Pt.stop px N j (j + n) ∧ Below wv.heap.size wv wq)
      case atStart => exact ⟨1, by omega, by omega, rfl, rfl, HST1.out, Below.refl _ _⟩
      case round =>
        obtain ⟨n, hn1, hnN, rfl, rfl, hst, hBi⟩ := hrel
        have hBx := below_up HB1.out (below_up hB hBi)
        obtain ⟨m0, m1, m2⟩ := (hP.keep (below_up hB hBi)).three
        by_cases hkN : j + n < N
        · have hk3 : 3 * (j + n) + 3 ≤ n3 := by rw [HN3.out]; omega
          have hk3i : 3 * ((j : Int) + (n : Int)) + 3 ≤ (n3 : Int) := by omega
          have hkNi : (j : Int) + (n : Int) < (N : Int) := by omega
          have HEQ := Lib.hid (equal_anyB (some ⟨b0, off0 + 3 * (j + n), none⟩) (some ⟨b0, off0 + 3 * j, none⟩) 3 3 (ca - 3 * (j + n)) (ca - 3 * j) (fun i => px (3 * (j + n) + i)) (fun i => px (3 * j + i)) wr (HW.out (j + n) hkN wr hBx) (HW.out j hlt wr hBx) (by omega) (by omega) (by omega))
          rw [same_dec] at HEQ
          cases hs : Pt.same px (j + n) j
          · rw [hs] at HEQ
            rw [Pt.stop_not hs] at hst
            have HST := Lib.hid hst
            clear hs hst
            go_wp2_with (go_at_call 21; rw [Nat.add_sub_cancel_left]; (with_reducible refine HEQ.out.mono ?_); rintro e w5 ⟨rfl, hB5⟩; have hBy := below_up hBi hB5)
            -- behind the inner loop, in the world w5
            have hlb : l.length ≤ 120000 := by
              have h1 := congrArg List.length hl
              have h2 := Pt.txt_len px N (by omega) N 0 (by omega) (by omega)
              unfold Pt.text at h1
              rw [HN.out, List.length_append, List.length_append] at h1
              omega
            have hdn : (Lib.decDigits n).length ≤ 19 := Tx.dl_le n (by omega)
            have hcl := Pt.cols_len px j
            have HT := Lib.hid (told_is n (by omega) w5)
            have HCOj := Lib.hid (fun V hV => HCO.out j hlt V (ca - 3 * j) hV)
            have hc1 := cat_mk (Lib.decDigits n) [32] (by simp; omega)
            have hc2 := cat_mk (Lib.decDigits n ++ [32]) (Pt.cols px j) (by simp; omega)
            have hc3 := cat_mk (Lib.decDigits n ++ [32] ++ Pt.cols px j) [10] (by simp; omega)
            have hc4 := cat_mk l (Lib.decDigits n ++ [32] ++ Pt.cols px j ++ [10]) (by simp; omega)
            have HEND : Hid ((l ++ (Lib.decDigits n ++ [32] ++ Pt.cols px j ++ [10])) ++ Pt.txt px N (j + n) = Pt.text W H px) := by
              show _ = _
              rw [← hl, Pt.txt_go hlt, HST.out, show j + n - j = n by omega, List.append_assoc]; rfl
            generalize hL4 : Tx.mk (l ++ (Lib.decDigits n ++ [32] ++ Pt.cols px j ++ [10])) = L4 at *
            have HL4 : Hid (Value.string L4 = Value.string (Tx.mk (l ++ (Lib.decDigits n ++ [32] ++ Pt.cols px j ++ [10])))) := by show _ = _; rw [hL4]
            clear hL4 hcl
            generalize Tx.mk (Lib.decDigits n ++ [32] ++ Pt.cols px j ++ [10]) = L3 at *
            generalize Tx.mk (Lib.decDigits n ++ [32] ++ Pt.cols px j) = L2 at *
            generalize Tx.mk (Lib.decDigits n ++ [32]) = L1 at *
            generalize Tx.mk (Lib.decDigits n) = L0 at *
            generalize Tx.mk (Pt.cols px j) = LC at *
            go_at_call 22
            refine HT.out.mono ?_
            rintro e w6 ⟨rfl, hB6⟩
            have hBt := below_up hBy hB6
            go_wp2_with (go_at_call 23; (with_reducible refine (HCOj.out _ (below_up HB1.out (below_up hB hBt))).mono ?_); rintro e w7 ⟨rfl, hB7⟩; have hBc := below_up hBt hB7)
            go_roundg (N - (j + n))
            case rel => exact ⟨j + n, _, by omega, rfl, HL4.out, by go_num, HEND.out, below_up hB hBc⟩
            case measure => omega
          · rw [hs] at HEQ
            rw [Pt.stop_go hkN hs] at hst
            have HST := Lib.hid hst
            clear hs hst
            go_wp2_with (go_at_call 21; rw [Nat.add_sub_cancel_left]; (with_reducible refine HEQ.out.mono ?_); rintro e w5 ⟨rfl, hB5⟩; have hBy := below_up hBi hB5)
            go_roundg (N - (n + 1))
            case rel => exact ⟨n + 1, by omega, by omega, rfl, by go_num, HST.out, hBy⟩
            case measure => omega
        · have HST : Hid (Pt.stop px N j j = j + n) := by
            have e : j + n = N := by omega
            show _ = _
            rw [hst, e, Pt.stop_end]
          have hkNi : ¬ (j : Int) + (n : Int) < (N : Int) := by omega
          clear hst
          have hBy := hBi
          go_wp2_with fail
          -- behind the inner loop, in the world wr
          have hlb : l.length ≤ 120000 := by
            have h1 := congrArg List.length hl
            have h2 := Pt.txt_len px N (by omega) N 0 (by omega) (by omega)
            unfold Pt.text at h1
            rw [HN.out, List.length_append, List.length_append] at h1
            omega
          have hdn : (Lib.decDigits n).length ≤ 19 := Tx.dl_le n (by omega)
          have hcl := Pt.cols_len px j
          have HT := Lib.hid (told_is n (by omega) wr)
          have HCOj := Lib.hid (fun V hV => HCO.out j hlt V (ca - 3 * j) hV)
          have hc1 := cat_mk (Lib.decDigits n) [32] (by simp; omega)
          have hc2 := cat_mk (Lib.decDigits n ++ [32]) (Pt.cols px j) (by simp; omega)
          have hc3 := cat_mk (Lib.decDigits n ++ [32] ++ Pt.cols px j) [10] (by simp; omega)
          have hc4 := cat_mk l (Lib.decDigits n ++ [32] ++ Pt.cols px j ++ [10]) (by simp; omega)
          have HEND : Hid ((l ++ (Lib.decDigits n ++ [32] ++ Pt.cols px j ++ [10])) ++ Pt.txt px N (j + n) = Pt.text W H px) := by
            show _ = _
            rw [← hl, Pt.txt_go hlt, HST.out, show j + n - j = n by omega, List.append_assoc]; rfl
          generalize hL4 : Tx.mk (l ++ (Lib.decDigits n ++ [32] ++ Pt.cols px j ++ [10])) = L4 at *
          have HL4 : Hid (Value.string L4 = Value.string (Tx.mk (l ++ (Lib.decDigits n ++ [32] ++ Pt.cols px j ++ [10])))) := by show _ = _; rw [hL4]
          clear hL4 hcl
          generalize Tx.mk (Lib.decDigits n ++ [32] ++ Pt.cols px j ++ [10]) = L3 at *
          generalize Tx.mk (Lib.decDigits n ++ [32] ++ Pt.cols px j) = L2 at *
          generalize Tx.mk (Lib.decDigits n ++ [32]) = L1 at *
          generalize Tx.mk (Lib.decDigits n) = L0 at *
          generalize Tx.mk (Pt.cols px j) = LC at *
          go_at_call 22
          refine HT.out.mono ?_
          rintro e w6 ⟨rfl, hB6⟩
          have hBt := below_up hBy hB6
          go_wp2_with (go_at_call 23; (with_reducible refine (HCOj.out _ (below_up HB1.out (below_up hB hBt))).mono ?_); rintro e w7 ⟨rfl, hB7⟩; have hBc := below_up hBt hB7)
          go_roundg (N - (j + n))
          case rel => exact ⟨j + n, _, by omega, rfl, HL4.out, by go_num, HEND.out, below_up hB hBc⟩
          case measure => omega
    · obtain rfl : j = N := by omega
      rw [Pt.txt_end, List.append_nil] at hl
      go_wp2_with fail
      go_ret
      exact ⟨by first | rfl | (rw [hl]; rfl), below_up HB1.out hB⟩
end Go.Proofs.YtpgjpnnjlilokaaDoor
