/- The reference's StampOf and PlainOf. -/
import Derived.Test.YthldlffkgafgaaaDoorTxTold
import Derived.Test.YthldlffkgafgaaaDoorZone
import Derived.Test.YthldlffkgafgaaaDoorDaysDateR
namespace Go.Proofs.YthldlffkgafgaaaDoor
open Go.RowKit Go.Sort Go.Shelf
set_option linter.unusedVariables false
theorem plainOf_err (l : Int) (h : Ev.mom l = false) (w : World) :
    Calls Tryd.prog 13 #[.int .i64 l] w fun e w' => e = .returned (.tuple #[.string ⟨#[]⟩, .int .i64 2]) ∧ w' = w := by
  go_enter Tryd.func13, Tryd.ntmps13
  go_wp2_with (go_at_call 37; refine (moment_is _ false h _).mono ?_; rintro e w2 ⟨rfl, rfl⟩)
  go_ret2
  exact ⟨rfl, rfl⟩
set_option maxHeartbeats 1000000 in
theorem stampOf_err (t z : Int) (h : ¬ Tx.StOk t z) (w : World) :
    Calls Tryd.prog 11 #[.int .i64 t, .int .i64 z] w fun e w' => e = .returned (.tuple #[.string ⟨#[]⟩, .int .i64 2]) ∧ w' = w := by
  by_cases h1 : Ev.mom t = true
  · have hb := (Ev.mom_iff _).1 h1
    have HM := Lib.hid h1
    by_cases h2 : Zn.zok z = true
    · have hz := (Zn.zok_iff _).1 h2
      have h4 : Ev.mom (t + 60 * z) = false := by
        rw [Ev.mom_no]; unfold Tx.StOk at h; omega
      have HM2 := Lib.hid h4
      have HZ := Lib.hid h2
      clear h1 h h4 h2
      go_enter Tryd.func11, Tryd.ntmps11
      go_wp2_with (first | (go_at_call 37; first | (with_reducible refine (moment_is _ _ HM.out _).mono ?_; rintro e w2 ⟨rfl, rfl⟩) | (with_reducible refine (moment_is _ _ HM2.out _).mono ?_; rintro e w2 ⟨rfl, rfl⟩)) | (go_at_call 38; refine (zoned_is _ _ HZ.out _).mono ?_; rintro e w2 ⟨rfl, rfl⟩))
      go_ret2
      exact ⟨rfl, rfl⟩
    · have h3 : Zn.zok z = false := by simpa using h2
      have HZ := Lib.hid h3
      clear h1 h h2 h3
      go_enter Tryd.func11, Tryd.ntmps11
      go_wp2_with (first | (go_at_call 37; first | (with_reducible refine (moment_is _ _ HM.out _).mono ?_; rintro e w2 ⟨rfl, rfl⟩) | (with_reducible refine (moment_is _ _ HM2.out _).mono ?_; rintro e w2 ⟨rfl, rfl⟩)) | (go_at_call 38; refine (zoned_is _ _ HZ.out _).mono ?_; rintro e w2 ⟨rfl, rfl⟩))
      go_ret2
      exact ⟨rfl, rfl⟩
  · have h3 : Ev.mom t = false := by simpa using h1
    have HM := Lib.hid h3
    clear h1 h3 h
    go_enter Tryd.func11, Tryd.ntmps11
    go_wp2_with (first | (go_at_call 37; first | (with_reducible refine (moment_is _ _ HM.out _).mono ?_; rintro e w2 ⟨rfl, rfl⟩) | (with_reducible refine (moment_is _ _ HM2.out _).mono ?_; rintro e w2 ⟨rfl, rfl⟩)) | (go_at_call 38; refine (zoned_is _ _ HZ.out _).mono ?_; rintro e w2 ⟨rfl, rfl⟩))
    go_ret2
    exact ⟨rfl, rfl⟩
namespace Tx
def CT (s : Int) : ByteArray := P2 (s / 3600) ++ ⟨#[58]⟩ ++ P2 (s / 60 % 60) ++ ⟨#[58]⟩ ++ P2 (s % 60)
theorem CT_size {s : Int} (h : 0 ≤ s ∧ s < 86400) : (CT s).size = 8 := by
  unfold CT
  simp only [ByteArray.size_append]
  rw [P2_size (by omega) (by omega), P2_size (by omega) (by omega), P2_size (by omega) (by omega)]; rfl
theorem Y4_told {y : Nat} (h0 : 1000 ≤ y) (h1 : y < 10000) : mk (Lib.decDigits y) = Y4 y := by
  unfold Y4; rw [Int.toNat_natCast, pad_big (by rw [dl_four h0 h1]; omega)]
end Tx
theorem toldY_is (y : Int) (h0 : 1000 ≤ y) (h1 : y < 10000) (w : World) : Calls Tryd.prog 40 #[.int .i64 y] w fun e w' => e = .returned (.string (Tx.Y4 y)) ∧ Below w.heap.size w w' := by
  obtain ⟨i, rfl⟩ := Int.eq_ofNat_of_zero_le (show 0 ≤ y by omega)
  rw [← Tx.Y4_told (by omega) (by omega)]
  exact told_is i (by omega) w
set_option maxRecDepth 100000 in
set_option maxHeartbeats 1000000 in
theorem clockTime_is (s : Int) (h : 0 ≤ s ∧ s < 86400) (w : World) : Calls Tryd.prog 42 #[.int .i64 s] w fun e w' => e = .returned (.string (Tx.CT s)) ∧ Below w.heap.size w w' := by
  have HH := Lib.hid (fun W => toldPad_is (s / 3600) (by omega) (by omega) W)
  have HM := Lib.hid (fun W => toldPad_is (s / 60 % 60) (by omega) (by omega) W)
  have HS := Lib.hid (fun W => toldPad_is (s % 60) (by omega) (by omega) W)
  have hhs := Tx.P2_size (n := s / 3600) (by omega) (by omega)
  have hms := Tx.P2_size (n := s / 60 % 60) (by omega) (by omega)
  have hss := Tx.P2_size (n := s % 60) (by omega) (by omega)
  unfold Tx.CT
  generalize Tx.P2 (s / 3600) = A at *
  generalize Tx.P2 (s / 60 % 60) = B at *
  generalize Tx.P2 (s % 60) = E at *
  have hB := Below.refl w.heap.size w
  go_enter Tryd.func42, Tryd.ntmps42
  go_wp2_with (go_at_call 41; (first | (with_reducible refine (HH.out _).mono ?_) | (with_reducible refine (HM.out _).mono ?_) | (with_reducible refine (HS.out _).mono ?_)); rintro e w' ⟨rfl, hB2⟩; have hB := below_up hB hB2)
  go_ret
  exact ⟨rfl, hB⟩
theorem Tx.LT_told (y m d s : Int) (sep mid : ByteArray) : Tx.LT y m d s sep mid = Tx.Y4 y ++ sep ++ Tx.P2 m ++ sep ++ Tx.P2 d ++ mid ++ Tx.CT s := by
  unfold Tx.LT Tx.D Tx.CT
  simp only [ByteArray.append_assoc]
set_option maxRecDepth 100000 in
set_option maxHeartbeats 2000000 in
theorem plainOf_ok (l : Int) (h : 0 ≤ l ∧ l ≤ 6311433599) (w : World) :
    Calls Tryd.prog 13 #[.int .i64 l] w fun e w' => ∃ s, Tx.PlainIs l s ∧ e = .returned (.tuple #[.string s, .int .i64 0]) ∧ Below w.heap.size w w' := by
  have HM := Lib.hid ((Ev.mom_iff _).2 h)
  have HDF := Lib.hid (dateFor_any (l / 86400) w (by omega) (by omega))
  go_enter Tryd.func13, Tryd.ntmps13
  go_wp2_with (first | (go_at_call 37; refine (moment_is _ true HM.out _).mono ?_; rintro e w2 ⟨rfl, rfl⟩) | (go_at_call 39; refine HDF.out.mono ?_; rintro e w1 ⟨y, m, d, hv, hn, rfl, hB⟩))
  have HLT := Lib.hid (Tx.LT_told y m d (l % 86400) ⟨#[58]⟩ ⟨#[32]⟩)
  -- the drawn region that tells a date and a time; l % 86400: the seconds
  obtain ⟨y1, y2, m1, m2, d1, d2⟩ := (Cal.vld_iff _ _ _).1 hv
  have d3 := Cal.len_bd y m
  obtain ⟨W3, hW3, hP3, hz3, hb3⟩ := box w1 #[.int .i64 y, .int .i64 m, .int .i64 d] 56
  have HB3 := Lib.hid (below_up hB hb3)
  obtain ⟨c0, c1, c2⟩ := hP3.three
  have HY := Lib.hid (fun d os => Calls.regrown_of (toldY_is y (by omega) (by omega) (grow (redrawn W3 d) os)))
  have HPM := Lib.hid (fun d os => Calls.regrown_of (toldPad_is m (by omega) (by omega) (grow (redrawn W3 d) os)))
  have HPD := Lib.hid (fun q os => Calls.regrown_of (toldPad_is d (by omega) (by omega) (grow (redrawn W3 q) os)))
  have HCT := Lib.hid (fun d os => Calls.regrown_of (clockTime_is (l % 86400) (by omega) (grow (redrawn W3 d) os)))
  have ys := Tx.Y4_size (n := y) (by omega) (by omega)
  have ms := Tx.P2_size (n := m) (by omega) (by omega)
  have ds := Tx.P2_size (n := d) (by omega) (by omega)
  have cs := Tx.CT_size (s := l % 86400) (by omega)
  have HV := Lib.hid hv; have HN := Lib.hid hn
  rw [hW3]
  generalize Tx.Y4 y = A at *
  generalize Tx.P2 m = B at *
  generalize Tx.P2 d = E at *
  generalize Tx.CT (l % 86400) = G at *
  have k0 := cell_regrown c0
  have k1 := cell_regrown c1
  have k2 := cell_regrown c2
  clear hW3 hP3 hz3 hv hn y1 y2 m1 m2 d1 d2 d3 c0 c1 c2 hB hb3
  refine wp_region_quiet_below (by kernel_rfl) (by kernel_rfl) ?_
  repeat (go_big_quiet_step ((first | (go_at_call 40; with_reducible exact HY.out _ _) | (go_at_call 41; first | with_reducible exact HPM.out _ _ | with_reducible exact HPD.out _ _) | (go_at_call 42; with_reducible exact HCT.out _ _))))
  refine wpQuiet_nil ?_
  intro _ hw'
  obtain ⟨⟨dq, osq⟩, hw''⟩ := hw'
  subst hw''
  have hBw4 := below_regrown W3 dq osq
  generalize grow (redrawn W3 dq) osq = w4 at *
  clear dq osq
  go_wp2_with fail
  go_ret2
  exact ⟨_, ⟨y, m, d, HV.out, HN.out, by rw [HLT.out]⟩, rfl, below_up HB3.out hBw4⟩
set_option maxRecDepth 100000 in
set_option maxHeartbeats 2000000 in
theorem stampOf_ok (t z : Int) (h : Tx.StOk t z) (w : World) :
    Calls Tryd.prog 11 #[.int .i64 t, .int .i64 z] w fun e w' => ∃ s, Tx.StampIs t z s ∧ e = .returned (.tuple #[.string s, .int .i64 0]) ∧ Below w.heap.size w w' := by
  obtain ⟨h1, h2, h3⟩ := h
  have HM := Lib.hid ((Ev.mom_iff _).2 h1)
  have HM2 := Lib.hid ((Ev.mom_iff _).2 h3)
  have HZ := Lib.hid ((Zn.zok_iff _).2 h2)
  have HDF := Lib.hid (dateFor_any ((t + 60 * z) / 86400) w (by omega) (by omega))
  go_enter Tryd.func11, Tryd.ntmps11
  go_wp2_with (first | (go_at_call 37; first | (with_reducible refine (moment_is _ _ HM.out _).mono ?_; rintro e w2 ⟨rfl, rfl⟩) | (with_reducible refine (moment_is _ _ HM2.out _).mono ?_; rintro e w2 ⟨rfl, rfl⟩)) | (go_at_call 38; refine (zoned_is _ _ HZ.out _).mono ?_; rintro e w2 ⟨rfl, rfl⟩) | (go_at_call 39; refine HDF.out.mono ?_; rintro e w1 ⟨y, m, d, hv, hn, rfl, hB⟩))
  have HLT := Lib.hid (Tx.LT_told y m d ((t + 60 * z) % 86400) ⟨#[45]⟩ ⟨#[84]⟩)
  -- the drawn region that tells a date and a time; (t + 60 * z) % 86400: the seconds
  obtain ⟨y1, y2, m1, m2, d1, d2⟩ := (Cal.vld_iff _ _ _).1 hv
  have d3 := Cal.len_bd y m
  obtain ⟨W3, hW3, hP3, hz3, hb3⟩ := box w1 #[.int .i64 y, .int .i64 m, .int .i64 d] 56
  have HB3 := Lib.hid (below_up hB hb3)
  obtain ⟨c0, c1, c2⟩ := hP3.three
  have HY := Lib.hid (fun d os => Calls.regrown_of (toldY_is y (by omega) (by omega) (grow (redrawn W3 d) os)))
  have HPM := Lib.hid (fun d os => Calls.regrown_of (toldPad_is m (by omega) (by omega) (grow (redrawn W3 d) os)))
  have HPD := Lib.hid (fun q os => Calls.regrown_of (toldPad_is d (by omega) (by omega) (grow (redrawn W3 q) os)))
  have HCT := Lib.hid (fun d os => Calls.regrown_of (clockTime_is ((t + 60 * z) % 86400) (by omega) (grow (redrawn W3 d) os)))
  have ys := Tx.Y4_size (n := y) (by omega) (by omega)
  have ms := Tx.P2_size (n := m) (by omega) (by omega)
  have ds := Tx.P2_size (n := d) (by omega) (by omega)
  have cs := Tx.CT_size (s := (t + 60 * z) % 86400) (by omega)
  have HV := Lib.hid hv; have HN := Lib.hid hn
  rw [hW3]
  generalize Tx.Y4 y = A at *
  generalize Tx.P2 m = B at *
  generalize Tx.P2 d = E at *
  generalize Tx.CT ((t + 60 * z) % 86400) = G at *
  have k0 := cell_regrown c0
  have k1 := cell_regrown c1
  have k2 := cell_regrown c2
  clear hW3 hP3 hz3 hv hn y1 y2 m1 m2 d1 d2 d3 c0 c1 c2 hB hb3
  refine wp_region_quiet_below (by kernel_rfl) (by kernel_rfl) ?_
  repeat (go_big_quiet_step ((first | (go_at_call 40; with_reducible exact HY.out _ _) | (go_at_call 41; first | with_reducible exact HPM.out _ _ | with_reducible exact HPD.out _ _) | (go_at_call 42; with_reducible exact HCT.out _ _))))
  refine wpQuiet_nil ?_
  intro _ hw'
  obtain ⟨⟨dq, osq⟩, hw''⟩ := hw'
  subst hw''
  have hBw4 := below_regrown W3 dq osq
  generalize grow (redrawn W3 dq) osq = w4 at *
  clear dq osq
  have xs : (A ++ ⟨#[45]⟩ ++ B ++ ⟨#[45]⟩ ++ E ++ ⟨#[84]⟩ ++ G).size = 19 := by simp only [ByteArray.size_append, ys, ms, ds, cs]; rfl
  have HLT2 := Lib.hid HLT.out
  clear HLT
  generalize A ++ ⟨#[45]⟩ ++ B ++ ⟨#[45]⟩ ++ E ++ ⟨#[84]⟩ ++ G = X at *
  have hh1 := h2
  by_cases hz : z < 0
  · have HH := Lib.hid (fun W => toldPad_is (-z / 60) (by omega) (by omega) W)
    have HS := Lib.hid (fun W => toldPad_is (-z % 60) (by omega) (by omega) W)
    have hhs := Tx.P2_size (n := -z / 60) (by omega) (by omega)
    have hss := Tx.P2_size (n := -z % 60) (by omega) (by omega)
    have HF : Hid (Tx.ST y m d ((t + 60 * z) % 86400) z = X ++ ⟨#[45]⟩ ++ Tx.P2 (-z / 60) ++ ⟨#[58]⟩ ++ Tx.P2 (-z % 60)) := by
      show _ = _
      unfold Tx.ST Tx.sgn Tx.mag
      rw [if_pos hz, HLT2.out, show max z (-z) = -z by omega]
    generalize Tx.P2 (-z / 60) = A1 at *
    generalize Tx.P2 (-z % 60) = B1 at *
    have q1 : wrap64 (-z.tdiv 60) = -z / 60 := by rw [← Int.neg_tdiv, Int.tdiv_eq_ediv_of_nonneg (by omega)]; unfold wrap64; omega
    have q2 : -z.tmod 60 = -z % 60 := by rw [← Int.neg_tmod, Int.tmod_eq_emod_of_nonneg (by omega)]
    have Q1 := Lib.hid q1
    have Q2 := Lib.hid q2
    clear q1 q2
    go_wp2_with (go_at_call 41; (first | rw [Q1.out] | rw [Q2.out] | skip); (first | (with_reducible refine (HH.out _).mono ?_) | (with_reducible refine (HS.out _).mono ?_)); rintro e w' ⟨rfl, hB2⟩; have hBw4 := below_up hBw4 hB2)
    go_ret2
    exact ⟨_, ⟨y, m, d, HV.out, HN.out, by rw [HF.out]⟩, rfl, below_up HB3.out hBw4⟩
  · have HH := Lib.hid (fun W => toldPad_is (z / 60) (by omega) (by omega) W)
    have HS := Lib.hid (fun W => toldPad_is (z % 60) (by omega) (by omega) W)
    have hhs := Tx.P2_size (n := z / 60) (by omega) (by omega)
    have hss := Tx.P2_size (n := z % 60) (by omega) (by omega)
    have HF : Hid (Tx.ST y m d ((t + 60 * z) % 86400) z = X ++ ⟨#[43]⟩ ++ Tx.P2 (z / 60) ++ ⟨#[58]⟩ ++ Tx.P2 (z % 60)) := by
      show _ = _
      unfold Tx.ST Tx.sgn Tx.mag
      rw [if_neg hz, HLT2.out, show max z (-z) = z by omega]
    generalize Tx.P2 (z / 60) = A1 at *
    generalize Tx.P2 (z % 60) = B1 at *
    go_wp2_with (go_at_call 41; (first | (with_reducible refine (HH.out _).mono ?_) | (with_reducible refine (HS.out _).mono ?_)); rintro e w' ⟨rfl, hB2⟩; have hBw4 := below_up hBw4 hB2)
    go_ret2
    exact ⟨_, ⟨y, m, d, HV.out, HN.out, by rw [HF.out]⟩, rfl, below_up HB3.out hBw4⟩
end Go.Proofs.YthldlffkgafgaaaDoor
