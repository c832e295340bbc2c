/- The contract of the reference's returns. -/
import Derived.Laws.Small
import Derived.Test.YtbbedepojogfmaaBstMath
import Derived.Test.YtbbedepojogfmaaDaysDateR
import Derived.Test.YtbbedepojogfmaaDaysProg
import Derived.Test.YtbbedepojogfmaaIdxFunc
namespace Go.Proofs.Ytbbedepojogfmaa
open Go.RowKit Go.Sort
set_option linter.unusedVariables false
theorem dayForIn_q {y m d : Int} (h : Cal.vld y m d = true) (Y : Int) (h1 : 1900 ≤ Y) (h2 : Y ≤ 2099) (w : World) (k : Nat) (os : Array Obj) (x : Int) (hx : (if Cal.len Y m < d then Cal.len Y m else d) = x) :
    Calls Try.prog 125 #[.agg #[.int .i64 Y, .int .i64 m, .int .i64 x]] (grow (redrawn w k) os) fun e w'' => e = .returned (.int .i64 (An.dayIn m d Y)) ∧ ∃ p : Regrown, w'' = grow (redrawn w p.d) p.os := by
  subst hx
  exact Calls.regrown_of (dayFor_yes Y m _ _ (An.vld_in h Y h1 h2))
set_option maxRecDepth 100000 in
set_option maxHeartbeats 4000000 in
theorem returns_is (x day s : Int) (w : World) (hx1 : 0 ≤ x) (hx2 : x ≤ 73048) (h1 : 0 ≤ day) (h2 : day ≤ 73048) (hs : 0 ≤ s) (hs2 : s ≤ 30) :
    Calls Try.prog 90 #[.int .i64 x, .int .i64 day, .int .i64 s] w fun e w' => e = .returned (.bool (An.yes x day s)) ∧ Below w.heap.size w w' := by
  have HDF := Lib.hid (dateFor_any x w hx1 hx2)
  obtain ⟨q, hq⟩ : ∃ q, An.yes x day s = q := ⟨_, rfl⟩
  rw [hq]
  have HQ := Lib.hid hq; clear hq
  go_enter Try.func90, Try.ntmps90
  go_wp2_with (go_at_call 124; refine HDF.out.mono ?_; rintro e w2 ⟨y, m, d, hv, hn, rfl, hB2⟩; obtain ⟨n1, n2, n3, n4, n5, n6⟩ := (Cal.vld_iff y m d).1 hv; have HV := Lib.hid hv; have HN := Lib.hid hn; clear hv hn; have gl := Cal.len_bd y m; have bn := Blk.new w2 #[.int .i64 y, .int .i64 m, .int .i64 d] 125; obtain ⟨r0, r1, r2⟩ := bn.three; have hBa := hB2.alloc hB2.size (.cells #[.int .i64 y, .int .i64 m, .int .i64 d] 125))
  go_loopw [8] (fun yr wr => ∃ Y : Int, yr = .int .i64 Y ∧ y + 1 ≤ Y ∧ Y ≤ 2200 ∧ (∀ Z, y + 1 ≤ Z → Z < Y → Z ≤ 2099 → ¬ An.near m d Z day s) ∧ Blk wr w2.heap.size #[.int .i64 y, .int .i64 m, .int .i64 d] 125 ∧ Below w.heap.size w wr) (fun yr _ => (2200 - intOf yr).toNat)
  case atStart => exact ⟨y + 1, rfl, by omega, by omega, fun Z h3 h4 => by omega, bn, hBa⟩
  case round =>
    clear hBa bn r0 r1 r2
    obtain ⟨Y, rfl, hY, hYt, hno, bn, hBa⟩ := hrel
    have HNO := Lib.hid hno; clear hno
    obtain ⟨r0, r1, r2⟩ := bn.three
    by_cases c2 : Y ≤ 2099
    · obtain ⟨mm, hmm⟩ : ∃ mm, (if Cal.len Y m < d then Cal.len Y m else d) = mm := ⟨_, rfl⟩
      have hgl := Cal.len_bd Y m
      obtain ⟨LL, hLL⟩ : ∃ LL, Cal.len Y m = LL := ⟨_, rfl⟩
      have k0 := cell_regrown r0
      have k1 := cell_regrown r1
      have k2 := cell_regrown r2
      have HLEN : Hid (∀ k os, Calls Try.prog 126 #[.int .i64 Y, .int .i64 m] (grow (redrawn wr k) os) fun e w'' => e = .returned (.int .i64 LL) ∧ ∃ p : Regrown, w'' = grow (redrawn wr p.d) p.os) := Lib.hid (fun k os => by rw [← hLL]; exact regrown_same (long_any Y m _ (by omega)))
      have HDAY := Lib.hid (fun k os => dayForIn_q HV.out Y (by omega) c2 wr k os mm hmm)
      obtain ⟨nb1, nb2, _, _⟩ := Cal.num_bd _ _ _ (An.vld_in HV.out Y (by omega) c2)
      rw [hmm] at nb1 nb2
      have hnn : An.dayIn m d Y = Cal.num Y m mm := by unfold An.dayIn; rw [hmm]
      rw [hnn] at HDAY
      obtain ⟨nn, hnx⟩ : ∃ nn, Cal.num Y m mm = nn := ⟨_, rfl⟩
      rw [hnx] at HDAY nb1 nb2 hnn
      rw [hLL] at hmm hgl
      have HNR : Hid (An.near m d Y day s ↔ (-s ≤ nn - day ∧ nn - day ≤ s)) := Lib.hid (by unfold An.near; rw [hnn])
      have hab : Ev.abs (nn - day) = max (nn - day) (-(nn - day)) := rfl
      obtain ⟨ab, hab2⟩ : ∃ ab, Ev.abs (nn - day) = ab := ⟨_, rfl⟩
      rw [hab2] at hab
      have HSZ : Hid (∀ W, Calls Try.prog 127 #[.int .i64 (nn - day)] W fun e w' => e = .returned (.int .i64 ab) ∧ W = w') := Lib.hid (fun W => by rw [← hab2]; exact size_any _ W (by omega) (by omega))
      have habs : ab ≤ s ↔ (-s ≤ nn - day ∧ nn - day ≤ s) := by omega
      clear hnn hnx hLL hab2 hab
      by_cases hit : ab ≤ s
      · have HT := Lib.hid (An.yes_t (day := day) (s := s) HV.out HN.out ⟨Y, by omega, c2, HNR.out.2 (habs.1 hit)⟩)
        clear habs
        go_wp2_with fail
        refine wp_region_quiet_below (by kernel_rfl) (by kernel_rfl) ?_
        repeat (go_big_quiet_step ((first | (go_at_call 126; exact HLEN.out _ _) | (go_at_call 125; exact HDAY.out _ _))))
        refine wpQuiet_nil ?_
        intro _ hw'
        obtain ⟨⟨dq, osq⟩, hw''⟩ := hw'
        subst hw''
        have hBw3 := below_regrown wr dq osq
        generalize grow (redrawn wr dq) osq = w3 at *
        clear dq osq
        have hB3 := hBa.trans (hBw3.mono hBa.size)
        clear k0 k1 k2 r0 r1 r2
        go_wp2_with (go_at_call 127; refine (HSZ.out _).mono ?_; rintro e w4 ⟨rfl, rfl⟩)
        go_ret
        exact ⟨ret_bool (by rw [← HQ.out, HT.out]), hB3⟩
      · have HNN2 := Lib.hid (fun h => hit (habs.2 (HNR.out.1 h)))
        clear habs
        go_wp2_with fail
        refine wp_region_quiet_below (by kernel_rfl) (by kernel_rfl) ?_
        repeat (go_big_quiet_step ((first | (go_at_call 126; exact HLEN.out _ _) | (go_at_call 125; exact HDAY.out _ _))))
        refine wpQuiet_nil ?_
        intro _ hw'
        obtain ⟨⟨dq, osq⟩, hw''⟩ := hw'
        subst hw''
        have hBw3 := below_regrown wr dq osq
        generalize grow (redrawn wr dq) osq = w3 at *
        clear dq osq
        have hB3 := hBa.trans (hBw3.mono hBa.size)
        have bn := bn.keep hBw3
        clear k0 k1 k2 r0 r1 r2
        go_wp2_with (go_at_call 127; refine (HSZ.out _).mono ?_; rintro e w4 ⟨rfl, rfl⟩)
        go_roundw
        case rel => exact ⟨Y + 1, by go_num, by omega, by omega, fun Z h3 h4 h5 => by (by_cases e : Z = Y); exact e ▸ HNN2.out; exact HNO.out Z h3 (by omega) h5, bn, hB3⟩
        case measure => simp [intOf]; omega
    · have hnot : ¬ An.again y m d day s := by
        rintro ⟨Z, hZ1, hZ2, hZ3⟩
        exact HNO.out Z (by omega) (by omega) hZ2 hZ3
      have HF := Lib.hid (An.yes_f HV.out HN.out hnot)
      clear hnot
      go_wp2_with fail
      go_ret
      exact ⟨ret_bool (by rw [← HQ.out, HF.out]), hBa⟩
end Go.Proofs.Ytbbedepojogfmaa
