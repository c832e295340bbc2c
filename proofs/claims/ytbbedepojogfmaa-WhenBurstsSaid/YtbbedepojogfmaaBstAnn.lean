/- The contract of isAnniversary. -/
import Derived.Laws.Small
import Derived.Test.YtbbedepojogfmaaBstMath
import Derived.Test.YtbbedepojogfmaaDaysDate
import Derived.Test.YtbbedepojogfmaaDaysProg
import Derived.Test.YtbbedepojogfmaaEvents0
namespace Go.Proofs.Ytbbedepojogfmaa
open Go.RowKit Go.Sort
set_option linter.unusedVariables false
theorem dayOfIn_q {y m d : Int} (h : Cal.vld y m d = true) (Y : Int) (h1 : 1900 ≤ Y) (h2 : Y ≤ 2099) (w : World) (k : Nat) (os : Array Obj) (x : Int) (hx : (if Cal.len Y m < d then Cal.len Y m else d) = x) :
    Calls Try.prog 123 #[.agg #[.int .i64 Y, .int .i64 m, .int .i64 x]] (grow (redrawn w k) os) fun e w'' => e = .returned (.tuple #[.int .i64 (An.dayIn m d Y), .int .i64 0]) ∧ ∃ p : Regrown, w'' = grow (redrawn w p.d) p.os := by
  subst hx
  exact Calls.regrown_of (dayOf_yes Y m _ _ (An.vld_in h Y h1 h2))
theorem dayOfOut_q (Y m x : Int) (h2 : 2099 < Y) (w : World) (k : Nat) (os : Array Obj) :
    Calls Try.prog 123 #[.agg #[.int .i64 Y, .int .i64 m, .int .i64 x]] (grow (redrawn w k) os) fun e w'' => e = .returned (.tuple #[.int .i64 0, .int .i64 1]) ∧ ∃ p : Regrown, w'' = grow (redrawn w p.d) p.os :=
  Calls.regrown_of (dayOf_no Y m x _ (by unfold Cal.vld; simp; omega))
set_option maxRecDepth 100000 in
set_option maxHeartbeats 4000000 in
theorem isAnn_is (y m d day s : Int) (w : World) (hv : Cal.vld y m d = true) (h1 : 0 ≤ day) (h2 : day ≤ 73048) (hs : 0 ≤ s) (hs2 : s ≤ 30) :
    Calls Try.prog 88 #[.agg #[.int .i64 y, .int .i64 m, .int .i64 d], .int .i64 day, .int .i64 s] w fun e w' => e = .returned (.bool (An.yes (Cal.num y m d) day s)) ∧ Below w.heap.size w w' := by
  obtain ⟨g1, g2, g3, g4, g5, g6⟩ := (Cal.vld_iff y m d).1 hv
  have gl := Cal.len_bd y m
  have HV := Lib.hid hv; clear hv
  obtain ⟨W1, hW1, b0, hz, hb1⟩ := box w #[.int .i64 y, .int .i64 m, .int .i64 d] 125
  have HW1 := Lib.hid hW1; clear hW1
  have HDO := Lib.hid (dateOf_yes day W1 h1 h2)
  obtain ⟨q, hq⟩ : ∃ q, An.yes (Cal.num y m d) day s = q := ⟨_, rfl⟩
  rw [hq]
  have HQ := Lib.hid hq; clear hq
  go_enter Try.func88, Try.ntmps88
  go_wp2_with fail
  rw [HW1.out]
  go_wp2_with (go_at_call 87; refine HDO.out.mono ?_; rintro e w2 ⟨ny, nm, nd, hnv, hnn, rfl, hB2⟩; obtain ⟨n1, n2, n3, n4, n5, n6⟩ := (Cal.vld_iff ny nm nd).1 hnv; have HNV := Lib.hid hnv; have HNN := Lib.hid hnn; clear hnv hnn n6; have b1 := (b0.keep hB2).alloc (.cells #[.int .i64 ny, .int .i64 nm, .int .i64 nd] 125); have bn := Blk.new w2 #[.int .i64 ny, .int .i64 nm, .int .i64 nd] 125; obtain ⟨p0, p1, p2⟩ := b1.three; obtain ⟨r0, r1, r2⟩ := bn.three; have hBa := below_allocs (below_up hb1 hB2) (.cells #[.int .i64 ny, .int .i64 nm, .int .i64 nd] 125); obtain ⟨lo, hlo⟩ : ∃ lo, (if ny - 1 < y + 1 then y + 1 else ny - 1) = lo := ⟨_, rfl⟩)
  have hl1 : y + 1 ≤ lo ∧ ny - 1 ≤ lo ∧ (lo = y + 1 ∨ lo = ny - 1) := by rw [← hlo]; split <;> omega
  obtain ⟨hl1, hl2, hl3⟩ := hl1
  clear hlo
  go_loopw [9] (fun yr wr => ∃ Y : Int, yr = .int .i64 Y ∧ lo ≤ Y ∧ Y ≤ 2200 ∧ (∀ Z, lo ≤ Z → Z < Y → Z ≤ 2099 → ¬ An.near m d Z day s) ∧ Blk wr w.heap.size #[.int .i64 y, .int .i64 m, .int .i64 d] 125 ∧ Blk wr w2.heap.size #[.int .i64 ny, .int .i64 nm, .int .i64 nd] 125 ∧ Below w.heap.size w wr) (fun yr _ => (ny + 2 - intOf yr).toNat)
  case atStart => exact ⟨lo, rfl, by omega, by omega, fun Z h3 h4 => by omega, b1, bn, hBa⟩
  case round =>
    clear hBa b1 bn p0 p1 p2 r0 r1 r2
    obtain ⟨Y, rfl, hY, hYt, hno, b1, bn, hBa⟩ := hrel
    have HNO := Lib.hid hno; clear hno
    obtain ⟨p0, p1, p2⟩ := b1.three
    obtain ⟨r0, r1, r2⟩ := bn.three
    by_cases c : Y ≤ ny + 1
    · obtain ⟨mm, hmm⟩ : ∃ mm, (if Cal.len Y m < d then Cal.len Y m else d) = mm := ⟨_, rfl⟩
      have hgl := Cal.len_bd Y m
      obtain ⟨LL, hLL⟩ : ∃ LL, Cal.len Y m = LL := ⟨_, rfl⟩
      have k0 := cell_regrown p0
      have k1 := cell_regrown p1
      have k2 := cell_regrown p2
      have HLEN : Hid (∀ k os, Calls Try.prog 122 #[.int .i64 Y, .int .i64 m] (grow (redrawn wr k) os) fun e w'' => e = .returned (.int .i64 LL) ∧ ∃ p : Regrown, w'' = grow (redrawn wr p.d) p.os) := Lib.hid (fun k os => by rw [← hLL]; exact lengthOf_q Y m wr k os (by omega) (by omega) (by omega))
      by_cases c2 : Y ≤ 2099
      · have HDAY := Lib.hid (fun k os => dayOfIn_q HV.out Y (by omega) c2 wr k os mm hmm)
        obtain ⟨nb1, nb2, _, _⟩ := Cal.num_bd _ _ _ (An.vld_in HV.out Y (by omega) c2)
        rw [hmm] at nb1 nb2
        have hnn : An.dayIn m d Y = Cal.num Y m mm := by unfold An.dayIn; rw [hmm]
        rw [hnn] at HDAY
        obtain ⟨nn, hnx⟩ : ∃ nn, Cal.num Y m mm = nn := ⟨_, rfl⟩
        rw [hnx] at HDAY nb1 nb2 hnn
        rw [hLL] at hmm hgl
        have HNR : Hid (An.near m d Y day s ↔ (-s ≤ nn - day ∧ nn - day ≤ s)) := Lib.hid (by unfold An.near; rw [hnn])
        clear hnn hnx hLL
        by_cases hit : -s ≤ nn - day ∧ nn - day ≤ s
        · have HT := Lib.hid (An.yes_t (day := day) (s := s) HV.out rfl ⟨Y, by omega, c2, HNR.out.2 hit⟩)
          obtain ⟨t1, t2⟩ := hit
          go_wp2_with fail
          refine wp_region_quiet_below (by kernel_rfl) (by kernel_rfl) ?_
          repeat (go_big_quiet_step ((first | (go_at_call 122; exact HLEN.out _ _) | (go_at_call 123; exact HDAY.out _ _))))
          refine wpQuiet_nil ?_
          intro _ hw'
          obtain ⟨⟨dq, osq⟩, hw''⟩ := hw'
          subst hw''
          have hBw3 := below_regrown wr dq osq
          generalize grow (redrawn wr dq) osq = w3 at *
          clear dq osq
          have hB3 := hBa.trans (hBw3.mono hBa.size)
          clear k0 k1 k2 p0 p1 p2 r0 r1 r2
          go_wp2_with (go_at_call 56; refine (outside_no _ _ _ _ t1 t2).mono ?_; rintro e w4 ⟨rfl, rfl⟩)
          go_ret
          exact ⟨ret_bool (by rw [← HQ.out, HT.out]), hB3⟩
        · have HNN2 := Lib.hid (fun h => hit (HNR.out.1 h))
          have t1 : nn - day < -s ∨ s < nn - day := by omega
          have T1 := Lib.hid t1
          clear hit t1
          go_wp2_with fail
          refine wp_region_quiet_below (by kernel_rfl) (by kernel_rfl) ?_
          repeat (go_big_quiet_step ((first | (go_at_call 122; exact HLEN.out _ _) | (go_at_call 123; exact HDAY.out _ _))))
          refine wpQuiet_nil ?_
          intro _ hw'
          obtain ⟨⟨dq, osq⟩, hw''⟩ := hw'
          subst hw''
          have hBw3 := below_regrown wr dq osq
          generalize grow (redrawn wr dq) osq = w3 at *
          clear dq osq
          have hB3 := hBa.trans (hBw3.mono hBa.size)
          have b1 := b1.keep hBw3
          have bn := bn.keep hBw3
          clear k0 k1 k2 p0 p1 p2 r0 r1 r2
          go_wp2_with (go_at_call 56; refine (outside_yes _ _ _ _ T1.out).mono ?_; rintro e w4 ⟨rfl, rfl⟩)
          go_roundw
          case rel => exact ⟨Y + 1, by go_num, by omega, by omega, fun Z h3 h4 h5 => by (by_cases e : Z = Y); exact e ▸ HNN2.out; exact HNO.out Z h3 (by omega) h5, b1, bn, hB3⟩
          case measure => simp [intOf]; omega
      · have HDAY := Lib.hid (fun k os => dayOfOut_q Y m mm (by omega) wr k os)
        rw [hLL] at hmm hgl
        clear hLL
        go_wp2_with fail
        refine wp_region_quiet_below (by kernel_rfl) (by kernel_rfl) ?_
        repeat (go_big_quiet_step ((first | (go_at_call 122; exact HLEN.out _ _) | (go_at_call 123; exact HDAY.out _ _))))
        refine wpQuiet_nil ?_
        intro _ hw'
        obtain ⟨⟨dq, osq⟩, hw''⟩ := hw'
        subst hw''
        have hBw3 := below_regrown wr dq osq
        generalize grow (redrawn wr dq) osq = w3 at *
        clear dq osq
        have hB3 := hBa.trans (hBw3.mono hBa.size)
        have b1 := b1.keep hBw3
        have bn := bn.keep hBw3
        clear k0 k1 k2 p0 p1 p2 r0 r1 r2
        go_wp2_with fail
        go_roundw
        case rel => exact ⟨Y + 1, by go_num, by omega, by omega, fun Z h3 h4 h5 => by (by_cases e : Z = Y); omega; exact HNO.out Z h3 (by omega) h5, b1, bn, hB3⟩
        case measure => simp [intOf]; omega
    · have hnot : ¬ An.again y m d day s := by
        rintro ⟨Z, hZ1, hZ2, hZ3⟩
        obtain ⟨e1, e2⟩ := An.near_year HV.out (by omega) hZ2 HNV.out HNN.out hs2 hZ3
        exact HNO.out Z (by omega) (by omega) hZ2 hZ3
      have HF := Lib.hid (An.yes_f HV.out rfl hnot)
      clear hnot
      go_wp2_with fail
      go_ret
      exact ⟨ret_bool (by rw [← HQ.out, HF.out]), hBa⟩
end Go.Proofs.Ytbbedepojogfmaa
