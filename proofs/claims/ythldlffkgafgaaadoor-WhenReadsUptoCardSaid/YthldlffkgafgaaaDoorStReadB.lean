/- The reference's StampRead, where its parts are right; the whole contract. -/
import Derived.Test.YthldlffkgafgaaaDoorStRead
namespace Go.Proofs.YthldlffkgafgaaaDoor
open Go.RowKit Go.Sort Go.Shelf
set_option linter.unusedVariables false
theorem ba_ext {a b : ByteArray} (h : a.toList = b.toList) : a = b := by
  apply ByteArray.ext
  apply Array.ext'
  rw [← Lib.toList_data, ← Lib.toList_data, h]
set_option maxRecDepth 100000 in
set_option maxHeartbeats 8000000 in
theorem stampRead_good (s : List UInt8) (hs : Rs.shape s) (hp : Rs.parts s) (w : World) :
    Calls Tryd.prog 24 #[.string (Tx.mk s)] w fun e w' => e = .returned (Rs.outV (Rs.val s)) ∧ Below w.heap.size w w' := by
  have hsz := Tx.mk_size s
  have hl := hs.1
  rw [hl] at hsz
  obtain ⟨c19, c22, g19, g22⟩ := Rs.bytes_of hl
  obtain rfl : c22 = 58 := Option.some.inj (g22.symm.trans hs.2.1)
  have a19 := strAt s 19 c19 g19
  have a22 : (Tx.mk s)[22]'(by rw [hsz]; omega) = 58 := strAt s 22 58 g22
  have e0 := ext_mk s 0 19
  have e1 := ext_mk s 20 22
  have e2 := ext_mk s 23 25
  have HS : Hid (∀ W, Calls Tryd.prog 60 #[.string (Tx.mk (Ft.win s 0 19)), .int .u8 45, .int .u8 84] W fun e w' => e = .returned (.int .i64 (Rs.loc s)) ∧ Below W.heap.size W w') := fun W => secondsOf_any (Ft.win s 0 19) 45 84 W
  have F1 : Hid (∀ W, Calls Tryd.prog 61 #[.string (Tx.mk (Ft.win s 20 22)), .int .i64 2] W fun e w' => e = .returned (.int .i64 (Sc.fx s 20 22)) ∧ Below W.heap.size W w') := fun W => fixedWin_is s 20 22 2 rfl (by omega) (by omega) W
  have F2 : Hid (∀ W, Calls Tryd.prog 61 #[.string (Tx.mk (Ft.win s 23 25)), .int .i64 2] W fun e w' => e = .returned (.int .i64 (Sc.fx s 23 25)) ∧ Below W.heap.size W w') := fun W => fixedWin_is s 23 25 2 rfl (by omega) (by omega) W
  have hbl : -1 ≤ Rs.loc s ∧ Rs.loc s ≤ 6311433599 := Sc.secs_bd _ _ _
  have b1 := Sc.fx_bd s 20 22 (by omega)
  have b2 := Sc.fx_bd s 23 25 (by omega)
  obtain ⟨p0, p1, p2, p3⟩ := hp
  have hsg := hs.2.2
  by_cases hst : Tx.StOk (Rs.loc s - 60 * Rs.zone s) (Rs.zone s)
  · have hzm : Rs.zone s = 60 * Sc.fx s 20 22 + Sc.fx s 23 25 ∨ Rs.zone s = -(60 * Sc.fx s 20 22 + Sc.fx s 23 25) := by unfold Rs.zone; split <;> simp
    have hst' := hst
    unfold Tx.StOk at hst'
    have hz8 : 60 * Sc.fx s 20 22 + Sc.fx s 23 25 ≤ 840 := by omega
    have hback := fun t ht => Rs.back hs ⟨p0, p1, p2, p3⟩ hz8 (t := t) ht
    by_cases hneg : s[19]? = some 45 ∧ Rs.zone s = 0
    · have HST : Hid (∀ W, Calls Tryd.prog 11 #[.int .i64 (Rs.loc s - 60 * Rs.zone s), .int .i64 (Rs.zone s)] W fun e w' => ∃ t, ¬ t = Tx.mk s ∧ e = .returned (.tuple #[.string t, .int .i64 0]) ∧ Below W.heap.size W w') := fun W =>
        (stampOf_ok _ _ hst W).mono fun e w' ⟨t, ht, he, hB⟩ => ⟨t, fun e => ((hback t ht).1 e) hneg, he, hB⟩
      have HV : Hid (Rs.val s = none) := Rs.ne_of_fine (fun hf => hf.2.2 hneg)
      rw [HV.out]
      obtain ⟨hh, hz0⟩ := hneg
      obtain rfl := Option.some.inj (g19.symm.trans hh)
      have hz : Rs.zone s = -(60 * Sc.fx s 20 22 + Sc.fx s 23 25) := by unfold Rs.zone; rw [if_pos hh]
      rw [hz] at HST hz0
      have hh0 : Sc.fx s 20 22 = 0 := by omega
      have hm0 : Sc.fx s 23 25 = 0 := by omega
      clear hh hs HV hz hst hst' hzm hback hz0 hz8 hh0 hm0
      generalize Rs.loc s = l at *
      generalize Sc.fx s 20 22 = h at *
      generalize Sc.fx s 23 25 = m at *
      generalize Ft.win s 20 22 = v1 at *
      generalize Ft.win s 23 25 = v2 at *
      generalize Ft.win s 0 19 = v0 at *
      -- rintro e w3 ⟨t, hne, rfl, hB3⟩; have hne1 : (t.toList == s) = false := (by rw [beq_eq_false_iff_ne]; intro e; exact hne (ba_ext (e.trans (by rw [Lib.toList_data])))); clear hne: what StampOf's result is told
      go_enter Tryd.func24, Tryd.ntmps24
      go_wp2_with (go_at_call 60; (with_reducible refine (HS.out _).mono ?_); rintro e w1 ⟨rfl, hB1⟩)
      have G1 := Lib.hid (fun d os => Calls.regrown_of (w := w1) (d := d) (os := os) (F1.out _))
      have G2 := Lib.hid (fun d os => Calls.regrown_of (w := w1) (d := d) (os := os) (F2.out _))
      refine wp_region_quiet_below (by kernel_rfl) (by kernel_rfl) ?_
      repeat (go_big_quiet_step ((go_at_call 61; first | with_reducible exact G1.out _ _ | with_reducible exact G2.out _ _)))
      refine wpQuiet_nil ?_
      intro _ hw'
      obtain ⟨⟨dq, osq⟩, hw''⟩ := hw'
      subst hw''
      have hBw2 := below_regrown w1 dq osq
      generalize grow (redrawn w1 dq) osq = w2 at *
      clear dq osq
      go_wp2_with ((go_at_call 11; (with_reducible refine (HST.out _).mono ?_); rintro e w3 ⟨t, hne, rfl, hB3⟩; have hne1 : (t.toList == s) = false := (by rw [beq_eq_false_iff_ne]; intro e; exact hne (ba_ext (e.trans (by rw [Lib.toList_data])))); clear hne))
      go_ret3
      exact ⟨rfl, below_up (below_up hB1 hBw2) hB3⟩
    · have HST : Hid (∀ W, Calls Tryd.prog 11 #[.int .i64 (Rs.loc s - 60 * Rs.zone s), .int .i64 (Rs.zone s)] W fun e w' => e = .returned (.tuple #[.string (Tx.mk s), .int .i64 0]) ∧ Below W.heap.size W w') := fun W =>
        (stampOf_ok _ _ hst W).mono fun e w' ⟨t, ht, he, hB⟩ => ⟨by rw [he, (hback t ht).2 hneg], hB⟩
      have HV : Hid (Rs.val s = some (Rs.loc s - 60 * Rs.zone s, Rs.zone s)) := Rs.val_some hs ⟨p0, p1, p2, p3⟩ ⟨hz8, by omega, hneg⟩
      rw [HV.out]
      rcases hsg with hh | hh
      · obtain rfl := Option.some.inj (g19.symm.trans hh)
        have hz : Rs.zone s = 60 * Sc.fx s 20 22 + Sc.fx s 23 25 := by unfold Rs.zone; rw [if_neg (by rw [hh]; decide)]
        rw [hz] at HST ⊢
        clear hh hs HV hz hst hst' hzm hback hneg
        generalize Rs.loc s = l at *
        generalize Sc.fx s 20 22 = h at *
        generalize Sc.fx s 23 25 = m at *
        generalize Ft.win s 20 22 = v1 at *
        generalize Ft.win s 23 25 = v2 at *
        generalize Ft.win s 0 19 = v0 at *
        -- rintro e w3 ⟨rfl, hB3⟩: what StampOf's result is told
        go_enter Tryd.func24, Tryd.ntmps24
        go_wp2_with (go_at_call 60; (with_reducible refine (HS.out _).mono ?_); rintro e w1 ⟨rfl, hB1⟩)
        have G1 := Lib.hid (fun d os => Calls.regrown_of (w := w1) (d := d) (os := os) (F1.out _))
        have G2 := Lib.hid (fun d os => Calls.regrown_of (w := w1) (d := d) (os := os) (F2.out _))
        refine wp_region_quiet_below (by kernel_rfl) (by kernel_rfl) ?_
        repeat (go_big_quiet_step ((go_at_call 61; first | with_reducible exact G1.out _ _ | with_reducible exact G2.out _ _)))
        refine wpQuiet_nil ?_
        intro _ hw'
        obtain ⟨⟨dq, osq⟩, hw''⟩ := hw'
        subst hw''
        have hBw2 := below_regrown w1 dq osq
        generalize grow (redrawn w1 dq) osq = w2 at *
        clear dq osq
        go_wp2_with ((go_at_call 11; (with_reducible refine (HST.out _).mono ?_); rintro e w3 ⟨rfl, hB3⟩))
        go_ret3
        exact ⟨rfl, below_up (below_up hB1 hBw2) hB3⟩
      · obtain rfl := Option.some.inj (g19.symm.trans hh)
        have hz : Rs.zone s = -(60 * Sc.fx s 20 22 + Sc.fx s 23 25) := by unfold Rs.zone; rw [if_pos hh]
        rw [hz] at HST ⊢
        clear hh hs HV hz hst hst' hzm hback hneg
        generalize Rs.loc s = l at *
        generalize Sc.fx s 20 22 = h at *
        generalize Sc.fx s 23 25 = m at *
        generalize Ft.win s 20 22 = v1 at *
        generalize Ft.win s 23 25 = v2 at *
        generalize Ft.win s 0 19 = v0 at *
        -- rintro e w3 ⟨rfl, hB3⟩: what StampOf's result is told
        go_enter Tryd.func24, Tryd.ntmps24
        go_wp2_with (go_at_call 60; (with_reducible refine (HS.out _).mono ?_); rintro e w1 ⟨rfl, hB1⟩)
        have G1 := Lib.hid (fun d os => Calls.regrown_of (w := w1) (d := d) (os := os) (F1.out _))
        have G2 := Lib.hid (fun d os => Calls.regrown_of (w := w1) (d := d) (os := os) (F2.out _))
        refine wp_region_quiet_below (by kernel_rfl) (by kernel_rfl) ?_
        repeat (go_big_quiet_step ((go_at_call 61; first | with_reducible exact G1.out _ _ | with_reducible exact G2.out _ _)))
        refine wpQuiet_nil ?_
        intro _ hw'
        obtain ⟨⟨dq, osq⟩, hw''⟩ := hw'
        subst hw''
        have hBw2 := below_regrown w1 dq osq
        generalize grow (redrawn w1 dq) osq = w2 at *
        clear dq osq
        go_wp2_with ((go_at_call 11; (with_reducible refine (HST.out _).mono ?_); rintro e w3 ⟨rfl, hB3⟩))
        go_ret3
        exact ⟨rfl, below_up (below_up hB1 hBw2) hB3⟩
  · have HST : Hid (∀ W, Calls Tryd.prog 11 #[.int .i64 (Rs.loc s - 60 * Rs.zone s), .int .i64 (Rs.zone s)] W fun e w' => e = .returned (.tuple #[.string ⟨#[]⟩, .int .i64 2]) ∧ w' = W) := fun W => stampOf_err _ _ hst W
    have HV : Hid (Rs.val s = none) := by
      show _ = _
      apply Rs.ne_of_fine
      intro hf
      apply hst
      have hz : Rs.zone s = 60 * Sc.fx s 20 22 + Sc.fx s 23 25 ∨ Rs.zone s = -(60 * Sc.fx s 20 22 + Sc.fx s 23 25) := by unfold Rs.zone; split <;> simp
      have := hf.1
      have := hf.2.1
      unfold Tx.StOk
      omega
    rw [HV.out]
    clear hst
    rcases hsg with hh | hh
    · obtain rfl := Option.some.inj (g19.symm.trans hh)
      have hz : Rs.zone s = 60 * Sc.fx s 20 22 + Sc.fx s 23 25 := by unfold Rs.zone; rw [if_neg (by rw [hh]; decide)]
      rw [hz] at HST
      clear hh hs HV hz
      generalize Rs.loc s = l at *
      generalize Sc.fx s 20 22 = h at *
      generalize Sc.fx s 23 25 = m at *
      generalize Ft.win s 20 22 = v1 at *
      generalize Ft.win s 23 25 = v2 at *
      generalize Ft.win s 0 19 = v0 at *
      -- rintro e w3 ⟨rfl, rfl⟩: what StampOf's result is told
      go_enter Tryd.func24, Tryd.ntmps24
      go_wp2_with (go_at_call 60; (with_reducible refine (HS.out _).mono ?_); rintro e w1 ⟨rfl, hB1⟩)
      have G1 := Lib.hid (fun d os => Calls.regrown_of (w := w1) (d := d) (os := os) (F1.out _))
      have G2 := Lib.hid (fun d os => Calls.regrown_of (w := w1) (d := d) (os := os) (F2.out _))
      refine wp_region_quiet_below (by kernel_rfl) (by kernel_rfl) ?_
      repeat (go_big_quiet_step ((go_at_call 61; first | with_reducible exact G1.out _ _ | with_reducible exact G2.out _ _)))
      refine wpQuiet_nil ?_
      intro _ hw'
      obtain ⟨⟨dq, osq⟩, hw''⟩ := hw'
      subst hw''
      have hBw2 := below_regrown w1 dq osq
      generalize grow (redrawn w1 dq) osq = w2 at *
      clear dq osq
      go_wp2_with ((go_at_call 11; (with_reducible refine (HST.out _).mono ?_); rintro e w3 ⟨rfl, rfl⟩))
      go_ret3
      exact ⟨rfl, below_up hB1 hBw2⟩
    · obtain rfl := Option.some.inj (g19.symm.trans hh)
      have hz : Rs.zone s = -(60 * Sc.fx s 20 22 + Sc.fx s 23 25) := by unfold Rs.zone; rw [if_pos hh]
      rw [hz] at HST
      clear hh hs HV hz
      generalize Rs.loc s = l at *
      generalize Sc.fx s 20 22 = h at *
      generalize Sc.fx s 23 25 = m at *
      generalize Ft.win s 20 22 = v1 at *
      generalize Ft.win s 23 25 = v2 at *
      generalize Ft.win s 0 19 = v0 at *
      -- rintro e w3 ⟨rfl, rfl⟩: what StampOf's result is told
      go_enter Tryd.func24, Tryd.ntmps24
      go_wp2_with (go_at_call 60; (with_reducible refine (HS.out _).mono ?_); rintro e w1 ⟨rfl, hB1⟩)
      have G1 := Lib.hid (fun d os => Calls.regrown_of (w := w1) (d := d) (os := os) (F1.out _))
      have G2 := Lib.hid (fun d os => Calls.regrown_of (w := w1) (d := d) (os := os) (F2.out _))
      refine wp_region_quiet_below (by kernel_rfl) (by kernel_rfl) ?_
      repeat (go_big_quiet_step ((go_at_call 61; first | with_reducible exact G1.out _ _ | with_reducible exact G2.out _ _)))
      refine wpQuiet_nil ?_
      intro _ hw'
      obtain ⟨⟨dq, osq⟩, hw''⟩ := hw'
      subst hw''
      have hBw2 := below_regrown w1 dq osq
      generalize grow (redrawn w1 dq) osq = w2 at *
      clear dq osq
      go_wp2_with ((go_at_call 11; (with_reducible refine (HST.out _).mono ?_); rintro e w3 ⟨rfl, rfl⟩))
      go_ret3
      exact ⟨rfl, below_up hB1 hBw2⟩
theorem stampRead_is (s : List UInt8) (w : World) :
    Calls Tryd.prog 24 #[.string (Tx.mk s)] w fun e w' => e = .returned (Rs.outV (Rs.val s)) ∧ Below w.heap.size w w' := by
  by_cases h : Rs.shape s
  · by_cases hp : Rs.parts s
    · exact stampRead_good s h hp w
    · rw [Rs.ne_of_parts hp]; exact stampRead_parts s h hp w
  · rw [Rs.ne_of_shape h]; exact stampRead_shape s h w
end Go.Proofs.YthldlffkgafgaaaDoor
