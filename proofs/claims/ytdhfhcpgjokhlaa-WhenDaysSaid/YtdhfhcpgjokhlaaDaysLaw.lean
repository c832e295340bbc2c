/- The law WhenDays, walked: it returns true at every day and date. -/
import Derived.Test.YtdhfhcpgjokhlaaDaysDateR
import Derived.Laws.StructEq
namespace Go.Proofs.Ytdhfhcpgjokhlaa
open Go.RowKit Go.Sort
theorem dateFor_of (y m d : Int) (w : World) (h : Cal.vld y m d = true) :
    Calls Try.prog 13 #[.int .i64 (Cal.num y m d)] w fun e w' => e = .returned (.agg #[.int .i64 y, .int .i64 m, .int .i64 d]) ∧ Below w.heap.size w w' := by
  have hb := Cal.num_bd y m d h
  refine (dateFor_any _ w hb.1 hb.2.1).mono fun e w' ⟨y', m', d', hv, hn, he, hB⟩ => ?_
  obtain ⟨rfl, rfl, rfl⟩ := Cal.num_inj _ _ _ _ _ _ hv h hn
  exact ⟨he, hB⟩
theorem eqDate (a b c a' b' c' : Int) (w : World) : Sem.run Try.prog (binOp .eql 23 (.agg #[.int .i64 a, .int .i64 b, .int .i64 c]) (.agg #[.int .i64 a', .int .i64 b', .int .i64 c'])) w = .ok (.bool (a == a' && b == b' && c == c')) w := by
  have u3 := Try.underlying3
  have a3 := Try.isAgg3
  have z3 := Try.sizeOf3
  have hS : Try.prog.underlying 23 = some (.struct (Try.prog.fieldsOf 23)) := by kernel_rfl
  have hp : Try.prog.stoodInHeld 23 = false := by kernel_rfl
  rw [run_eql_struct, show (10000 : Nat) = 9999 + 1 from rfl, run_equalIn_agg w 9999 23 _ _ hS hp]
  simp only [Program.fieldsOf, Try.underlying23]
  go_simp
  by_cases h1 : a = a' <;> by_cases h2 : b = b' <;> by_cases h3 : c = c' <;> simp [h1, h2, h3]
theorem guardDate : Try.prog.eqGuardType Try.prog.depth 23 = false := by kernel_rfl
theorem Blk.three1 {w : World} {b : Nat} {x y z : Value} {t : TypeId} (h : Blk w b #[x, y, z] t) : (∀ o, (w.alloc o).cell? ⟨b, 0, none⟩ = some x) ∧ (∀ o, (w.alloc o).cell? ⟨b, 1, none⟩ = some y) ∧ (∀ o, (w.alloc o).cell? ⟨b, 2, none⟩ = some z) :=
  ⟨fun o => (h.alloc o).three.1, fun o => (h.alloc o).three.2.1, fun o => (h.alloc o).three.2.2⟩
theorem below_alloc {a b : World} (h : Below a.heap.size a b) (o : Obj) : Below a.heap.size a (b.alloc o) := h.alloc h.size o
set_option maxRecDepth 100000 in
set_option maxHeartbeats 2000000 in
theorem whenDays_walk (n y m d : Int) (w : World) :
    Calls Try.prog 3 #[.int .i64 n, .agg #[.int .i64 y, .int .i64 m, .int .i64 d]] w fun e w' => e = .returned (.bool true) ∧ Below w.heap.size w w' := by
  have b1 : -6 ≤ n.tmod 7 := by
    have := Int.lt_tmod_of_pos n (b := 7) (by omega); omega
  have b2 : n.tmod 7 ≤ 6 := by
    have := Int.tmod_lt_of_pos n (b := 7) (by omega); omega
  have hg := guardDate
  have he := eqDate
  obtain ⟨W1, hW1, hP, hz, hb1⟩ := box w #[.int .i64 y, .int .i64 m, .int .i64 d] 23
  have HW1 := Lib.hid hW1; clear hW1
  by_cases hn : n < 0 ∨ 73048 < n
  · by_cases hv : Cal.vld y m d = true
    · have hnb := Cal.num_bd y m d hv
      have HV := Lib.hid hv; clear hv
      go_enter Try.func3, Try.ntmps3
      go_wp2_with fail
      rw [HW1.out]
      go_wp2_with (go_at_call 9; refine (dateOf_no _ _ hn).mono ?_; rintro e w2 ⟨rfl, hB2⟩; have hP := hP.keep hB2; have hb1 := below_alloc (below_up hb1 hB2) (.cells #[.int .i64 0, .int .i64 0, .int .i64 0] 23); obtain ⟨q0, q1, q2⟩ := hP.three1; have hX := Blk.new w2 #[.int .i64 0, .int .i64 0, .int .i64 0] 23; have hP := hP.alloc (.cells #[.int .i64 0, .int .i64 0, .int .i64 0] 23); clear hB2)
      go_wp2_with (go_at_call 10; refine (dayOf_yes _ _ _ _ HV.out).mono ?_; rintro e w3 ⟨rfl, hB3⟩; have hP := hP.keep hB3; have hX := hX.keep hB3; have hb1 := below_up hb1 hB3; obtain ⟨q0, q1, q2⟩ := hP.three; obtain ⟨x0, x1, x2⟩ := hX.three; clear hB3)
      go_wp2_with (go_at_call 11; refine (dayFor_yes _ _ _ _ HV.out).mono ?_; rintro e w4 ⟨rfl, hB3⟩; have hP := hP.keep hB3; have hX := hX.keep hB3; have hb1 := below_up hb1 hB3; obtain ⟨q0, q1, q2⟩ := hP.three; obtain ⟨x0, x1, x2⟩ := hX.three; clear hB3)
      go_wp2_with (go_at_call 12; refine (weekday_any _ _).mono ?_; rintro e w5 ⟨rfl, rfl⟩)
      all_goals
        go_ret
        exact ⟨rfl, hb1⟩
    · have HV : Hid (Cal.vld y m d = false) := by simpa [Hid] using hv
      clear hv
      go_enter Try.func3, Try.ntmps3
      go_wp2_with fail
      rw [HW1.out]
      go_wp2_with (go_at_call 9; refine (dateOf_no _ _ hn).mono ?_; rintro e w2 ⟨rfl, hB2⟩; have hP := hP.keep hB2; have hb1 := below_alloc (below_up hb1 hB2) (.cells #[.int .i64 0, .int .i64 0, .int .i64 0] 23); obtain ⟨q0, q1, q2⟩ := hP.three1; have hX := Blk.new w2 #[.int .i64 0, .int .i64 0, .int .i64 0] 23; have hP := hP.alloc (.cells #[.int .i64 0, .int .i64 0, .int .i64 0] 23); clear hB2)
      go_wp2_with (go_at_call 10; refine (dayOf_no _ _ _ _ HV.out).mono ?_; rintro e w3 ⟨rfl, hB3⟩; have hP := hP.keep hB3; have hX := hX.keep hB3; have hb1 := below_up hb1 hB3; obtain ⟨q0, q1, q2⟩ := hP.three; obtain ⟨x0, x1, x2⟩ := hX.three; clear hB3)
      go_wp2_with (go_at_call 11; refine (dayFor_no _ _ _ _ HV.out).mono ?_; rintro e w4 ⟨rfl, hB3⟩; have hP := hP.keep hB3; have hX := hX.keep hB3; have hb1 := below_up hb1 hB3; obtain ⟨q0, q1, q2⟩ := hP.three; obtain ⟨x0, x1, x2⟩ := hX.three; clear hB3)
      go_wp2_with (go_at_call 12; refine (weekday_any _ _).mono ?_; rintro e w5 ⟨rfl, rfl⟩)
      all_goals
        go_ret
        exact ⟨rfl, hb1⟩
  · have hn1 : 0 ≤ n := by omega
    have hn2 : n ≤ 73048 := by omega
    clear hn
    by_cases hv : Cal.vld y m d = true
    · have hnb := Cal.num_bd y m d hv
      have HV := Lib.hid hv; clear hv
      go_enter Try.func3, Try.ntmps3
      go_wp2_with fail
      rw [HW1.out]
      go_wp2_with (go_at_call 9; refine (dateOf_yes _ _ hn1 hn2).mono ?_; rintro e w2 ⟨Y, M, D, hvv, hnn,rfl, hB2⟩; have hP := hP.keep hB2; have hb1 := below_alloc (below_up hb1 hB2) (.cells #[.int .i64 Y, .int .i64 M, .int .i64 D] 23); obtain ⟨q0, q1, q2⟩ := hP.three1; have hX := Blk.new w2 #[.int .i64 Y, .int .i64 M, .int .i64 D] 23; have hP := hP.alloc (.cells #[.int .i64 Y, .int .i64 M, .int .i64 D] 23); clear hB2; have HDF := Lib.hid (fun W => dateFor_of Y M D W hvv); rw [hnn] at HDF; clear hvv hnn)
      go_wp2_with (go_at_call 10; refine (dayOf_yes _ _ _ _ HV.out).mono ?_; rintro e w3 ⟨rfl, hB3⟩; have hP := hP.keep hB3; have hX := hX.keep hB3; have hb1 := below_up hb1 hB3; obtain ⟨q0, q1, q2⟩ := hP.three; obtain ⟨x0, x1, x2⟩ := hX.three; clear hB3)
      go_wp2_with (go_at_call 11; refine (dayFor_yes _ _ _ _ HV.out).mono ?_; rintro e w4 ⟨rfl, hB3⟩; have hP := hP.keep hB3; have hX := hX.keep hB3; have hb1 := below_up hb1 hB3; obtain ⟨q0, q1, q2⟩ := hP.three; obtain ⟨x0, x1, x2⟩ := hX.three; clear hB3)
      go_wp2_with (go_at_call 12; refine (weekday_any _ _).mono ?_; rintro e w5 ⟨rfl, rfl⟩)
      have k0 := cell_regrown x0
      have k1 := cell_regrown x1
      have k2 := cell_regrown x2
      refine wp_region_quiet_below (by kernel_rfl) (by kernel_rfl) ?_
      repeat (go_big_quiet_step ((go_at_call 13; exact Calls.regrown_of (HDF.out _))))
      refine wpQuiet_nil ?_
      intro _ hw'
      obtain ⟨⟨dq, osq⟩, hw''⟩ := hw'
      subst hw''
      have hBw5 := below_regrown w4 dq osq
      generalize grow (redrawn w4 dq) osq = w5 at *
      clear dq osq
      clear k0 k1 k2
      go_wp2_with fail
      go_ret
      exact ⟨rfl, below_up hb1 hBw5⟩
    · have HV : Hid (Cal.vld y m d = false) := by simpa [Hid] using hv
      clear hv
      go_enter Try.func3, Try.ntmps3
      go_wp2_with fail
      rw [HW1.out]
      go_wp2_with (go_at_call 9; refine (dateOf_yes _ _ hn1 hn2).mono ?_; rintro e w2 ⟨Y, M, D, hvv, hnn,rfl, hB2⟩; have hP := hP.keep hB2; have hb1 := below_alloc (below_up hb1 hB2) (.cells #[.int .i64 Y, .int .i64 M, .int .i64 D] 23); obtain ⟨q0, q1, q2⟩ := hP.three1; have hX := Blk.new w2 #[.int .i64 Y, .int .i64 M, .int .i64 D] 23; have hP := hP.alloc (.cells #[.int .i64 Y, .int .i64 M, .int .i64 D] 23); clear hB2; have HDF := Lib.hid (fun W => dateFor_of Y M D W hvv); rw [hnn] at HDF; clear hvv hnn)
      go_wp2_with (go_at_call 10; refine (dayOf_no _ _ _ _ HV.out).mono ?_; rintro e w3 ⟨rfl, hB3⟩; have hP := hP.keep hB3; have hX := hX.keep hB3; have hb1 := below_up hb1 hB3; obtain ⟨q0, q1, q2⟩ := hP.three; obtain ⟨x0, x1, x2⟩ := hX.three; clear hB3)
      go_wp2_with (go_at_call 11; refine (dayFor_no _ _ _ _ HV.out).mono ?_; rintro e w4 ⟨rfl, hB3⟩; have hP := hP.keep hB3; have hX := hX.keep hB3; have hb1 := below_up hb1 hB3; obtain ⟨q0, q1, q2⟩ := hP.three; obtain ⟨x0, x1, x2⟩ := hX.three; clear hB3)
      go_wp2_with (go_at_call 12; refine (weekday_any _ _).mono ?_; rintro e w5 ⟨rfl, rfl⟩)
      have k0 := cell_regrown x0
      have k1 := cell_regrown x1
      have k2 := cell_regrown x2
      refine wp_region_quiet_below (by kernel_rfl) (by kernel_rfl) ?_
      repeat (go_big_quiet_step ((go_at_call 13; exact Calls.regrown_of (HDF.out _))))
      refine wpQuiet_nil ?_
      intro _ hw'
      obtain ⟨⟨dq, osq⟩, hw''⟩ := hw'
      subst hw''
      have hBw5 := below_regrown w4 dq osq
      generalize grow (redrawn w4 dq) osq = w5 at *
      clear dq osq
      clear k0 k1 k2
      go_wp2_with fail
      go_ret
      exact ⟨rfl, below_up hb1 hBw5⟩
end Go.Proofs.Ytdhfhcpgjokhlaa
