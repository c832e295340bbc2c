/- The reference's StampRead, and that both read alike. -/
import Derived.Test.YthldlffkgafgaaaDoorRsMath
namespace Go.Proofs.YthldlffkgafgaaaDoor
open Go.RowKit Go.Sort Go.Shelf
set_option linter.unusedVariables false
namespace Rs
theorem ne_of_shape {s : List UInt8} (h : ¬ shape s) : val s = none := by unfold val; rw [if_neg (fun hh => h hh.1)]
theorem ne_of_parts {s : List UInt8} (h : ¬ parts s) : val s = none := by unfold val; rw [if_neg (fun hh => h hh.2.1)]
theorem ne_of_fine {s : List UInt8} (h : ¬ fine s) : val s = none := by unfold val; rw [if_neg (fun hh => h hh.2.2)]
theorem val_some {s : List UInt8} (h1 : shape s) (h2 : parts s) (h3 : fine s) : val s = some (loc s - 60 * zone s, zone s) := by unfold val; rw [if_pos ⟨h1, h2, h3⟩]
/-- A text of 25 bytes, its bytes at three places. -/
theorem bytes_of {s : List UInt8} (h : s.length = 25) : ∃ c19 c22 : UInt8, s[19]? = some c19 ∧ s[22]? = some c22 :=
  ⟨_, _, List.getElem?_eq_getElem (by omega), List.getElem?_eq_getElem (by omega)⟩
theorem u8_ne {c d : UInt8} (h : ¬ c = d) : ¬ (c.toNat : Int) = (d.toNat : Int) := fun e => h (UInt8.toNat_inj.1 (by omega))
end Rs
set_option maxRecDepth 100000 in
set_option maxHeartbeats 4000000 in
theorem stampRead_shape (s : List UInt8) (h : ¬ Rs.shape s) (w : World) :
    Calls Tryd.prog 24 #[.string (Tx.mk s)] w fun e w' => e = .returned (.tuple #[.int .i64 0, .int .i64 0, .int .i64 8]) ∧ Below w.heap.size w w' := by
  have hsz := Tx.mk_size s
  by_cases hl : s.length = 25
  · rw [hl] at hsz
    obtain ⟨c19, c22, g19, g22⟩ := Rs.bytes_of hl
    have a19 := strAt s 19 c19 g19
    have a22 := strAt s 22 c22 g22
    by_cases e22 : c22 = 58
    · subst e22
      by_cases e43 : c19 = 43
      · exact absurd ⟨hl, g22, .inl (by rw [g19, e43])⟩ h
      · by_cases e45 : c19 = 45
        · exact absurd ⟨hl, g22, .inr (by rw [g19, e45])⟩ h
        · have n1 : ¬ (c19.toNat : Int) = 43 := Rs.u8_ne e43
          have n2 : ¬ (c19.toNat : Int) = 45 := Rs.u8_ne e45
          have n3 : ((c19.toNat : Int) != 43) = true := by simpa using n1
          have n4 : ((c19.toNat : Int) != 45) = true := by simpa using n2
          clear h
          go_enter Tryd.func24, Tryd.ntmps24
          go_wp2_with fail
          go_ret3
          exact ⟨rfl, Below.refl _ _⟩
    · have n22 : ¬ (c22.toNat : Int) = 58 := Rs.u8_ne e22
      clear h
      go_enter Tryd.func24, Tryd.ntmps24
      go_wp2_with fail
      go_ret3
      exact ⟨rfl, Below.refl _ _⟩
  · have h1 : ¬ (s.length : Int) = 25 := by omega
    have h2 : ((s.length : Int) == 25) = false := by simp; omega
    have h3 : ((s.length : Int) != 25) = true := by simp; omega
    clear h
    go_enter Tryd.func24, Tryd.ntmps24
    go_wp2_with fail
    go_ret3
    exact ⟨rfl, Below.refl _ _⟩
set_option maxRecDepth 100000 in
set_option maxHeartbeats 8000000 in
theorem stampRead_parts (s : List UInt8) (hs : Rs.shape s) (hp : ¬ Rs.parts s) (w : World) :
    Calls Tryd.prog 24 #[.string (Tx.mk s)] w fun e w' => e = .returned (.tuple #[.int .i64 0, .int .i64 0, .int .i64 8]) ∧ Below w.heap.size w w' := by
  have hsz := Tx.mk_size s
  have hl := hs.1
  rw [hl] at hsz
  obtain ⟨c19, c22, g19, g22⟩ := Rs.bytes_of hl
  obtain rfl : c22 = 58 := Option.some.inj (g22.symm.trans hs.2.1)
  have a19 := strAt s 19 c19 g19
  have a22 : (Tx.mk s)[22]'(by rw [hsz]; omega) = 58 := strAt s 22 58 g22
  have e0 := ext_mk s 0 19
  have e1 := ext_mk s 20 22
  have e2 := ext_mk s 23 25
  have HS : Hid (∀ W, Calls Tryd.prog 60 #[.string (Tx.mk (Ft.win s 0 19)), .int .u8 45, .int .u8 84] W fun e w' => e = .returned (.int .i64 (Rs.loc s)) ∧ Below W.heap.size W w') := fun W => secondsOf_any (Ft.win s 0 19) 45 84 W
  have F1 : Hid (∀ W, Calls Tryd.prog 61 #[.string (Tx.mk (Ft.win s 20 22)), .int .i64 2] W fun e w' => e = .returned (.int .i64 (Sc.fx s 20 22)) ∧ Below W.heap.size W w') := fun W => fixedWin_is s 20 22 2 rfl (by omega) (by omega) W
  have F2 : Hid (∀ W, Calls Tryd.prog 61 #[.string (Tx.mk (Ft.win s 23 25)), .int .i64 2] W fun e w' => e = .returned (.int .i64 (Sc.fx s 23 25)) ∧ Below W.heap.size W w') := fun W => fixedWin_is s 23 25 2 rfl (by omega) (by omega) W
  have hbl : -1 ≤ Rs.loc s ∧ Rs.loc s ≤ 6311433599 := Sc.secs_bd _ _ _
  have b1 := Sc.fx_bd s 20 22 (by omega)
  have b2 := Sc.fx_bd s 23 25 (by omega)
  have hpp : ¬ (0 ≤ Rs.loc s ∧ 0 ≤ Sc.fx s 20 22 ∧ 0 ≤ Sc.fx s 23 25 ∧ Sc.fx s 23 25 ≤ 59) := hp
  have hsg := hs.2.2
  clear hp hs
  generalize Rs.loc s = l at *
  generalize Sc.fx s 20 22 = h at *
  generalize Sc.fx s 23 25 = m at *
  generalize Ft.win s 20 22 = v1 at *
  generalize Ft.win s 23 25 = v2 at *
  generalize Ft.win s 0 19 = v0 at *
  rcases hsg with hh | hh
  all_goals
    obtain rfl := Option.some.inj (g19.symm.trans hh)
    clear hh
    by_cases p0 : l < 0
    · clear hpp
      go_enter Tryd.func24, Tryd.ntmps24
      go_wp2_with (go_at_call 60; (with_reducible refine (HS.out _).mono ?_); rintro e w1 ⟨rfl, hB1⟩)
      have G1 := Lib.hid (fun d os => Calls.regrown_of (w := w1) (d := d) (os := os) (F1.out _))
      have G2 := Lib.hid (fun d os => Calls.regrown_of (w := w1) (d := d) (os := os) (F2.out _))
      refine wp_region_quiet_below (by kernel_rfl) (by kernel_rfl) ?_
      repeat (go_big_quiet_step ((go_at_call 61; first | with_reducible exact G1.out _ _ | with_reducible exact G2.out _ _)))
      refine wpQuiet_nil ?_
      intro _ hw'
      obtain ⟨⟨dq, osq⟩, hw''⟩ := hw'
      subst hw''
      have hBw2 := below_regrown w1 dq osq
      generalize grow (redrawn w1 dq) osq = w2 at *
      clear dq osq
      go_wp2_with fail
      go_ret3
      exact ⟨rfl, below_up hB1 hBw2⟩
    · by_cases p1 : h < 0
      · clear hpp
        go_enter Tryd.func24, Tryd.ntmps24
        go_wp2_with (go_at_call 60; (with_reducible refine (HS.out _).mono ?_); rintro e w1 ⟨rfl, hB1⟩)
        have G1 := Lib.hid (fun d os => Calls.regrown_of (w := w1) (d := d) (os := os) (F1.out _))
        have G2 := Lib.hid (fun d os => Calls.regrown_of (w := w1) (d := d) (os := os) (F2.out _))
        refine wp_region_quiet_below (by kernel_rfl) (by kernel_rfl) ?_
        repeat (go_big_quiet_step ((go_at_call 61; first | with_reducible exact G1.out _ _ | with_reducible exact G2.out _ _)))
        refine wpQuiet_nil ?_
        intro _ hw'
        obtain ⟨⟨dq, osq⟩, hw''⟩ := hw'
        subst hw''
        have hBw2 := below_regrown w1 dq osq
        generalize grow (redrawn w1 dq) osq = w2 at *
        clear dq osq
        go_wp2_with fail
        go_ret3
        exact ⟨rfl, below_up hB1 hBw2⟩
      · by_cases p2 : m < 0
        · clear hpp
          go_enter Tryd.func24, Tryd.ntmps24
          go_wp2_with (go_at_call 60; (with_reducible refine (HS.out _).mono ?_); rintro e w1 ⟨rfl, hB1⟩)
          have G1 := Lib.hid (fun d os => Calls.regrown_of (w := w1) (d := d) (os := os) (F1.out _))
          have G2 := Lib.hid (fun d os => Calls.regrown_of (w := w1) (d := d) (os := os) (F2.out _))
          refine wp_region_quiet_below (by kernel_rfl) (by kernel_rfl) ?_
          repeat (go_big_quiet_step ((go_at_call 61; first | with_reducible exact G1.out _ _ | with_reducible exact G2.out _ _)))
          refine wpQuiet_nil ?_
          intro _ hw'
          obtain ⟨⟨dq, osq⟩, hw''⟩ := hw'
          subst hw''
          have hBw2 := below_regrown w1 dq osq
          generalize grow (redrawn w1 dq) osq = w2 at *
          clear dq osq
          go_wp2_with fail
          go_ret3
          exact ⟨rfl, below_up hB1 hBw2⟩
        · have p3 : 59 < m := by omega
          clear hpp
          go_enter Tryd.func24, Tryd.ntmps24
          go_wp2_with (go_at_call 60; (with_reducible refine (HS.out _).mono ?_); rintro e w1 ⟨rfl, hB1⟩)
          have G1 := Lib.hid (fun d os => Calls.regrown_of (w := w1) (d := d) (os := os) (F1.out _))
          have G2 := Lib.hid (fun d os => Calls.regrown_of (w := w1) (d := d) (os := os) (F2.out _))
          refine wp_region_quiet_below (by kernel_rfl) (by kernel_rfl) ?_
          repeat (go_big_quiet_step ((go_at_call 61; first | with_reducible exact G1.out _ _ | with_reducible exact G2.out _ _)))
          refine wpQuiet_nil ?_
          intro _ hw'
          obtain ⟨⟨dq, osq⟩, hw''⟩ := hw'
          subst hw''
          have hBw2 := below_regrown w1 dq osq
          generalize grow (redrawn w1 dq) osq = w2 at *
          clear dq osq
          go_wp2_with fail
          go_ret3
          exact ⟨rfl, below_up hB1 hBw2⟩
end Go.Proofs.YthldlffkgafgaaaDoor
