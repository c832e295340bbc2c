/- CheckClock and the reference's ClockError. -/
import Derived.Test.YthldlffkgafgaaaDoorSearch
import Derived.Test.YthldlffkgafgaaaDoorRow2
import Derived.Test.YthldlffkgafgaaaDoorClockMath
namespace Go.Proofs.YthldlffkgafgaaaDoor
open Go.RowKit Go.Sort Go.Shelf
set_option linter.unusedVariables false
theorem scan_here {S T : Nat → Int} {n j : Nat} {q e : Int} (h : Ck.scan S T j (n - j) = q) (hj : j < n) (hb : Ck.bad S T j = e) (he : e ≠ 0) : e = q := by
  rw [show n - j = (n - j - 1) + 1 by omega, Ck.scan_bad (by rw [hb]; exact he), hb] at h; exact h
theorem scan_next {S T : Nat → Int} {n j : Nat} {q : Int} (h : Ck.scan S T j (n - j) = q) (hj : j < n) (hb : Ck.bad S T j = 0) : Ck.scan S T (j + 1) (n - (j + 1)) = q := by
  rw [show n - j = (n - (j + 1)) + 1 by omega, Ck.scan_ok hb] at h; exact h
theorem all_next {S T : Nat → Int} {j : Nat} (h : ∀ i, i < j → Ck.bad S T i = 0) (hb : Ck.bad S T j = 0) : ∀ i, i < j + 1 → Ck.bad S T i = 0 := by
  intro i hi; by_cases e : i = j
  · exact e ▸ hb
  · exact h i (by omega)
set_option maxHeartbeats 2000000 in
theorem checkClock_is (a : Option Addr) (n ca : Nat) (S T : Nat → Int) (w : World) (hr : Row2 w a n (fun i => .int .i64 (S i)) (fun i => .int .i64 (T i))) (hn : n ≤ 9223372036854775807) :
    Calls Tryd.prog 73 #[.slice a n ca] w fun e w' => e = .returned (.int .i64 (Ck.err S T n)) ∧ Below w.heap.size w w' := by
  obtain ⟨q, hq⟩ : ∃ q, Ck.err S T n = q := ⟨_, rfl⟩
  rw [hq]
  unfold Ck.err at hq
  by_cases h0 : n = 0
  · rw [if_pos h0] at hq
    subst h0; subst hq
    go_enter Tryd.func73, Tryd.ntmps73
    go_wp2_with fail
    go_ret
    exact ⟨rfl, Below.refl _ _⟩
  · rw [if_neg h0] at hq
    have h0' : ((n : Int) == 0) = false := by simpa using h0
    by_cases hl : 100 < n
    · rw [if_pos hl] at hq
      subst hq
      go_enter Tryd.func73, Tryd.ntmps73
      go_wp2_with fail
      go_ret
      exact ⟨rfl, Below.refl _ _⟩
    · rw [if_neg hl] at hq
      have HQ := Lib.hid hq; have HR := Lib.hid hr
      clear hq hr
      go_enter Tryd.func73, Tryd.ntmps73
      go_wp2_with fail
      go_loopg [16] n (fun gk i wr => ∃ j : Nat, j ≤ n ∧ gk = n - j ∧ i = .int .i64 j ∧ Ck.scan S T j (n - j) = q ∧ (∀ i, i < j → Ck.bad S T i = 0) ∧ Below w.heap.size w wr)
      case atStart => exact ⟨0, by omega, rfl, rfl, HQ.out, fun i hi => by omega, Below.refl _ _⟩
      case round =>
        obtain ⟨j, hj, rfl, rfl, hsc, hall, hB⟩ := hrel
        have HSC := Lib.hid hsc; have HALL := Lib.hid hall
        clear hsc hall
        by_cases hlt : j < n
        · obtain ⟨b, off, rfl, hb, hcell⟩ := (HR.out.keep hB) (by omega)
          obtain ⟨c0, c1⟩ := hcell j hlt
          -- w.isMoment: the function that asks for a moment; isMoment_is: its contract
          by_cases hms : Ev.mom (S j) = true
          · have HMS := Lib.hid hms
            have hsb := (Ev.mom_iff _).1 hms
            by_cases hmt : Ev.mom (T j) = true
            · have HMT := Lib.hid hmt
              have htb := (Ev.mom_iff _).1 hmt
              clear hms hmt
              by_cases hj0 : j = 0
              · have hj0' : ((j : Int) == 0) = true := by simpa using hj0
                have HJ0 := Lib.hid hj0; clear hj0
                -- (go_at_call 33; first | ((with_reducible refine (isMoment_is _ true HMS.out _).mono ?_); rintro e w' ⟨rfl, rfl⟩) | ((with_reducible refine (isMoment_is _ true HMT.out _).mono ?_); rintro e w' ⟨rfl, rfl⟩)): the arms; Ck.bad_first HMS.out HMT.out HJ0.out: bad = 0
                have HBAD := Lib.hid (Ck.bad_first HMS.out HMT.out HJ0.out)
                go_wp2_with (go_at_call 33; first | ((with_reducible refine (isMoment_is _ true HMS.out _).mono ?_); rintro e w' ⟨rfl, rfl⟩) | ((with_reducible refine (isMoment_is _ true HMT.out _).mono ?_); rintro e w' ⟨rfl, rfl⟩))
                go_roundg (n - (j + 1))
                case rel => exact ⟨j + 1, by omega, rfl, by go_num, scan_next HSC.out hlt HBAD.out, all_next HALL.out HBAD.out, below_allocs hB _⟩
                case measure => omega
              · have hj1 : 1 ≤ j := by omega
                have hj0' : ((j : Int) == 0) = false := by simpa using hj0
                obtain ⟨d0, d1⟩ := hcell (j - 1) (by omega)
                have hpb := (Ck.bad_zero (HALL.out (j - 1) (by omega))).1
                have q0 := fun o => (World.cell?_alloc_lt wr o ⟨b, off + (j - 1) * 2, none⟩ hb).trans d0
                have q1 := fun o => (World.cell?_alloc_lt wr o ⟨b, off + (j - 1) * 2 + 1, none⟩ hb).trans d1
                by_cases ho1 : S j ≤ S (j - 1)
                · have HBAD := Lib.hid (scan_here HSC.out hlt (Ck.bad_ord HMS.out HMT.out hj0 (.inl ho1)) (by omega))
                  go_wp2_with (go_at_call 33; first | ((with_reducible refine (isMoment_is _ true HMS.out _).mono ?_); rintro e w' ⟨rfl, rfl⟩) | ((with_reducible refine (isMoment_is _ true HMT.out _).mono ?_); rintro e w' ⟨rfl, rfl⟩))
                  all_goals
                    go_ret
                    exact ⟨ret_int HBAD.out, below_allocs (below_allocs hB _) _⟩
                · by_cases ho2 : T j ≤ T (j - 1)
                  · have HBAD := Lib.hid (scan_here HSC.out hlt (Ck.bad_ord HMS.out HMT.out hj0 (.inr ho2)) (by omega))
                    go_wp2_with (go_at_call 33; first | ((with_reducible refine (isMoment_is _ true HMS.out _).mono ?_); rintro e w' ⟨rfl, rfl⟩) | ((with_reducible refine (isMoment_is _ true HMT.out _).mono ?_); rintro e w' ⟨rfl, rfl⟩))
                    all_goals
                      go_ret
                      exact ⟨ret_int HBAD.out, below_allocs (below_allocs hB _) _⟩
                  · by_cases hf1 : 1000000000 < S j - S (j - 1)
                    · have HBAD := Lib.hid (scan_here HSC.out hlt (Ck.bad_far HMS.out HMT.out hj0 (by omega) (by omega) (.inl hf1)) (by omega))
                      go_wp2_with (go_at_call 33; first | ((with_reducible refine (isMoment_is _ true HMS.out _).mono ?_); rintro e w' ⟨rfl, rfl⟩) | ((with_reducible refine (isMoment_is _ true HMT.out _).mono ?_); rintro e w' ⟨rfl, rfl⟩))
                      all_goals
                        go_ret
                        exact ⟨ret_int HBAD.out, below_allocs (below_allocs hB _) _⟩
                    · by_cases hf2 : 1000000000 < T j - T (j - 1)
                      · have HBAD := Lib.hid (scan_here HSC.out hlt (Ck.bad_far HMS.out HMT.out hj0 (by omega) (by omega) (.inr hf2)) (by omega))
                        go_wp2_with (go_at_call 33; first | ((with_reducible refine (isMoment_is _ true HMS.out _).mono ?_); rintro e w' ⟨rfl, rfl⟩) | ((with_reducible refine (isMoment_is _ true HMT.out _).mono ?_); rintro e w' ⟨rfl, rfl⟩))
                        all_goals
                          go_ret
                          exact ⟨ret_int HBAD.out, below_allocs (below_allocs hB _) _⟩
                      · -- (go_at_call 33; first | ((with_reducible refine (isMoment_is _ true HMS.out _).mono ?_); rintro e w' ⟨rfl, rfl⟩) | ((with_reducible refine (isMoment_is _ true HMT.out _).mono ?_); rintro e w' ⟨rfl, rfl⟩)): the arms; Ck.bad_ok HMS.out HMT.out hj0 (by omega) (by omega) (by omega) (by omega): bad = 0
                        have HBAD := Lib.hid (Ck.bad_ok HMS.out HMT.out hj0 (by omega) (by omega) (by omega) (by omega))
                        go_wp2_with (go_at_call 33; first | ((with_reducible refine (isMoment_is _ true HMS.out _).mono ?_); rintro e w' ⟨rfl, rfl⟩) | ((with_reducible refine (isMoment_is _ true HMT.out _).mono ?_); rintro e w' ⟨rfl, rfl⟩))
                        go_roundg (n - (j + 1))
                        case rel => exact ⟨j + 1, by omega, rfl, by go_num, scan_next HSC.out hlt HBAD.out, all_next HALL.out HBAD.out, below_allocs (below_allocs hB _) _⟩
                        case measure => omega
            · have hmt' : Ev.mom (T j) = false := by simpa using hmt
              have HMT := Lib.hid hmt'
              clear hms hmt hmt'
              have HBAD := Lib.hid (scan_here HSC.out hlt (Ck.bad_mom (.inr HMT.out)) (by omega))
              go_wp2_with (go_at_call 33; first | ((with_reducible refine (isMoment_is _ true HMS.out _).mono ?_); rintro e w' ⟨rfl, rfl⟩) | ((with_reducible refine (isMoment_is _ false HMT.out _).mono ?_); rintro e w' ⟨rfl, rfl⟩))
              all_goals
                go_ret
                exact ⟨ret_int HBAD.out, below_allocs hB _⟩
          · have hms' : Ev.mom (S j) = false := by simpa using hms
            have HMS := Lib.hid hms'
            clear hms hms'
            have HBAD := Lib.hid (scan_here HSC.out hlt (Ck.bad_mom (.inl HMS.out)) (by omega))
            go_wp2_with (go_at_call 33; (with_reducible refine (isMoment_is _ false HMS.out _).mono ?_); rintro e w' ⟨rfl, rfl⟩)
            all_goals
              go_ret
              exact ⟨ret_int HBAD.out, below_allocs hB _⟩
        · obtain rfl : j = n := by omega
          go_wp2_with fail
          go_ret
          exact ⟨ret_int (by have := HSC.out; rw [Nat.sub_self] at this; exact this), hB⟩
end Go.Proofs.YthldlffkgafgaaaDoor
