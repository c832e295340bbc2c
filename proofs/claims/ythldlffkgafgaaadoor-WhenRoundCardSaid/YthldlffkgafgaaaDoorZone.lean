/- CheckZone, the reference's ZoneError, and the offset of a zone at a moment. -/
import Derived.Test.YthldlffkgafgaaaDoorRow2
import Derived.Test.YthldlffkgafgaaaDoorZoneMath
namespace Go.Proofs.YthldlffkgafgaaaDoor
open Go.RowKit Go.Sort Go.Shelf
set_option linter.unusedVariables false
theorem zoned_is (o : Int) (b : Bool) (h : Zn.zok o = b) (w : World) : Calls Tryd.prog 38 #[.int .i64 o] w fun e w' => e = .returned (.bool b) ∧ w = w' := by
  cases b
  · have h' := (Zn.zok_no o).1 h
    clear h
    by_cases c : -840 ≤ o
    · go_enter Tryd.func38, Tryd.ntmps38
      go_wp2_with fail
      go_ret
      exact ⟨ret_bool (by simp <;> omega), rfl⟩
    · go_enter Tryd.func38, Tryd.ntmps38
      go_wp2_with fail
      go_ret
      exact ⟨ret_bool (by simp <;> omega), rfl⟩
  · have h' := (Zn.zok_iff o).1 h
    clear h
    go_enter Tryd.func38, Tryd.ntmps38
    go_wp2_with fail
    go_ret
    exact ⟨ret_bool (by simp <;> omega), rfl⟩
theorem outZ_is (o : Int) (b : Bool) (h : Zn.zok o = b) (w : World) : Calls Tryd.prog 34 #[.int .i64 o, .int .i64 (-840), .int .i64 840] w fun e w' => e = .returned (.bool (!b)) ∧ w = w' := by
  cases b
  · exact outside_yes _ _ _ _ ((Zn.zok_no o).1 h)
  · exact outside_no _ _ _ _ ((Zn.zok_iff o).1 h).1 ((Zn.zok_iff o).1 h).2
set_option maxHeartbeats 2000000 in
theorem checkZone_is (f : Int) (a : Option Addr) (n ca : Nat) (F O : Nat → Int) (w : World) (hr : Row2 w a n (fun i => .int .i64 (F i)) (fun i => .int .i64 (O i))) (hn : n ≤ 9223372036854775807) :
    Calls Tryd.prog 75 #[.agg #[.int .i64 f, .slice a n ca]] w fun e w' => e = .returned (.int .i64 (Zn.err f F O n)) ∧ Below w.heap.size w w' := by
  -- w.CheckZone: the function; w.isMoment isMoment_is w.outside outZ_is: moment, offset; 15: the loop's slot
  obtain ⟨q, hq⟩ : ∃ q, Zn.err f F O n = q := ⟨_, rfl⟩
  rw [hq]
  unfold Zn.err at hq
  obtain ⟨W1, hW1, hP, hz1, hB⟩ := box w #[.int .i64 f, .slice a n ca] 34
  have HW1 := Lib.hid hW1
  have HR := Lib.hid hr
  have hz2 := hz1
  clear hW1 hz1 hr
  have hPn := hP.two
  by_cases hl : 200 < n
  · rw [if_pos hl] at hq
    subst hq
    go_enter Tryd.func75, Tryd.ntmps75
    go_wp2_with fail
    rw [HW1.out]
    go_wp2_with fail
    go_ret
    exact ⟨rfl, hB⟩
  · rw [if_neg hl] at hq
    by_cases hz : Zn.zok f = true
    · rw [if_pos hz] at hq
      have HMZ := Lib.hid hz
      have HQ := Lib.hid hq
      clear hq hz
      go_enter Tryd.func75, Tryd.ntmps75
      go_wp2_with fail
      rw [HW1.out]
      go_wp2_with (go_at_call 34; (with_reducible refine (outZ_is _ true HMZ.out _).mono ?_); rintro e w' ⟨rfl, rfl⟩)
      clear hPn hz2
      go_loopg [15] n (fun gk i wr => ∃ j : Nat, j ≤ n ∧ gk = n - j ∧ i = .int .i64 j ∧ Zn.scan F O j (n - j) = q ∧ (∀ i, i < j → Zn.bad F O i = 0) ∧ Blk wr w.heap.size #[.int .i64 f, .slice a n ca] 34 ∧ Below w.heap.size w wr)
      case atStart => exact ⟨0, by omega, rfl, rfl, HQ.out, fun i hi => by omega, hP, hB⟩
      case round =>
        clear hP hB
        obtain ⟨j, hj, rfl, rfl, hsc, hall, hP, hB⟩ := hrel
        have HSC := Lib.hid hsc; have HALL := Lib.hid hall
        clear hsc hall
        by_cases hlt : j < n
        · obtain ⟨b, off, rfl, hb, hcell⟩ := (HR.out.keep hB) (by omega)
          obtain ⟨c0, c1⟩ := hcell j hlt
          have z0 := hP.two
          have z1 := fun o => (hP.alloc o).two
          by_cases hms : Ev.mom (F j) = true
          · have HMS := Lib.hid hms
            have hsb := (Ev.mom_iff _).1 hms
            by_cases hmt : Zn.zok (O j) = true
            · have HMT := Lib.hid hmt
              have htb := (Zn.zok_iff _).1 hmt
              clear hms hmt
              by_cases hj0 : j = 0
              · have hj0' : decide ((0 : Int) < (j : Int)) = false := by simpa using hj0
                have hj0'' : ((0 : Int) < (j : Int)) = False := by simpa using hj0
                have hj0n : (0 < j) = False := by simpa using hj0
                have HJ0 := Lib.hid hj0; clear hj0
                -- (first | (go_at_call 33; (with_reducible refine (isMoment_is _ true HMS.out _).mono ?_); rintro e w' ⟨rfl, rfl⟩) | (go_at_call 34; (with_reducible refine (outZ_is _ true HMT.out _).mono ?_); rintro e w' ⟨rfl, rfl⟩)): the arms; Zn.bad_first HMS.out HMT.out HJ0.out: bad = 0
                have HBAD := Lib.hid (Zn.bad_first HMS.out HMT.out HJ0.out)
                go_wp2_with (first | (go_at_call 33; (with_reducible refine (isMoment_is _ true HMS.out _).mono ?_); rintro e w' ⟨rfl, rfl⟩) | (go_at_call 34; (with_reducible refine (outZ_is _ true HMT.out _).mono ?_); rintro e w' ⟨rfl, rfl⟩))
                go_quiet (fail)
                go_wp2_with fail
                go_roundg (n - (j + 1))
                case rel => exact ⟨j + 1, by omega, rfl, by go_num, Zn.scan_next HSC.out hlt HBAD.out, Zn.all_next HALL.out HBAD.out, (hP.alloc _).drewN _, below_drewN (below_allocs hB _) _⟩
                case measure => omega
              · have hj1 : 1 ≤ j := by omega
                have hj0' : decide ((0 : Int) < (j : Int)) = true := by simp; omega
                have hj0n : 0 < j := by omega
                obtain ⟨d0, d1⟩ := hcell (j - 1) (by omega)
                have hpb := (Zn.bad_zero (HALL.out (j - 1) (by omega))).1
                have q0 := fun o => (World.cell?_alloc_lt wr o ⟨b, off + (j - 1) * 2, none⟩ hb).trans d0
                have q1 := fun o => (World.cell?_alloc_lt wr o ⟨b, off + (j - 1) * 2 + 1, none⟩ hb).trans d1
                have hi0 : (0 : Int) ≤ (j : Int) - 1 := by omega
                have hi1 : (j : Int) - 1 < (n : Int) := by omega
                by_cases ho1 : F j ≤ F (j - 1)
                · have HBAD := Lib.hid (Zn.scan_here HSC.out hlt (Zn.bad_ord HMS.out HMT.out hj0 ho1) (by omega))
                  go_wp2_with (first | (go_at_call 33; (with_reducible refine (isMoment_is _ true HMS.out _).mono ?_); rintro e w' ⟨rfl, rfl⟩) | (go_at_call 34; (with_reducible refine (outZ_is _ true HMT.out _).mono ?_); rintro e w' ⟨rfl, rfl⟩))
                  go_quiet (fail)
                  go_wp2_with fail
                  go_ret
                  exact ⟨ret_int HBAD.out, below_drewN (below_allocs hB _) _⟩
                · -- (first | (go_at_call 33; (with_reducible refine (isMoment_is _ true HMS.out _).mono ?_); rintro e w' ⟨rfl, rfl⟩) | (go_at_call 34; (with_reducible refine (outZ_is _ true HMT.out _).mono ?_); rintro e w' ⟨rfl, rfl⟩)): the arms; Zn.bad_ok HMS.out HMT.out hj0 (by omega): bad = 0
                  have HBAD := Lib.hid (Zn.bad_ok HMS.out HMT.out hj0 (by omega))
                  go_wp2_with (first | (go_at_call 33; (with_reducible refine (isMoment_is _ true HMS.out _).mono ?_); rintro e w' ⟨rfl, rfl⟩) | (go_at_call 34; (with_reducible refine (outZ_is _ true HMT.out _).mono ?_); rintro e w' ⟨rfl, rfl⟩))
                  go_quiet (fail)
                  go_wp2_with fail
                  go_roundg (n - (j + 1))
                  case rel => exact ⟨j + 1, by omega, rfl, by go_num, Zn.scan_next HSC.out hlt HBAD.out, Zn.all_next HALL.out HBAD.out, (hP.alloc _).drewN _, below_drewN (below_allocs hB _) _⟩
                  case measure => omega
            · have hmt' : Zn.zok (O j) = false := by simpa using hmt
              have HMT := Lib.hid hmt'
              clear hms hmt hmt'
              have HBAD := Lib.hid (Zn.scan_here HSC.out hlt (Zn.bad_mom (.inr HMT.out)) (by omega))
              go_wp2_with (first | (go_at_call 33; (with_reducible refine (isMoment_is _ true HMS.out _).mono ?_); rintro e w' ⟨rfl, rfl⟩) | (go_at_call 34; (with_reducible refine (outZ_is _ false HMT.out _).mono ?_); rintro e w' ⟨rfl, rfl⟩))
              go_ret
              exact ⟨ret_int HBAD.out, below_allocs hB _⟩
          · have hms' : Ev.mom (F j) = false := by simpa using hms
            have HMS := Lib.hid hms'
            clear hms hms'
            have HBAD := Lib.hid (Zn.scan_here HSC.out hlt (Zn.bad_mom (.inl HMS.out)) (by omega))
            go_wp2_with (go_at_call 33; (with_reducible refine (isMoment_is _ false HMS.out _).mono ?_); rintro e w' ⟨rfl, rfl⟩)
            go_ret
            exact ⟨ret_int HBAD.out, below_allocs hB _⟩
        · obtain rfl : j = n := by omega
          go_wp2_with fail
          go_ret
          exact ⟨ret_int (by have := HSC.out; rw [Nat.sub_self] at this; exact this), hB⟩
    · rw [if_neg hz] at hq
      subst hq
      have hz' : Zn.zok f = false := by simpa using hz
      have HMZ := Lib.hid hz'
      clear hz hz'
      go_enter Tryd.func75, Tryd.ntmps75
      go_wp2_with fail
      rw [HW1.out]
      go_wp2_with (go_at_call 34; (with_reducible refine (outZ_is _ false HMZ.out _).mono ?_); rintro e w' ⟨rfl, rfl⟩)
      go_ret
      exact ⟨rfl, hB⟩
end Go.Proofs.YthldlffkgafgaaaDoor
