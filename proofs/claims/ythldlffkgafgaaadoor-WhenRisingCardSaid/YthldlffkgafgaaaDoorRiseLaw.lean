/- The law WhenRising, walked. -/
import Derived.Test.YthldlffkgafgaaaDoorRepAny
import Derived.Test.YthldlffkgafgaaaDoorTxAwake
namespace Go.Proofs.YthldlffkgafgaaaDoor
open Go.RowKit Go.Sort Go.Shelf
set_option linter.unusedVariables false
set_option maxRecDepth 100000 in
set_option maxHeartbeats 8000000 in
theorem whenRising_walk (a : Option Addr) (n ca : Nat) (S T : Nat → Int) (w : World) (hr : Row2 w a n (fun i => .int .i64 (S i)) (fun i => .int .i64 (T i))) (s t m : Int) (hn : n ≤ 9223372036854775807) (htab : Tx.Tab w) :
    Calls Tryd.prog 4 #[.slice a n ca, .int .i64 s, .int .i64 t, .int .i64 m] w fun e w' => e = .returned (.bool true) ∧ Below w.heap.size w w' := by
  have HR := Lib.hid hr
  have HA := Lib.hid (awakeWhen_is w htab)
  have HRa := Lib.hid (fun W hr => repair_any a n ca S T W hr s hn)
  have HRb := Lib.hid (fun W hr => repair_any a n ca S T W hr t hn)
  obtain ⟨v, qe, hS, hq1, hq2⟩ := shows_any S T n m hn
  have HSho := Lib.hid hS
  have HRs := Lib.hid (fun W hr => repair_any a n ca S T W hr v hn)
  have HRt := Lib.hid (fun W hr => repair_any a n ca S T W hr (v + 1) hn)
  have hup := @Ck.rp_mono S T n s t
  clear hS hr htab
  generalize Ck.rpV S T n s = x1 at *
  generalize Ck.rpE S T n s = e1 at *
  generalize Ck.rpV S T n t = x2 at *
  generalize Ck.rpE S T n t = e2 at *
  generalize Ck.rpV S T n v = x3 at *
  generalize Ck.rpE S T n v = e3 at *
  generalize Ck.rpV S T n (v + 1) = x4 at *
  generalize Ck.rpE S T n (v + 1) = e4 at *
  by_cases c1 : e1 = 0
  · have c1' : (e1 == 0) = true := by simpa using c1
    by_cases c2 : e2 = 0
    · have c2' : (e2 == 0) = true := by simpa using c2
      by_cases c : s ≤ t
      · have hup := hup c1 c2 c
        clear c1 c2
        -- behind the pair of a and b: what Shows told
        by_cases q : qe = 0
        · obtain ⟨v0, v1, p3, p4⟩ := hq2 q
          have q' : (qe == 0) = true := by simpa using q
          by_cases c3 : e3 = 0
          · have p3 := p3 c3
            have c3' : (e3 == 0) = true := by simpa using c3
            by_cases vm : v < 6311433599
            · by_cases c4 : e4 = 0
              · have p4 := p4 vm c4
                have c4' : (e4 == 0) = true := by simpa using c4
                clear hq1 hq2 q c3 c4
                go_enter Tryd.func4, Tryd.ntmps4
                go_wp2_with (first | (go_at_call 14; refine HA.out.mono ?_; rintro e w1 ⟨rfl, hB⟩) | (go_at_call 15; first | ((with_reducible refine (HRa.out _ (HR.out.keep hB)).mono ?_); rintro e w2 ⟨rfl, hB2⟩; have hB := below_up hB hB2) | ((with_reducible refine (HRb.out _ (HR.out.keep hB)).mono ?_); rintro e w2 ⟨rfl, hB2⟩; have hB := below_up hB hB2) | ((with_reducible refine (HRs.out _ (HR.out.keep hB)).mono ?_); rintro e w2 ⟨rfl, hB2⟩; have hB := below_up hB hB2) | ((with_reducible refine (HRt.out _ (HR.out.keep hB)).mono ?_); rintro e w2 ⟨rfl, hB2⟩; have hB := below_up hB hB2)) | (go_at_call 16; (with_reducible refine (HSho.out _ _ _ (HR.out.keep hB)).mono ?_); rintro e w3 ⟨rfl, hB2⟩; have hB := below_up hB hB2))
                all_goals
                  go_ret
                  exact ⟨ret_bool (by simp), hB⟩
              · have c4' : (e4 == 0) = false := by simpa using c4
                clear hq1 hq2 q c3 c4 p4
                go_enter Tryd.func4, Tryd.ntmps4
                go_wp2_with (first | (go_at_call 14; refine HA.out.mono ?_; rintro e w1 ⟨rfl, hB⟩) | (go_at_call 15; first | ((with_reducible refine (HRa.out _ (HR.out.keep hB)).mono ?_); rintro e w2 ⟨rfl, hB2⟩; have hB := below_up hB hB2) | ((with_reducible refine (HRb.out _ (HR.out.keep hB)).mono ?_); rintro e w2 ⟨rfl, hB2⟩; have hB := below_up hB hB2) | ((with_reducible refine (HRs.out _ (HR.out.keep hB)).mono ?_); rintro e w2 ⟨rfl, hB2⟩; have hB := below_up hB hB2) | ((with_reducible refine (HRt.out _ (HR.out.keep hB)).mono ?_); rintro e w2 ⟨rfl, hB2⟩; have hB := below_up hB hB2)) | (go_at_call 16; (with_reducible refine (HSho.out _ _ _ (HR.out.keep hB)).mono ?_); rintro e w3 ⟨rfl, hB2⟩; have hB := below_up hB hB2))
                all_goals
                  go_ret
                  exact ⟨ret_bool (by simp), hB⟩
            · clear hq1 hq2 q c3 p4
              go_enter Tryd.func4, Tryd.ntmps4
              go_wp2_with (first | (go_at_call 14; refine HA.out.mono ?_; rintro e w1 ⟨rfl, hB⟩) | (go_at_call 15; first | ((with_reducible refine (HRa.out _ (HR.out.keep hB)).mono ?_); rintro e w2 ⟨rfl, hB2⟩; have hB := below_up hB hB2) | ((with_reducible refine (HRb.out _ (HR.out.keep hB)).mono ?_); rintro e w2 ⟨rfl, hB2⟩; have hB := below_up hB hB2) | ((with_reducible refine (HRs.out _ (HR.out.keep hB)).mono ?_); rintro e w2 ⟨rfl, hB2⟩; have hB := below_up hB hB2) | ((with_reducible refine (HRt.out _ (HR.out.keep hB)).mono ?_); rintro e w2 ⟨rfl, hB2⟩; have hB := below_up hB hB2)) | (go_at_call 16; (with_reducible refine (HSho.out _ _ _ (HR.out.keep hB)).mono ?_); rintro e w3 ⟨rfl, hB2⟩; have hB := below_up hB hB2))
              all_goals
                go_ret
                exact ⟨ret_bool (by simp), hB⟩
          · have c3' : (e3 == 0) = false := by simpa using c3
            by_cases vm : v < 6311433599
            · by_cases c4 : e4 = 0
              · have p4 := p4 vm c4
                have c4' : (e4 == 0) = true := by simpa using c4
                clear hq1 hq2 q c3 c4 p3
                go_enter Tryd.func4, Tryd.ntmps4
                go_wp2_with (first | (go_at_call 14; refine HA.out.mono ?_; rintro e w1 ⟨rfl, hB⟩) | (go_at_call 15; first | ((with_reducible refine (HRa.out _ (HR.out.keep hB)).mono ?_); rintro e w2 ⟨rfl, hB2⟩; have hB := below_up hB hB2) | ((with_reducible refine (HRb.out _ (HR.out.keep hB)).mono ?_); rintro e w2 ⟨rfl, hB2⟩; have hB := below_up hB hB2) | ((with_reducible refine (HRs.out _ (HR.out.keep hB)).mono ?_); rintro e w2 ⟨rfl, hB2⟩; have hB := below_up hB hB2) | ((with_reducible refine (HRt.out _ (HR.out.keep hB)).mono ?_); rintro e w2 ⟨rfl, hB2⟩; have hB := below_up hB hB2)) | (go_at_call 16; (with_reducible refine (HSho.out _ _ _ (HR.out.keep hB)).mono ?_); rintro e w3 ⟨rfl, hB2⟩; have hB := below_up hB hB2))
                all_goals
                  go_ret
                  exact ⟨ret_bool (by simp), hB⟩
              · have c4' : (e4 == 0) = false := by simpa using c4
                clear hq1 hq2 q c3 c4 p4 p3
                go_enter Tryd.func4, Tryd.ntmps4
                go_wp2_with (first | (go_at_call 14; refine HA.out.mono ?_; rintro e w1 ⟨rfl, hB⟩) | (go_at_call 15; first | ((with_reducible refine (HRa.out _ (HR.out.keep hB)).mono ?_); rintro e w2 ⟨rfl, hB2⟩; have hB := below_up hB hB2) | ((with_reducible refine (HRb.out _ (HR.out.keep hB)).mono ?_); rintro e w2 ⟨rfl, hB2⟩; have hB := below_up hB hB2) | ((with_reducible refine (HRs.out _ (HR.out.keep hB)).mono ?_); rintro e w2 ⟨rfl, hB2⟩; have hB := below_up hB hB2) | ((with_reducible refine (HRt.out _ (HR.out.keep hB)).mono ?_); rintro e w2 ⟨rfl, hB2⟩; have hB := below_up hB hB2)) | (go_at_call 16; (with_reducible refine (HSho.out _ _ _ (HR.out.keep hB)).mono ?_); rintro e w3 ⟨rfl, hB2⟩; have hB := below_up hB hB2))
                all_goals
                  go_ret
                  exact ⟨ret_bool (by simp), hB⟩
            · clear hq1 hq2 q c3 p4 p3
              go_enter Tryd.func4, Tryd.ntmps4
              go_wp2_with (first | (go_at_call 14; refine HA.out.mono ?_; rintro e w1 ⟨rfl, hB⟩) | (go_at_call 15; first | ((with_reducible refine (HRa.out _ (HR.out.keep hB)).mono ?_); rintro e w2 ⟨rfl, hB2⟩; have hB := below_up hB hB2) | ((with_reducible refine (HRb.out _ (HR.out.keep hB)).mono ?_); rintro e w2 ⟨rfl, hB2⟩; have hB := below_up hB hB2) | ((with_reducible refine (HRs.out _ (HR.out.keep hB)).mono ?_); rintro e w2 ⟨rfl, hB2⟩; have hB := below_up hB hB2) | ((with_reducible refine (HRt.out _ (HR.out.keep hB)).mono ?_); rintro e w2 ⟨rfl, hB2⟩; have hB := below_up hB hB2)) | (go_at_call 16; (with_reducible refine (HSho.out _ _ _ (HR.out.keep hB)).mono ?_); rintro e w3 ⟨rfl, hB2⟩; have hB := below_up hB hB2))
              all_goals
                go_ret
                exact ⟨ret_bool (by simp), hB⟩
        · have v0 := hq1 q
          have q' : (qe == 0) = false := by simpa using q
          subst v0
          clear hq1 hq2 q
          go_enter Tryd.func4, Tryd.ntmps4
          go_wp2_with (first | (go_at_call 14; refine HA.out.mono ?_; rintro e w1 ⟨rfl, hB⟩) | (go_at_call 15; first | ((with_reducible refine (HRa.out _ (HR.out.keep hB)).mono ?_); rintro e w2 ⟨rfl, hB2⟩; have hB := below_up hB hB2) | ((with_reducible refine (HRb.out _ (HR.out.keep hB)).mono ?_); rintro e w2 ⟨rfl, hB2⟩; have hB := below_up hB hB2) | ((with_reducible refine (HRs.out _ (HR.out.keep hB)).mono ?_); rintro e w2 ⟨rfl, hB2⟩; have hB := below_up hB hB2) | ((with_reducible refine (HRt.out _ (HR.out.keep hB)).mono ?_); rintro e w2 ⟨rfl, hB2⟩; have hB := below_up hB hB2)) | (go_at_call 16; (with_reducible refine (HSho.out _ _ _ (HR.out.keep hB)).mono ?_); rintro e w3 ⟨rfl, hB2⟩; have hB := below_up hB hB2))
          all_goals
            go_ret
            exact ⟨ret_bool (by simp), hB⟩
      · clear c1 c2 hup
        -- behind the pair of a and b: what Shows told
        by_cases q : qe = 0
        · obtain ⟨v0, v1, p3, p4⟩ := hq2 q
          have q' : (qe == 0) = true := by simpa using q
          by_cases c3 : e3 = 0
          · have p3 := p3 c3
            have c3' : (e3 == 0) = true := by simpa using c3
            by_cases vm : v < 6311433599
            · by_cases c4 : e4 = 0
              · have p4 := p4 vm c4
                have c4' : (e4 == 0) = true := by simpa using c4
                clear hq1 hq2 q c3 c4
                go_enter Tryd.func4, Tryd.ntmps4
                go_wp2_with (first | (go_at_call 14; refine HA.out.mono ?_; rintro e w1 ⟨rfl, hB⟩) | (go_at_call 15; first | ((with_reducible refine (HRa.out _ (HR.out.keep hB)).mono ?_); rintro e w2 ⟨rfl, hB2⟩; have hB := below_up hB hB2) | ((with_reducible refine (HRb.out _ (HR.out.keep hB)).mono ?_); rintro e w2 ⟨rfl, hB2⟩; have hB := below_up hB hB2) | ((with_reducible refine (HRs.out _ (HR.out.keep hB)).mono ?_); rintro e w2 ⟨rfl, hB2⟩; have hB := below_up hB hB2) | ((with_reducible refine (HRt.out _ (HR.out.keep hB)).mono ?_); rintro e w2 ⟨rfl, hB2⟩; have hB := below_up hB hB2)) | (go_at_call 16; (with_reducible refine (HSho.out _ _ _ (HR.out.keep hB)).mono ?_); rintro e w3 ⟨rfl, hB2⟩; have hB := below_up hB hB2))
                all_goals
                  go_ret
                  exact ⟨ret_bool (by simp), hB⟩
              · have c4' : (e4 == 0) = false := by simpa using c4
                clear hq1 hq2 q c3 c4 p4
                go_enter Tryd.func4, Tryd.ntmps4
                go_wp2_with (first | (go_at_call 14; refine HA.out.mono ?_; rintro e w1 ⟨rfl, hB⟩) | (go_at_call 15; first | ((with_reducible refine (HRa.out _ (HR.out.keep hB)).mono ?_); rintro e w2 ⟨rfl, hB2⟩; have hB := below_up hB hB2) | ((with_reducible refine (HRb.out _ (HR.out.keep hB)).mono ?_); rintro e w2 ⟨rfl, hB2⟩; have hB := below_up hB hB2) | ((with_reducible refine (HRs.out _ (HR.out.keep hB)).mono ?_); rintro e w2 ⟨rfl, hB2⟩; have hB := below_up hB hB2) | ((with_reducible refine (HRt.out _ (HR.out.keep hB)).mono ?_); rintro e w2 ⟨rfl, hB2⟩; have hB := below_up hB hB2)) | (go_at_call 16; (with_reducible refine (HSho.out _ _ _ (HR.out.keep hB)).mono ?_); rintro e w3 ⟨rfl, hB2⟩; have hB := below_up hB hB2))
                all_goals
                  go_ret
                  exact ⟨ret_bool (by simp), hB⟩
            · clear hq1 hq2 q c3 p4
              go_enter Tryd.func4, Tryd.ntmps4
              go_wp2_with (first | (go_at_call 14; refine HA.out.mono ?_; rintro e w1 ⟨rfl, hB⟩) | (go_at_call 15; first | ((with_reducible refine (HRa.out _ (HR.out.keep hB)).mono ?_); rintro e w2 ⟨rfl, hB2⟩; have hB := below_up hB hB2) | ((with_reducible refine (HRb.out _ (HR.out.keep hB)).mono ?_); rintro e w2 ⟨rfl, hB2⟩; have hB := below_up hB hB2) | ((with_reducible refine (HRs.out _ (HR.out.keep hB)).mono ?_); rintro e w2 ⟨rfl, hB2⟩; have hB := below_up hB hB2) | ((with_reducible refine (HRt.out _ (HR.out.keep hB)).mono ?_); rintro e w2 ⟨rfl, hB2⟩; have hB := below_up hB hB2)) | (go_at_call 16; (with_reducible refine (HSho.out _ _ _ (HR.out.keep hB)).mono ?_); rintro e w3 ⟨rfl, hB2⟩; have hB := below_up hB hB2))
              all_goals
                go_ret
                exact ⟨ret_bool (by simp), hB⟩
          · have c3' : (e3 == 0) = false := by simpa using c3
            by_cases vm : v < 6311433599
            · by_cases c4 : e4 = 0
              · have p4 := p4 vm c4
                have c4' : (e4 == 0) = true := by simpa using c4
                clear hq1 hq2 q c3 c4 p3
                go_enter Tryd.func4, Tryd.ntmps4
                go_wp2_with (first | (go_at_call 14; refine HA.out.mono ?_; rintro e w1 ⟨rfl, hB⟩) | (go_at_call 15; first | ((with_reducible refine (HRa.out _ (HR.out.keep hB)).mono ?_); rintro e w2 ⟨rfl, hB2⟩; have hB := below_up hB hB2) | ((with_reducible refine (HRb.out _ (HR.out.keep hB)).mono ?_); rintro e w2 ⟨rfl, hB2⟩; have hB := below_up hB hB2) | ((with_reducible refine (HRs.out _ (HR.out.keep hB)).mono ?_); rintro e w2 ⟨rfl, hB2⟩; have hB := below_up hB hB2) | ((with_reducible refine (HRt.out _ (HR.out.keep hB)).mono ?_); rintro e w2 ⟨rfl, hB2⟩; have hB := below_up hB hB2)) | (go_at_call 16; (with_reducible refine (HSho.out _ _ _ (HR.out.keep hB)).mono ?_); rintro e w3 ⟨rfl, hB2⟩; have hB := below_up hB hB2))
                all_goals
                  go_ret
                  exact ⟨ret_bool (by simp), hB⟩
              · have c4' : (e4 == 0) = false := by simpa using c4
                clear hq1 hq2 q c3 c4 p4 p3
                go_enter Tryd.func4, Tryd.ntmps4
                go_wp2_with (first | (go_at_call 14; refine HA.out.mono ?_; rintro e w1 ⟨rfl, hB⟩) | (go_at_call 15; first | ((with_reducible refine (HRa.out _ (HR.out.keep hB)).mono ?_); rintro e w2 ⟨rfl, hB2⟩; have hB := below_up hB hB2) | ((with_reducible refine (HRb.out _ (HR.out.keep hB)).mono ?_); rintro e w2 ⟨rfl, hB2⟩; have hB := below_up hB hB2) | ((with_reducible refine (HRs.out _ (HR.out.keep hB)).mono ?_); rintro e w2 ⟨rfl, hB2⟩; have hB := below_up hB hB2) | ((with_reducible refine (HRt.out _ (HR.out.keep hB)).mono ?_); rintro e w2 ⟨rfl, hB2⟩; have hB := below_up hB hB2)) | (go_at_call 16; (with_reducible refine (HSho.out _ _ _ (HR.out.keep hB)).mono ?_); rintro e w3 ⟨rfl, hB2⟩; have hB := below_up hB hB2))
                all_goals
                  go_ret
                  exact ⟨ret_bool (by simp), hB⟩
            · clear hq1 hq2 q c3 p4 p3
              go_enter Tryd.func4, Tryd.ntmps4
              go_wp2_with (first | (go_at_call 14; refine HA.out.mono ?_; rintro e w1 ⟨rfl, hB⟩) | (go_at_call 15; first | ((with_reducible refine (HRa.out _ (HR.out.keep hB)).mono ?_); rintro e w2 ⟨rfl, hB2⟩; have hB := below_up hB hB2) | ((with_reducible refine (HRb.out _ (HR.out.keep hB)).mono ?_); rintro e w2 ⟨rfl, hB2⟩; have hB := below_up hB hB2) | ((with_reducible refine (HRs.out _ (HR.out.keep hB)).mono ?_); rintro e w2 ⟨rfl, hB2⟩; have hB := below_up hB hB2) | ((with_reducible refine (HRt.out _ (HR.out.keep hB)).mono ?_); rintro e w2 ⟨rfl, hB2⟩; have hB := below_up hB hB2)) | (go_at_call 16; (with_reducible refine (HSho.out _ _ _ (HR.out.keep hB)).mono ?_); rintro e w3 ⟨rfl, hB2⟩; have hB := below_up hB hB2))
              all_goals
                go_ret
                exact ⟨ret_bool (by simp), hB⟩
        · have v0 := hq1 q
          have q' : (qe == 0) = false := by simpa using q
          subst v0
          clear hq1 hq2 q
          go_enter Tryd.func4, Tryd.ntmps4
          go_wp2_with (first | (go_at_call 14; refine HA.out.mono ?_; rintro e w1 ⟨rfl, hB⟩) | (go_at_call 15; first | ((with_reducible refine (HRa.out _ (HR.out.keep hB)).mono ?_); rintro e w2 ⟨rfl, hB2⟩; have hB := below_up hB hB2) | ((with_reducible refine (HRb.out _ (HR.out.keep hB)).mono ?_); rintro e w2 ⟨rfl, hB2⟩; have hB := below_up hB hB2) | ((with_reducible refine (HRs.out _ (HR.out.keep hB)).mono ?_); rintro e w2 ⟨rfl, hB2⟩; have hB := below_up hB hB2) | ((with_reducible refine (HRt.out _ (HR.out.keep hB)).mono ?_); rintro e w2 ⟨rfl, hB2⟩; have hB := below_up hB hB2)) | (go_at_call 16; (with_reducible refine (HSho.out _ _ _ (HR.out.keep hB)).mono ?_); rintro e w3 ⟨rfl, hB2⟩; have hB := below_up hB hB2))
          all_goals
            go_ret
            exact ⟨ret_bool (by simp), hB⟩
    · have c2' : (e2 == 0) = false := by simpa using c2
      clear c1 c2 hup
      -- behind the pair of a and b: what Shows told
      by_cases q : qe = 0
      · obtain ⟨v0, v1, p3, p4⟩ := hq2 q
        have q' : (qe == 0) = true := by simpa using q
        by_cases c3 : e3 = 0
        · have p3 := p3 c3
          have c3' : (e3 == 0) = true := by simpa using c3
          by_cases vm : v < 6311433599
          · by_cases c4 : e4 = 0
            · have p4 := p4 vm c4
              have c4' : (e4 == 0) = true := by simpa using c4
              clear hq1 hq2 q c3 c4
              go_enter Tryd.func4, Tryd.ntmps4
              go_wp2_with (first | (go_at_call 14; refine HA.out.mono ?_; rintro e w1 ⟨rfl, hB⟩) | (go_at_call 15; first | ((with_reducible refine (HRa.out _ (HR.out.keep hB)).mono ?_); rintro e w2 ⟨rfl, hB2⟩; have hB := below_up hB hB2) | ((with_reducible refine (HRb.out _ (HR.out.keep hB)).mono ?_); rintro e w2 ⟨rfl, hB2⟩; have hB := below_up hB hB2) | ((with_reducible refine (HRs.out _ (HR.out.keep hB)).mono ?_); rintro e w2 ⟨rfl, hB2⟩; have hB := below_up hB hB2) | ((with_reducible refine (HRt.out _ (HR.out.keep hB)).mono ?_); rintro e w2 ⟨rfl, hB2⟩; have hB := below_up hB hB2)) | (go_at_call 16; (with_reducible refine (HSho.out _ _ _ (HR.out.keep hB)).mono ?_); rintro e w3 ⟨rfl, hB2⟩; have hB := below_up hB hB2))
              all_goals
                go_ret
                exact ⟨ret_bool (by simp), hB⟩
            · have c4' : (e4 == 0) = false := by simpa using c4
              clear hq1 hq2 q c3 c4 p4
              go_enter Tryd.func4, Tryd.ntmps4
              go_wp2_with (first | (go_at_call 14; refine HA.out.mono ?_; rintro e w1 ⟨rfl, hB⟩) | (go_at_call 15; first | ((with_reducible refine (HRa.out _ (HR.out.keep hB)).mono ?_); rintro e w2 ⟨rfl, hB2⟩; have hB := below_up hB hB2) | ((with_reducible refine (HRb.out _ (HR.out.keep hB)).mono ?_); rintro e w2 ⟨rfl, hB2⟩; have hB := below_up hB hB2) | ((with_reducible refine (HRs.out _ (HR.out.keep hB)).mono ?_); rintro e w2 ⟨rfl, hB2⟩; have hB := below_up hB hB2) | ((with_reducible refine (HRt.out _ (HR.out.keep hB)).mono ?_); rintro e w2 ⟨rfl, hB2⟩; have hB := below_up hB hB2)) | (go_at_call 16; (with_reducible refine (HSho.out _ _ _ (HR.out.keep hB)).mono ?_); rintro e w3 ⟨rfl, hB2⟩; have hB := below_up hB hB2))
              all_goals
                go_ret
                exact ⟨ret_bool (by simp), hB⟩
          · clear hq1 hq2 q c3 p4
            go_enter Tryd.func4, Tryd.ntmps4
            go_wp2_with (first | (go_at_call 14; refine HA.out.mono ?_; rintro e w1 ⟨rfl, hB⟩) | (go_at_call 15; first | ((with_reducible refine (HRa.out _ (HR.out.keep hB)).mono ?_); rintro e w2 ⟨rfl, hB2⟩; have hB := below_up hB hB2) | ((with_reducible refine (HRb.out _ (HR.out.keep hB)).mono ?_); rintro e w2 ⟨rfl, hB2⟩; have hB := below_up hB hB2) | ((with_reducible refine (HRs.out _ (HR.out.keep hB)).mono ?_); rintro e w2 ⟨rfl, hB2⟩; have hB := below_up hB hB2) | ((with_reducible refine (HRt.out _ (HR.out.keep hB)).mono ?_); rintro e w2 ⟨rfl, hB2⟩; have hB := below_up hB hB2)) | (go_at_call 16; (with_reducible refine (HSho.out _ _ _ (HR.out.keep hB)).mono ?_); rintro e w3 ⟨rfl, hB2⟩; have hB := below_up hB hB2))
            all_goals
              go_ret
              exact ⟨ret_bool (by simp), hB⟩
        · have c3' : (e3 == 0) = false := by simpa using c3
          by_cases vm : v < 6311433599
          · by_cases c4 : e4 = 0
            · have p4 := p4 vm c4
              have c4' : (e4 == 0) = true := by simpa using c4
              clear hq1 hq2 q c3 c4 p3
              go_enter Tryd.func4, Tryd.ntmps4
              go_wp2_with (first | (go_at_call 14; refine HA.out.mono ?_; rintro e w1 ⟨rfl, hB⟩) | (go_at_call 15; first | ((with_reducible refine (HRa.out _ (HR.out.keep hB)).mono ?_); rintro e w2 ⟨rfl, hB2⟩; have hB := below_up hB hB2) | ((with_reducible refine (HRb.out _ (HR.out.keep hB)).mono ?_); rintro e w2 ⟨rfl, hB2⟩; have hB := below_up hB hB2) | ((with_reducible refine (HRs.out _ (HR.out.keep hB)).mono ?_); rintro e w2 ⟨rfl, hB2⟩; have hB := below_up hB hB2) | ((with_reducible refine (HRt.out _ (HR.out.keep hB)).mono ?_); rintro e w2 ⟨rfl, hB2⟩; have hB := below_up hB hB2)) | (go_at_call 16; (with_reducible refine (HSho.out _ _ _ (HR.out.keep hB)).mono ?_); rintro e w3 ⟨rfl, hB2⟩; have hB := below_up hB hB2))
              all_goals
                go_ret
                exact ⟨ret_bool (by simp), hB⟩
            · have c4' : (e4 == 0) = false := by simpa using c4
              clear hq1 hq2 q c3 c4 p4 p3
              go_enter Tryd.func4, Tryd.ntmps4
              go_wp2_with (first | (go_at_call 14; refine HA.out.mono ?_; rintro e w1 ⟨rfl, hB⟩) | (go_at_call 15; first | ((with_reducible refine (HRa.out _ (HR.out.keep hB)).mono ?_); rintro e w2 ⟨rfl, hB2⟩; have hB := below_up hB hB2) | ((with_reducible refine (HRb.out _ (HR.out.keep hB)).mono ?_); rintro e w2 ⟨rfl, hB2⟩; have hB := below_up hB hB2) | ((with_reducible refine (HRs.out _ (HR.out.keep hB)).mono ?_); rintro e w2 ⟨rfl, hB2⟩; have hB := below_up hB hB2) | ((with_reducible refine (HRt.out _ (HR.out.keep hB)).mono ?_); rintro e w2 ⟨rfl, hB2⟩; have hB := below_up hB hB2)) | (go_at_call 16; (with_reducible refine (HSho.out _ _ _ (HR.out.keep hB)).mono ?_); rintro e w3 ⟨rfl, hB2⟩; have hB := below_up hB hB2))
              all_goals
                go_ret
                exact ⟨ret_bool (by simp), hB⟩
          · clear hq1 hq2 q c3 p4 p3
            go_enter Tryd.func4, Tryd.ntmps4
            go_wp2_with (first | (go_at_call 14; refine HA.out.mono ?_; rintro e w1 ⟨rfl, hB⟩) | (go_at_call 15; first | ((with_reducible refine (HRa.out _ (HR.out.keep hB)).mono ?_); rintro e w2 ⟨rfl, hB2⟩; have hB := below_up hB hB2) | ((with_reducible refine (HRb.out _ (HR.out.keep hB)).mono ?_); rintro e w2 ⟨rfl, hB2⟩; have hB := below_up hB hB2) | ((with_reducible refine (HRs.out _ (HR.out.keep hB)).mono ?_); rintro e w2 ⟨rfl, hB2⟩; have hB := below_up hB hB2) | ((with_reducible refine (HRt.out _ (HR.out.keep hB)).mono ?_); rintro e w2 ⟨rfl, hB2⟩; have hB := below_up hB hB2)) | (go_at_call 16; (with_reducible refine (HSho.out _ _ _ (HR.out.keep hB)).mono ?_); rintro e w3 ⟨rfl, hB2⟩; have hB := below_up hB hB2))
            all_goals
              go_ret
              exact ⟨ret_bool (by simp), hB⟩
      · have v0 := hq1 q
        have q' : (qe == 0) = false := by simpa using q
        subst v0
        clear hq1 hq2 q
        go_enter Tryd.func4, Tryd.ntmps4
        go_wp2_with (first | (go_at_call 14; refine HA.out.mono ?_; rintro e w1 ⟨rfl, hB⟩) | (go_at_call 15; first | ((with_reducible refine (HRa.out _ (HR.out.keep hB)).mono ?_); rintro e w2 ⟨rfl, hB2⟩; have hB := below_up hB hB2) | ((with_reducible refine (HRb.out _ (HR.out.keep hB)).mono ?_); rintro e w2 ⟨rfl, hB2⟩; have hB := below_up hB hB2) | ((with_reducible refine (HRs.out _ (HR.out.keep hB)).mono ?_); rintro e w2 ⟨rfl, hB2⟩; have hB := below_up hB hB2) | ((with_reducible refine (HRt.out _ (HR.out.keep hB)).mono ?_); rintro e w2 ⟨rfl, hB2⟩; have hB := below_up hB hB2)) | (go_at_call 16; (with_reducible refine (HSho.out _ _ _ (HR.out.keep hB)).mono ?_); rintro e w3 ⟨rfl, hB2⟩; have hB := below_up hB hB2))
        all_goals
          go_ret
          exact ⟨ret_bool (by simp), hB⟩
  · have c1' : (e1 == 0) = false := by simpa using c1
    clear c1 hup
    -- behind the pair of a and b: what Shows told
    by_cases q : qe = 0
    · obtain ⟨v0, v1, p3, p4⟩ := hq2 q
      have q' : (qe == 0) = true := by simpa using q
      by_cases c3 : e3 = 0
      · have p3 := p3 c3
        have c3' : (e3 == 0) = true := by simpa using c3
        by_cases vm : v < 6311433599
        · by_cases c4 : e4 = 0
          · have p4 := p4 vm c4
            have c4' : (e4 == 0) = true := by simpa using c4
            clear hq1 hq2 q c3 c4
            go_enter Tryd.func4, Tryd.ntmps4
            go_wp2_with (first | (go_at_call 14; refine HA.out.mono ?_; rintro e w1 ⟨rfl, hB⟩) | (go_at_call 15; first | ((with_reducible refine (HRa.out _ (HR.out.keep hB)).mono ?_); rintro e w2 ⟨rfl, hB2⟩; have hB := below_up hB hB2) | ((with_reducible refine (HRb.out _ (HR.out.keep hB)).mono ?_); rintro e w2 ⟨rfl, hB2⟩; have hB := below_up hB hB2) | ((with_reducible refine (HRs.out _ (HR.out.keep hB)).mono ?_); rintro e w2 ⟨rfl, hB2⟩; have hB := below_up hB hB2) | ((with_reducible refine (HRt.out _ (HR.out.keep hB)).mono ?_); rintro e w2 ⟨rfl, hB2⟩; have hB := below_up hB hB2)) | (go_at_call 16; (with_reducible refine (HSho.out _ _ _ (HR.out.keep hB)).mono ?_); rintro e w3 ⟨rfl, hB2⟩; have hB := below_up hB hB2))
            all_goals
              go_ret
              exact ⟨ret_bool (by simp), hB⟩
          · have c4' : (e4 == 0) = false := by simpa using c4
            clear hq1 hq2 q c3 c4 p4
            go_enter Tryd.func4, Tryd.ntmps4
            go_wp2_with (first | (go_at_call 14; refine HA.out.mono ?_; rintro e w1 ⟨rfl, hB⟩) | (go_at_call 15; first | ((with_reducible refine (HRa.out _ (HR.out.keep hB)).mono ?_); rintro e w2 ⟨rfl, hB2⟩; have hB := below_up hB hB2) | ((with_reducible refine (HRb.out _ (HR.out.keep hB)).mono ?_); rintro e w2 ⟨rfl, hB2⟩; have hB := below_up hB hB2) | ((with_reducible refine (HRs.out _ (HR.out.keep hB)).mono ?_); rintro e w2 ⟨rfl, hB2⟩; have hB := below_up hB hB2) | ((with_reducible refine (HRt.out _ (HR.out.keep hB)).mono ?_); rintro e w2 ⟨rfl, hB2⟩; have hB := below_up hB hB2)) | (go_at_call 16; (with_reducible refine (HSho.out _ _ _ (HR.out.keep hB)).mono ?_); rintro e w3 ⟨rfl, hB2⟩; have hB := below_up hB hB2))
            all_goals
              go_ret
              exact ⟨ret_bool (by simp), hB⟩
        · clear hq1 hq2 q c3 p4
          go_enter Tryd.func4, Tryd.ntmps4
          go_wp2_with (first | (go_at_call 14; refine HA.out.mono ?_; rintro e w1 ⟨rfl, hB⟩) | (go_at_call 15; first | ((with_reducible refine (HRa.out _ (HR.out.keep hB)).mono ?_); rintro e w2 ⟨rfl, hB2⟩; have hB := below_up hB hB2) | ((with_reducible refine (HRb.out _ (HR.out.keep hB)).mono ?_); rintro e w2 ⟨rfl, hB2⟩; have hB := below_up hB hB2) | ((with_reducible refine (HRs.out _ (HR.out.keep hB)).mono ?_); rintro e w2 ⟨rfl, hB2⟩; have hB := below_up hB hB2) | ((with_reducible refine (HRt.out _ (HR.out.keep hB)).mono ?_); rintro e w2 ⟨rfl, hB2⟩; have hB := below_up hB hB2)) | (go_at_call 16; (with_reducible refine (HSho.out _ _ _ (HR.out.keep hB)).mono ?_); rintro e w3 ⟨rfl, hB2⟩; have hB := below_up hB hB2))
          all_goals
            go_ret
            exact ⟨ret_bool (by simp), hB⟩
      · have c3' : (e3 == 0) = false := by simpa using c3
        by_cases vm : v < 6311433599
        · by_cases c4 : e4 = 0
          · have p4 := p4 vm c4
            have c4' : (e4 == 0) = true := by simpa using c4
            clear hq1 hq2 q c3 c4 p3
            go_enter Tryd.func4, Tryd.ntmps4
            go_wp2_with (first | (go_at_call 14; refine HA.out.mono ?_; rintro e w1 ⟨rfl, hB⟩) | (go_at_call 15; first | ((with_reducible refine (HRa.out _ (HR.out.keep hB)).mono ?_); rintro e w2 ⟨rfl, hB2⟩; have hB := below_up hB hB2) | ((with_reducible refine (HRb.out _ (HR.out.keep hB)).mono ?_); rintro e w2 ⟨rfl, hB2⟩; have hB := below_up hB hB2) | ((with_reducible refine (HRs.out _ (HR.out.keep hB)).mono ?_); rintro e w2 ⟨rfl, hB2⟩; have hB := below_up hB hB2) | ((with_reducible refine (HRt.out _ (HR.out.keep hB)).mono ?_); rintro e w2 ⟨rfl, hB2⟩; have hB := below_up hB hB2)) | (go_at_call 16; (with_reducible refine (HSho.out _ _ _ (HR.out.keep hB)).mono ?_); rintro e w3 ⟨rfl, hB2⟩; have hB := below_up hB hB2))
            all_goals
              go_ret
              exact ⟨ret_bool (by simp), hB⟩
          · have c4' : (e4 == 0) = false := by simpa using c4
            clear hq1 hq2 q c3 c4 p4 p3
            go_enter Tryd.func4, Tryd.ntmps4
            go_wp2_with (first | (go_at_call 14; refine HA.out.mono ?_; rintro e w1 ⟨rfl, hB⟩) | (go_at_call 15; first | ((with_reducible refine (HRa.out _ (HR.out.keep hB)).mono ?_); rintro e w2 ⟨rfl, hB2⟩; have hB := below_up hB hB2) | ((with_reducible refine (HRb.out _ (HR.out.keep hB)).mono ?_); rintro e w2 ⟨rfl, hB2⟩; have hB := below_up hB hB2) | ((with_reducible refine (HRs.out _ (HR.out.keep hB)).mono ?_); rintro e w2 ⟨rfl, hB2⟩; have hB := below_up hB hB2) | ((with_reducible refine (HRt.out _ (HR.out.keep hB)).mono ?_); rintro e w2 ⟨rfl, hB2⟩; have hB := below_up hB hB2)) | (go_at_call 16; (with_reducible refine (HSho.out _ _ _ (HR.out.keep hB)).mono ?_); rintro e w3 ⟨rfl, hB2⟩; have hB := below_up hB hB2))
            all_goals
              go_ret
              exact ⟨ret_bool (by simp), hB⟩
        · clear hq1 hq2 q c3 p4 p3
          go_enter Tryd.func4, Tryd.ntmps4
          go_wp2_with (first | (go_at_call 14; refine HA.out.mono ?_; rintro e w1 ⟨rfl, hB⟩) | (go_at_call 15; first | ((with_reducible refine (HRa.out _ (HR.out.keep hB)).mono ?_); rintro e w2 ⟨rfl, hB2⟩; have hB := below_up hB hB2) | ((with_reducible refine (HRb.out _ (HR.out.keep hB)).mono ?_); rintro e w2 ⟨rfl, hB2⟩; have hB := below_up hB hB2) | ((with_reducible refine (HRs.out _ (HR.out.keep hB)).mono ?_); rintro e w2 ⟨rfl, hB2⟩; have hB := below_up hB hB2) | ((with_reducible refine (HRt.out _ (HR.out.keep hB)).mono ?_); rintro e w2 ⟨rfl, hB2⟩; have hB := below_up hB hB2)) | (go_at_call 16; (with_reducible refine (HSho.out _ _ _ (HR.out.keep hB)).mono ?_); rintro e w3 ⟨rfl, hB2⟩; have hB := below_up hB hB2))
          all_goals
            go_ret
            exact ⟨ret_bool (by simp), hB⟩
    · have v0 := hq1 q
      have q' : (qe == 0) = false := by simpa using q
      subst v0
      clear hq1 hq2 q
      go_enter Tryd.func4, Tryd.ntmps4
      go_wp2_with (first | (go_at_call 14; refine HA.out.mono ?_; rintro e w1 ⟨rfl, hB⟩) | (go_at_call 15; first | ((with_reducible refine (HRa.out _ (HR.out.keep hB)).mono ?_); rintro e w2 ⟨rfl, hB2⟩; have hB := below_up hB hB2) | ((with_reducible refine (HRb.out _ (HR.out.keep hB)).mono ?_); rintro e w2 ⟨rfl, hB2⟩; have hB := below_up hB hB2) | ((with_reducible refine (HRs.out _ (HR.out.keep hB)).mono ?_); rintro e w2 ⟨rfl, hB2⟩; have hB := below_up hB hB2) | ((with_reducible refine (HRt.out _ (HR.out.keep hB)).mono ?_); rintro e w2 ⟨rfl, hB2⟩; have hB := below_up hB hB2)) | (go_at_call 16; (with_reducible refine (HSho.out _ _ _ (HR.out.keep hB)).mono ?_); rintro e w3 ⟨rfl, hB2⟩; have hB := below_up hB hB2))
      all_goals
        go_ret
        exact ⟨ret_bool (by simp), hB⟩
end Go.Proofs.YthldlffkgafgaaaDoor
