/- The law WhenClocks, walked. -/
import Derived.Test.YtdhfhcpgjokhlaaShows
namespace Go.Proofs.Ytdhfhcpgjokhlaa
open Go.RowKit Go.Sort Go.Shelf
set_option linter.unusedVariables false
set_option maxRecDepth 100000 in
set_option maxHeartbeats 8000000 in
theorem whenClocks_walk (a : Option Addr) (n ca : Nat) (S T : Nat → Int) (w : World) (hr : Row2 w a n (fun i => .int .i64 (S i)) (fun i => .int .i64 (T i))) (s m : Int) (hn : n ≤ 9223372036854775807) :
    Calls Try.prog 6 #[.slice a n ca, .int .i64 s, .int .i64 m] w fun e w' => e = .returned (.bool true) ∧ Below w.heap.size w w' := by
  have HR := Lib.hid hr
  have HE := Lib.hid (clockError_is a n ca S T w hr hn)
  have HCk := Lib.hid (fun W hr => checkClock_is a n ca S T W hr hn)
  by_cases h0 : Ck.err S T n = 0
  · have hR := Ck.right_of h0
    rw [h0] at HE HCk
    by_cases s1 : Ev.mom s = true
    · have hsb := (Ev.mom_iff _).1 s1
      obtain ⟨r, hr'⟩ : ∃ r, Ck.rep S T n s = r := ⟨_, rfl⟩
      have HRep := Lib.hid (fun W hr => repair_ok a n ca S T W hr s r (by unfold errAt; rw [if_pos h0, if_pos s1]) hR hsb hr')
      have HMe := Lib.hid (fun W hr => meant_is a n ca S T W hr s hsb hR)
      rw [hr'] at HMe
      clear s1 hr' hr
      by_cases r1 : Ev.mom r = true
      · have hrb := (Ev.mom_iff _).1 r1
        rw [if_pos r1, if_pos r1] at HRep
        clear r1
        -- the four cases of the moment
        by_cases m1 : Ev.mom m = true
        · have hmb := (Ev.mom_iff _).1 m1
          obtain ⟨N, hN⟩ := secs_ex hR m
          have hNlo := hN.lo
          have hNhi := hN.hi
          have HSho := Lib.hid (fun W hr => shows_ok a n ca S T W hr m N (by unfold errAt; rw [if_pos h0, if_pos m1]) hR hN)
          have HSA := Lib.hid (fun W hr => shownAt_is a n ca S T W hr m N hR hN)
          clear m1 hN
          by_cases n0 : N = 0
          · rw [if_pos n0, if_pos n0] at HSho
            have n1 : N - 1 < 0 := by omega
            clear n0
            go_enter Try.func6, Try.ntmps6
            go_wp2_with (first | (go_at_call 20; refine HE.out.mono ?_; rintro e w1 ⟨rfl, hB⟩) | (go_at_call 21; refine (HRep.out _ (HR.out.keep hB)).mono ?_; rintro e w2 ⟨rfl, hB2⟩; have hB := below_up hB hB2) | (go_at_call 22; refine (HSho.out _ (HR.out.keep hB)).mono ?_; rintro e w3 ⟨rfl, hB2⟩; have hB := below_up hB hB2) | (go_at_call 23; refine (HCk.out _ (HR.out.keep hB)).mono ?_; rintro e w4 ⟨rfl, hB2⟩; have hB := below_up hB hB2) | (go_at_call 24; refine (HMe.out _ (HR.out.keep hB)).mono ?_; rintro e w5 ⟨rfl, hB2⟩; have hB := below_up hB hB2) | (go_at_call 25; refine (HSA.out _ (HR.out.keep hB)).mono ?_; rintro e w6 ⟨rfl, hB2⟩; have hB := below_up hB hB2))
            all_goals
              go_ret
              exact ⟨ret_bool (by simp), hB⟩
          · rw [if_neg n0, if_neg n0] at HSho
            have n1 : 0 ≤ N - 1 := by omega
            go_enter Try.func6, Try.ntmps6
            go_wp2_with (first | (go_at_call 20; refine HE.out.mono ?_; rintro e w1 ⟨rfl, hB⟩) | (go_at_call 21; refine (HRep.out _ (HR.out.keep hB)).mono ?_; rintro e w2 ⟨rfl, hB2⟩; have hB := below_up hB hB2) | (go_at_call 22; refine (HSho.out _ (HR.out.keep hB)).mono ?_; rintro e w3 ⟨rfl, hB2⟩; have hB := below_up hB hB2) | (go_at_call 23; refine (HCk.out _ (HR.out.keep hB)).mono ?_; rintro e w4 ⟨rfl, hB2⟩; have hB := below_up hB hB2) | (go_at_call 24; refine (HMe.out _ (HR.out.keep hB)).mono ?_; rintro e w5 ⟨rfl, hB2⟩; have hB := below_up hB hB2) | (go_at_call 25; refine (HSA.out _ (HR.out.keep hB)).mono ?_; rintro e w6 ⟨rfl, hB2⟩; have hB := below_up hB hB2))
            all_goals
              go_ret
              exact ⟨ret_bool (by simp), hB⟩
        · have m2 : Ev.mom m = false := by simpa using m1
          have hmb := (Ev.mom_no _).1 m2
          have HSho := Lib.hid (fun W hr => shows_err a n ca S T W hr m (by omega) 2 (by unfold errAt; rw [if_pos h0, if_neg m1]) (by omega))
          clear m1 m2
          by_cases m3 : m < 0
          · clear hmb
            go_enter Try.func6, Try.ntmps6
            go_wp2_with (first | (go_at_call 20; refine HE.out.mono ?_; rintro e w1 ⟨rfl, hB⟩) | (go_at_call 21; refine (HRep.out _ (HR.out.keep hB)).mono ?_; rintro e w2 ⟨rfl, hB2⟩; have hB := below_up hB hB2) | (go_at_call 22; refine (HSho.out _ (HR.out.keep hB)).mono ?_; rintro e w3 ⟨rfl, hB2⟩; have hB := below_up hB hB2) | (go_at_call 23; refine (HCk.out _ (HR.out.keep hB)).mono ?_; rintro e w4 ⟨rfl, hB2⟩; have hB := below_up hB hB2) | (go_at_call 24; refine (HMe.out _ (HR.out.keep hB)).mono ?_; rintro e w5 ⟨rfl, hB2⟩; have hB := below_up hB hB2) | (go_at_call 25; refine (HSA.out _ (HR.out.keep hB)).mono ?_; rintro e w6 ⟨rfl, hB2⟩; have hB := below_up hB hB2))
            all_goals
              go_ret
              exact ⟨ret_bool (by simp), hB⟩
          · have m4 : 6311433599 < m := by omega
            clear hmb
            go_enter Try.func6, Try.ntmps6
            go_wp2_with (first | (go_at_call 20; refine HE.out.mono ?_; rintro e w1 ⟨rfl, hB⟩) | (go_at_call 21; refine (HRep.out _ (HR.out.keep hB)).mono ?_; rintro e w2 ⟨rfl, hB2⟩; have hB := below_up hB hB2) | (go_at_call 22; refine (HSho.out _ (HR.out.keep hB)).mono ?_; rintro e w3 ⟨rfl, hB2⟩; have hB := below_up hB hB2) | (go_at_call 23; refine (HCk.out _ (HR.out.keep hB)).mono ?_; rintro e w4 ⟨rfl, hB2⟩; have hB := below_up hB hB2) | (go_at_call 24; refine (HMe.out _ (HR.out.keep hB)).mono ?_; rintro e w5 ⟨rfl, hB2⟩; have hB := below_up hB hB2) | (go_at_call 25; refine (HSA.out _ (HR.out.keep hB)).mono ?_; rintro e w6 ⟨rfl, hB2⟩; have hB := below_up hB hB2))
            all_goals
              go_ret
              exact ⟨ret_bool (by simp), hB⟩
      · have r2 : Ev.mom r = false := by simpa using r1
        have hrb := (Ev.mom_no _).1 r2
        rw [if_neg r1, if_neg r1] at HRep
        clear r1 r2
        by_cases r3 : r < 0
        · clear hrb
          -- the four cases of the moment
          by_cases m1 : Ev.mom m = true
          · have hmb := (Ev.mom_iff _).1 m1
            obtain ⟨N, hN⟩ := secs_ex hR m
            have hNlo := hN.lo
            have hNhi := hN.hi
            have HSho := Lib.hid (fun W hr => shows_ok a n ca S T W hr m N (by unfold errAt; rw [if_pos h0, if_pos m1]) hR hN)
            have HSA := Lib.hid (fun W hr => shownAt_is a n ca S T W hr m N hR hN)
            clear m1 hN
            by_cases n0 : N = 0
            · rw [if_pos n0, if_pos n0] at HSho
              have n1 : N - 1 < 0 := by omega
              clear n0
              go_enter Try.func6, Try.ntmps6
              go_wp2_with (first | (go_at_call 20; refine HE.out.mono ?_; rintro e w1 ⟨rfl, hB⟩) | (go_at_call 21; refine (HRep.out _ (HR.out.keep hB)).mono ?_; rintro e w2 ⟨rfl, hB2⟩; have hB := below_up hB hB2) | (go_at_call 22; refine (HSho.out _ (HR.out.keep hB)).mono ?_; rintro e w3 ⟨rfl, hB2⟩; have hB := below_up hB hB2) | (go_at_call 23; refine (HCk.out _ (HR.out.keep hB)).mono ?_; rintro e w4 ⟨rfl, hB2⟩; have hB := below_up hB hB2) | (go_at_call 24; refine (HMe.out _ (HR.out.keep hB)).mono ?_; rintro e w5 ⟨rfl, hB2⟩; have hB := below_up hB hB2) | (go_at_call 25; refine (HSA.out _ (HR.out.keep hB)).mono ?_; rintro e w6 ⟨rfl, hB2⟩; have hB := below_up hB hB2))
              all_goals
                go_ret
                exact ⟨ret_bool (by simp), hB⟩
            · rw [if_neg n0, if_neg n0] at HSho
              have n1 : 0 ≤ N - 1 := by omega
              go_enter Try.func6, Try.ntmps6
              go_wp2_with (first | (go_at_call 20; refine HE.out.mono ?_; rintro e w1 ⟨rfl, hB⟩) | (go_at_call 21; refine (HRep.out _ (HR.out.keep hB)).mono ?_; rintro e w2 ⟨rfl, hB2⟩; have hB := below_up hB hB2) | (go_at_call 22; refine (HSho.out _ (HR.out.keep hB)).mono ?_; rintro e w3 ⟨rfl, hB2⟩; have hB := below_up hB hB2) | (go_at_call 23; refine (HCk.out _ (HR.out.keep hB)).mono ?_; rintro e w4 ⟨rfl, hB2⟩; have hB := below_up hB hB2) | (go_at_call 24; refine (HMe.out _ (HR.out.keep hB)).mono ?_; rintro e w5 ⟨rfl, hB2⟩; have hB := below_up hB hB2) | (go_at_call 25; refine (HSA.out _ (HR.out.keep hB)).mono ?_; rintro e w6 ⟨rfl, hB2⟩; have hB := below_up hB hB2))
              all_goals
                go_ret
                exact ⟨ret_bool (by simp), hB⟩
          · have m2 : Ev.mom m = false := by simpa using m1
            have hmb := (Ev.mom_no _).1 m2
            have HSho := Lib.hid (fun W hr => shows_err a n ca S T W hr m (by omega) 2 (by unfold errAt; rw [if_pos h0, if_neg m1]) (by omega))
            clear m1 m2
            by_cases m3 : m < 0
            · clear hmb
              go_enter Try.func6, Try.ntmps6
              go_wp2_with (first | (go_at_call 20; refine HE.out.mono ?_; rintro e w1 ⟨rfl, hB⟩) | (go_at_call 21; refine (HRep.out _ (HR.out.keep hB)).mono ?_; rintro e w2 ⟨rfl, hB2⟩; have hB := below_up hB hB2) | (go_at_call 22; refine (HSho.out _ (HR.out.keep hB)).mono ?_; rintro e w3 ⟨rfl, hB2⟩; have hB := below_up hB hB2) | (go_at_call 23; refine (HCk.out _ (HR.out.keep hB)).mono ?_; rintro e w4 ⟨rfl, hB2⟩; have hB := below_up hB hB2) | (go_at_call 24; refine (HMe.out _ (HR.out.keep hB)).mono ?_; rintro e w5 ⟨rfl, hB2⟩; have hB := below_up hB hB2) | (go_at_call 25; refine (HSA.out _ (HR.out.keep hB)).mono ?_; rintro e w6 ⟨rfl, hB2⟩; have hB := below_up hB hB2))
              all_goals
                go_ret
                exact ⟨ret_bool (by simp), hB⟩
            · have m4 : 6311433599 < m := by omega
              clear hmb
              go_enter Try.func6, Try.ntmps6
              go_wp2_with (first | (go_at_call 20; refine HE.out.mono ?_; rintro e w1 ⟨rfl, hB⟩) | (go_at_call 21; refine (HRep.out _ (HR.out.keep hB)).mono ?_; rintro e w2 ⟨rfl, hB2⟩; have hB := below_up hB hB2) | (go_at_call 22; refine (HSho.out _ (HR.out.keep hB)).mono ?_; rintro e w3 ⟨rfl, hB2⟩; have hB := below_up hB hB2) | (go_at_call 23; refine (HCk.out _ (HR.out.keep hB)).mono ?_; rintro e w4 ⟨rfl, hB2⟩; have hB := below_up hB hB2) | (go_at_call 24; refine (HMe.out _ (HR.out.keep hB)).mono ?_; rintro e w5 ⟨rfl, hB2⟩; have hB := below_up hB hB2) | (go_at_call 25; refine (HSA.out _ (HR.out.keep hB)).mono ?_; rintro e w6 ⟨rfl, hB2⟩; have hB := below_up hB hB2))
              all_goals
                go_ret
                exact ⟨ret_bool (by simp), hB⟩
        · have r4 : 6311433599 < r := by omega
          clear hrb
          -- the four cases of the moment
          by_cases m1 : Ev.mom m = true
          · have hmb := (Ev.mom_iff _).1 m1
            obtain ⟨N, hN⟩ := secs_ex hR m
            have hNlo := hN.lo
            have hNhi := hN.hi
            have HSho := Lib.hid (fun W hr => shows_ok a n ca S T W hr m N (by unfold errAt; rw [if_pos h0, if_pos m1]) hR hN)
            have HSA := Lib.hid (fun W hr => shownAt_is a n ca S T W hr m N hR hN)
            clear m1 hN
            by_cases n0 : N = 0
            · rw [if_pos n0, if_pos n0] at HSho
              have n1 : N - 1 < 0 := by omega
              clear n0
              go_enter Try.func6, Try.ntmps6
              go_wp2_with (first | (go_at_call 20; refine HE.out.mono ?_; rintro e w1 ⟨rfl, hB⟩) | (go_at_call 21; refine (HRep.out _ (HR.out.keep hB)).mono ?_; rintro e w2 ⟨rfl, hB2⟩; have hB := below_up hB hB2) | (go_at_call 22; refine (HSho.out _ (HR.out.keep hB)).mono ?_; rintro e w3 ⟨rfl, hB2⟩; have hB := below_up hB hB2) | (go_at_call 23; refine (HCk.out _ (HR.out.keep hB)).mono ?_; rintro e w4 ⟨rfl, hB2⟩; have hB := below_up hB hB2) | (go_at_call 24; refine (HMe.out _ (HR.out.keep hB)).mono ?_; rintro e w5 ⟨rfl, hB2⟩; have hB := below_up hB hB2) | (go_at_call 25; refine (HSA.out _ (HR.out.keep hB)).mono ?_; rintro e w6 ⟨rfl, hB2⟩; have hB := below_up hB hB2))
              all_goals
                go_ret
                exact ⟨ret_bool (by simp), hB⟩
            · rw [if_neg n0, if_neg n0] at HSho
              have n1 : 0 ≤ N - 1 := by omega
              go_enter Try.func6, Try.ntmps6
              go_wp2_with (first | (go_at_call 20; refine HE.out.mono ?_; rintro e w1 ⟨rfl, hB⟩) | (go_at_call 21; refine (HRep.out _ (HR.out.keep hB)).mono ?_; rintro e w2 ⟨rfl, hB2⟩; have hB := below_up hB hB2) | (go_at_call 22; refine (HSho.out _ (HR.out.keep hB)).mono ?_; rintro e w3 ⟨rfl, hB2⟩; have hB := below_up hB hB2) | (go_at_call 23; refine (HCk.out _ (HR.out.keep hB)).mono ?_; rintro e w4 ⟨rfl, hB2⟩; have hB := below_up hB hB2) | (go_at_call 24; refine (HMe.out _ (HR.out.keep hB)).mono ?_; rintro e w5 ⟨rfl, hB2⟩; have hB := below_up hB hB2) | (go_at_call 25; refine (HSA.out _ (HR.out.keep hB)).mono ?_; rintro e w6 ⟨rfl, hB2⟩; have hB := below_up hB hB2))
              all_goals
                go_ret
                exact ⟨ret_bool (by simp), hB⟩
          · have m2 : Ev.mom m = false := by simpa using m1
            have hmb := (Ev.mom_no _).1 m2
            have HSho := Lib.hid (fun W hr => shows_err a n ca S T W hr m (by omega) 2 (by unfold errAt; rw [if_pos h0, if_neg m1]) (by omega))
            clear m1 m2
            by_cases m3 : m < 0
            · clear hmb
              go_enter Try.func6, Try.ntmps6
              go_wp2_with (first | (go_at_call 20; refine HE.out.mono ?_; rintro e w1 ⟨rfl, hB⟩) | (go_at_call 21; refine (HRep.out _ (HR.out.keep hB)).mono ?_; rintro e w2 ⟨rfl, hB2⟩; have hB := below_up hB hB2) | (go_at_call 22; refine (HSho.out _ (HR.out.keep hB)).mono ?_; rintro e w3 ⟨rfl, hB2⟩; have hB := below_up hB hB2) | (go_at_call 23; refine (HCk.out _ (HR.out.keep hB)).mono ?_; rintro e w4 ⟨rfl, hB2⟩; have hB := below_up hB hB2) | (go_at_call 24; refine (HMe.out _ (HR.out.keep hB)).mono ?_; rintro e w5 ⟨rfl, hB2⟩; have hB := below_up hB hB2) | (go_at_call 25; refine (HSA.out _ (HR.out.keep hB)).mono ?_; rintro e w6 ⟨rfl, hB2⟩; have hB := below_up hB hB2))
              all_goals
                go_ret
                exact ⟨ret_bool (by simp), hB⟩
            · have m4 : 6311433599 < m := by omega
              clear hmb
              go_enter Try.func6, Try.ntmps6
              go_wp2_with (first | (go_at_call 20; refine HE.out.mono ?_; rintro e w1 ⟨rfl, hB⟩) | (go_at_call 21; refine (HRep.out _ (HR.out.keep hB)).mono ?_; rintro e w2 ⟨rfl, hB2⟩; have hB := below_up hB hB2) | (go_at_call 22; refine (HSho.out _ (HR.out.keep hB)).mono ?_; rintro e w3 ⟨rfl, hB2⟩; have hB := below_up hB hB2) | (go_at_call 23; refine (HCk.out _ (HR.out.keep hB)).mono ?_; rintro e w4 ⟨rfl, hB2⟩; have hB := below_up hB hB2) | (go_at_call 24; refine (HMe.out _ (HR.out.keep hB)).mono ?_; rintro e w5 ⟨rfl, hB2⟩; have hB := below_up hB hB2) | (go_at_call 25; refine (HSA.out _ (HR.out.keep hB)).mono ?_; rintro e w6 ⟨rfl, hB2⟩; have hB := below_up hB hB2))
              all_goals
                go_ret
                exact ⟨ret_bool (by simp), hB⟩
    · have s2 : Ev.mom s = false := by simpa using s1
      have hsb := (Ev.mom_no _).1 s2
      have HRep := Lib.hid (fun W hr => repair_err a n ca S T W hr s (by omega) 2 (by unfold errAt; rw [if_pos h0, if_neg s1]) (by omega))
      clear s1 s2 hr
      by_cases s3 : s < 0
      · clear hsb
        -- the four cases of the moment
        by_cases m1 : Ev.mom m = true
        · have hmb := (Ev.mom_iff _).1 m1
          obtain ⟨N, hN⟩ := secs_ex hR m
          have hNlo := hN.lo
          have hNhi := hN.hi
          have HSho := Lib.hid (fun W hr => shows_ok a n ca S T W hr m N (by unfold errAt; rw [if_pos h0, if_pos m1]) hR hN)
          have HSA := Lib.hid (fun W hr => shownAt_is a n ca S T W hr m N hR hN)
          clear m1 hN
          by_cases n0 : N = 0
          · rw [if_pos n0, if_pos n0] at HSho
            have n1 : N - 1 < 0 := by omega
            clear n0
            go_enter Try.func6, Try.ntmps6
            go_wp2_with (first | (go_at_call 20; refine HE.out.mono ?_; rintro e w1 ⟨rfl, hB⟩) | (go_at_call 21; refine (HRep.out _ (HR.out.keep hB)).mono ?_; rintro e w2 ⟨rfl, hB2⟩; have hB := below_up hB hB2) | (go_at_call 22; refine (HSho.out _ (HR.out.keep hB)).mono ?_; rintro e w3 ⟨rfl, hB2⟩; have hB := below_up hB hB2) | (go_at_call 23; refine (HCk.out _ (HR.out.keep hB)).mono ?_; rintro e w4 ⟨rfl, hB2⟩; have hB := below_up hB hB2) | (go_at_call 24; refine (HMe.out _ (HR.out.keep hB)).mono ?_; rintro e w5 ⟨rfl, hB2⟩; have hB := below_up hB hB2) | (go_at_call 25; refine (HSA.out _ (HR.out.keep hB)).mono ?_; rintro e w6 ⟨rfl, hB2⟩; have hB := below_up hB hB2))
            all_goals
              go_ret
              exact ⟨ret_bool (by simp), hB⟩
          · rw [if_neg n0, if_neg n0] at HSho
            have n1 : 0 ≤ N - 1 := by omega
            go_enter Try.func6, Try.ntmps6
            go_wp2_with (first | (go_at_call 20; refine HE.out.mono ?_; rintro e w1 ⟨rfl, hB⟩) | (go_at_call 21; refine (HRep.out _ (HR.out.keep hB)).mono ?_; rintro e w2 ⟨rfl, hB2⟩; have hB := below_up hB hB2) | (go_at_call 22; refine (HSho.out _ (HR.out.keep hB)).mono ?_; rintro e w3 ⟨rfl, hB2⟩; have hB := below_up hB hB2) | (go_at_call 23; refine (HCk.out _ (HR.out.keep hB)).mono ?_; rintro e w4 ⟨rfl, hB2⟩; have hB := below_up hB hB2) | (go_at_call 24; refine (HMe.out _ (HR.out.keep hB)).mono ?_; rintro e w5 ⟨rfl, hB2⟩; have hB := below_up hB hB2) | (go_at_call 25; refine (HSA.out _ (HR.out.keep hB)).mono ?_; rintro e w6 ⟨rfl, hB2⟩; have hB := below_up hB hB2))
            all_goals
              go_ret
              exact ⟨ret_bool (by simp), hB⟩
        · have m2 : Ev.mom m = false := by simpa using m1
          have hmb := (Ev.mom_no _).1 m2
          have HSho := Lib.hid (fun W hr => shows_err a n ca S T W hr m (by omega) 2 (by unfold errAt; rw [if_pos h0, if_neg m1]) (by omega))
          clear m1 m2
          by_cases m3 : m < 0
          · clear hmb
            go_enter Try.func6, Try.ntmps6
            go_wp2_with (first | (go_at_call 20; refine HE.out.mono ?_; rintro e w1 ⟨rfl, hB⟩) | (go_at_call 21; refine (HRep.out _ (HR.out.keep hB)).mono ?_; rintro e w2 ⟨rfl, hB2⟩; have hB := below_up hB hB2) | (go_at_call 22; refine (HSho.out _ (HR.out.keep hB)).mono ?_; rintro e w3 ⟨rfl, hB2⟩; have hB := below_up hB hB2) | (go_at_call 23; refine (HCk.out _ (HR.out.keep hB)).mono ?_; rintro e w4 ⟨rfl, hB2⟩; have hB := below_up hB hB2) | (go_at_call 24; refine (HMe.out _ (HR.out.keep hB)).mono ?_; rintro e w5 ⟨rfl, hB2⟩; have hB := below_up hB hB2) | (go_at_call 25; refine (HSA.out _ (HR.out.keep hB)).mono ?_; rintro e w6 ⟨rfl, hB2⟩; have hB := below_up hB hB2))
            all_goals
              go_ret
              exact ⟨ret_bool (by simp), hB⟩
          · have m4 : 6311433599 < m := by omega
            clear hmb
            go_enter Try.func6, Try.ntmps6
            go_wp2_with (first | (go_at_call 20; refine HE.out.mono ?_; rintro e w1 ⟨rfl, hB⟩) | (go_at_call 21; refine (HRep.out _ (HR.out.keep hB)).mono ?_; rintro e w2 ⟨rfl, hB2⟩; have hB := below_up hB hB2) | (go_at_call 22; refine (HSho.out _ (HR.out.keep hB)).mono ?_; rintro e w3 ⟨rfl, hB2⟩; have hB := below_up hB hB2) | (go_at_call 23; refine (HCk.out _ (HR.out.keep hB)).mono ?_; rintro e w4 ⟨rfl, hB2⟩; have hB := below_up hB hB2) | (go_at_call 24; refine (HMe.out _ (HR.out.keep hB)).mono ?_; rintro e w5 ⟨rfl, hB2⟩; have hB := below_up hB hB2) | (go_at_call 25; refine (HSA.out _ (HR.out.keep hB)).mono ?_; rintro e w6 ⟨rfl, hB2⟩; have hB := below_up hB hB2))
            all_goals
              go_ret
              exact ⟨ret_bool (by simp), hB⟩
      · have s4 : 6311433599 < s := by omega
        clear hsb
        -- the four cases of the moment
        by_cases m1 : Ev.mom m = true
        · have hmb := (Ev.mom_iff _).1 m1
          obtain ⟨N, hN⟩ := secs_ex hR m
          have hNlo := hN.lo
          have hNhi := hN.hi
          have HSho := Lib.hid (fun W hr => shows_ok a n ca S T W hr m N (by unfold errAt; rw [if_pos h0, if_pos m1]) hR hN)
          have HSA := Lib.hid (fun W hr => shownAt_is a n ca S T W hr m N hR hN)
          clear m1 hN
          by_cases n0 : N = 0
          · rw [if_pos n0, if_pos n0] at HSho
            have n1 : N - 1 < 0 := by omega
            clear n0
            go_enter Try.func6, Try.ntmps6
            go_wp2_with (first | (go_at_call 20; refine HE.out.mono ?_; rintro e w1 ⟨rfl, hB⟩) | (go_at_call 21; refine (HRep.out _ (HR.out.keep hB)).mono ?_; rintro e w2 ⟨rfl, hB2⟩; have hB := below_up hB hB2) | (go_at_call 22; refine (HSho.out _ (HR.out.keep hB)).mono ?_; rintro e w3 ⟨rfl, hB2⟩; have hB := below_up hB hB2) | (go_at_call 23; refine (HCk.out _ (HR.out.keep hB)).mono ?_; rintro e w4 ⟨rfl, hB2⟩; have hB := below_up hB hB2) | (go_at_call 24; refine (HMe.out _ (HR.out.keep hB)).mono ?_; rintro e w5 ⟨rfl, hB2⟩; have hB := below_up hB hB2) | (go_at_call 25; refine (HSA.out _ (HR.out.keep hB)).mono ?_; rintro e w6 ⟨rfl, hB2⟩; have hB := below_up hB hB2))
            all_goals
              go_ret
              exact ⟨ret_bool (by simp), hB⟩
          · rw [if_neg n0, if_neg n0] at HSho
            have n1 : 0 ≤ N - 1 := by omega
            go_enter Try.func6, Try.ntmps6
            go_wp2_with (first | (go_at_call 20; refine HE.out.mono ?_; rintro e w1 ⟨rfl, hB⟩) | (go_at_call 21; refine (HRep.out _ (HR.out.keep hB)).mono ?_; rintro e w2 ⟨rfl, hB2⟩; have hB := below_up hB hB2) | (go_at_call 22; refine (HSho.out _ (HR.out.keep hB)).mono ?_; rintro e w3 ⟨rfl, hB2⟩; have hB := below_up hB hB2) | (go_at_call 23; refine (HCk.out _ (HR.out.keep hB)).mono ?_; rintro e w4 ⟨rfl, hB2⟩; have hB := below_up hB hB2) | (go_at_call 24; refine (HMe.out _ (HR.out.keep hB)).mono ?_; rintro e w5 ⟨rfl, hB2⟩; have hB := below_up hB hB2) | (go_at_call 25; refine (HSA.out _ (HR.out.keep hB)).mono ?_; rintro e w6 ⟨rfl, hB2⟩; have hB := below_up hB hB2))
            all_goals
              go_ret
              exact ⟨ret_bool (by simp), hB⟩
        · have m2 : Ev.mom m = false := by simpa using m1
          have hmb := (Ev.mom_no _).1 m2
          have HSho := Lib.hid (fun W hr => shows_err a n ca S T W hr m (by omega) 2 (by unfold errAt; rw [if_pos h0, if_neg m1]) (by omega))
          clear m1 m2
          by_cases m3 : m < 0
          · clear hmb
            go_enter Try.func6, Try.ntmps6
            go_wp2_with (first | (go_at_call 20; refine HE.out.mono ?_; rintro e w1 ⟨rfl, hB⟩) | (go_at_call 21; refine (HRep.out _ (HR.out.keep hB)).mono ?_; rintro e w2 ⟨rfl, hB2⟩; have hB := below_up hB hB2) | (go_at_call 22; refine (HSho.out _ (HR.out.keep hB)).mono ?_; rintro e w3 ⟨rfl, hB2⟩; have hB := below_up hB hB2) | (go_at_call 23; refine (HCk.out _ (HR.out.keep hB)).mono ?_; rintro e w4 ⟨rfl, hB2⟩; have hB := below_up hB hB2) | (go_at_call 24; refine (HMe.out _ (HR.out.keep hB)).mono ?_; rintro e w5 ⟨rfl, hB2⟩; have hB := below_up hB hB2) | (go_at_call 25; refine (HSA.out _ (HR.out.keep hB)).mono ?_; rintro e w6 ⟨rfl, hB2⟩; have hB := below_up hB hB2))
            all_goals
              go_ret
              exact ⟨ret_bool (by simp), hB⟩
          · have m4 : 6311433599 < m := by omega
            clear hmb
            go_enter Try.func6, Try.ntmps6
            go_wp2_with (first | (go_at_call 20; refine HE.out.mono ?_; rintro e w1 ⟨rfl, hB⟩) | (go_at_call 21; refine (HRep.out _ (HR.out.keep hB)).mono ?_; rintro e w2 ⟨rfl, hB2⟩; have hB := below_up hB hB2) | (go_at_call 22; refine (HSho.out _ (HR.out.keep hB)).mono ?_; rintro e w3 ⟨rfl, hB2⟩; have hB := below_up hB hB2) | (go_at_call 23; refine (HCk.out _ (HR.out.keep hB)).mono ?_; rintro e w4 ⟨rfl, hB2⟩; have hB := below_up hB hB2) | (go_at_call 24; refine (HMe.out _ (HR.out.keep hB)).mono ?_; rintro e w5 ⟨rfl, hB2⟩; have hB := below_up hB hB2) | (go_at_call 25; refine (HSA.out _ (HR.out.keep hB)).mono ?_; rintro e w6 ⟨rfl, hB2⟩; have hB := below_up hB hB2))
            all_goals
              go_ret
              exact ⟨ret_bool (by simp), hB⟩
  · have e1 : errAt S T n s = Ck.err S T n := by unfold errAt; rw [if_neg h0]
    have e2 : errAt S T n m = Ck.err S T n := by unfold errAt; rw [if_neg h0]
    have HRep := Lib.hid (fun W hr => repair_err a n ca S T W hr s hn _ e1 h0)
    have HSho := Lib.hid (fun W hr => shows_err a n ca S T W hr m hn _ e2 h0)
    generalize Ck.err S T n = q at h0 HE HCk HRep HSho e1 e2
    have hq : (q == 0) = false := by simpa using h0
    clear h0 e1 e2 hr
    go_enter Try.func6, Try.ntmps6
    go_wp2_with (first | (go_at_call 20; refine HE.out.mono ?_; rintro e w1 ⟨rfl, hB⟩) | (go_at_call 21; refine (HRep.out _ (HR.out.keep hB)).mono ?_; rintro e w2 ⟨rfl, hB2⟩; have hB := below_up hB hB2) | (go_at_call 22; refine (HSho.out _ (HR.out.keep hB)).mono ?_; rintro e w3 ⟨rfl, hB2⟩; have hB := below_up hB hB2) | (go_at_call 23; refine (HCk.out _ (HR.out.keep hB)).mono ?_; rintro e w4 ⟨rfl, hB2⟩; have hB := below_up hB hB2) | (go_at_call 24; refine (HMe.out _ (HR.out.keep hB)).mono ?_; rintro e w5 ⟨rfl, hB2⟩; have hB := below_up hB hB2) | (go_at_call 25; refine (HSA.out _ (HR.out.keep hB)).mono ?_; rintro e w6 ⟨rfl, hB2⟩; have hB := below_up hB hB2))
    all_goals
      go_ret
      exact ⟨ret_bool (by simp), hB⟩
end Go.Proofs.Ytdhfhcpgjokhlaa
