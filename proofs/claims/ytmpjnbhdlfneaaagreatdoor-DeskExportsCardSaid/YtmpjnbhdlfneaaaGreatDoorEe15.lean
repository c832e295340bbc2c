/- Parts of the proof, no condition: FdErr. -/
import Derived.Test.YtmpjnbhdlfneaaaGreatDoorEe11
import Derived.Test.YtmpjnbhdlfneaaaGreatDoorEe12
import Derived.Test.YtmpjnbhdlfneaaaGreatDoorEe13
import Derived.Test.YtmpjnbhdlfneaaaGreatDoorEe14
set_option maxRecDepth 100000
set_option maxHeartbeats 16000000
set_option linter.unusedVariables false
namespace Go.Proofs.YtmpjnbhdlfneaaaGreatDoor
open Go.RowKit Go.Sort Go.Shelf
theorem photoError_is (p : Ph) (w : World) (hI : p.In w) (hF : p.Fits) : Calls Tryz.prog 16 #[.agg #[.int .i64 p.id, .string p.file, .int .i64 p.mom, .int .i64 p.zone, .slice p.wa p.wn p.wc, .int .i64 p.W, .int .i64 p.H, .int .i64 p.turn, .int .i64 p.stars, .slice p.ta p.tn p.tc, .string p.cap, .slice p.pa p.pn p.pc, .bool p.hid]] w fun e w' => e = .returned (.int .i64 p.err) ∧ Below w.heap.size w w' := by
 have HI0 := Lib.hid hI; have HF0 := Lib.hid hF
 obtain ⟨W1, hW1, hP, hz1, hB1⟩ := box w #[.int .i64 p.id, .string p.file, .int .i64 p.mom, .int .i64 p.zone, .slice p.wa p.wn p.wc, .int .i64 p.W, .int .i64 p.H, .int .i64 p.turn, .int .i64 p.stars, .slice p.ta p.tn p.tc, .string p.cap, .slice p.pa p.pn p.pc, .bool p.hid] 41
 have HW1 := Lib.hid hW1
 clear hW1 hz1
 obtain ⟨q0, q1, q2, q3, q4, q5, q6, q7, q8, q9, q10, q11, q12⟩ := hP.photo
 have HPL := Lib.hid (hI.keep hB1).places
 have hff := hF.file
 have hbw := hF.wn
 obtain ⟨q, hq⟩ : ∃ q, p.err = q := ⟨_, rfl⟩
 rw [hq]
 unfold Ph.err at hq
 clear hI hF
 cases hcI : decide (1 ≤ p.id ∧ p.id ≤ 1000000)
 ·rw [hcI, if_neg (by simp)] at hq
  subst hq
  have HcI := Lib.hid hcI; clear hcI
  go_enter Tryz.func16, Tryz.ntmps16
  go_wp2_with fail
  rw [HW1.out]
  go_wp2_with (first
   | (go_at_call 32; (with_reducible refine (in_is p.id 1 1000000 false HcI.out _).mono ?_); rintro e w2 ⟨rfl, rfl⟩)
   | (go_at_call 33; (with_reducible refine (isDigest_is p.file hff false HcF.out _).mono ?_); rintro e w2 ⟨rfl, rfl⟩)
   | (go_at_call 32; (with_reducible refine (in_is p.mom (-1) 6311433599 false HcM.out _).mono ?_); rintro e w2 ⟨rfl, rfl⟩)
   | (go_at_call 34; (with_reducible refine (zoned_is p.zone false HcZ.out _).mono ?_); rintro e w2 ⟨rfl, rfl⟩)
   | (go_at_call 35; (with_reducible refine (moment_is (p.mom + 60 * p.zone) false HcL.out _).mono ?_); rintro e w2 ⟨rfl, rfl⟩)
   | (go_at_call 36; refine (HPB.out _).mono ?_; rintro e w5 ⟨rfl, hB5⟩))
  go_ret
  exact ⟨rfl, hB1⟩
 ·rw [hcI, if_pos rfl] at hq
  have HcI := Lib.hid hcI; clear hcI
  cases hcF : Fd.fileB p.file
  ·rw [hcF, if_neg (by simp)] at hq
   subst hq
   have HcF := Lib.hid hcF; clear hcF
   go_enter Tryz.func16, Tryz.ntmps16
   go_wp2_with fail
   rw [HW1.out]
   go_wp2_with (first
    | (go_at_call 32; (with_reducible refine (in_is p.id 1 1000000 true HcI.out _).mono ?_); rintro e w2 ⟨rfl, rfl⟩)
    | (go_at_call 33; (with_reducible refine (isDigest_is p.file hff false HcF.out _).mono ?_); rintro e w2 ⟨rfl, rfl⟩)
    | (go_at_call 32; (with_reducible refine (in_is p.mom (-1) 6311433599 false HcM.out _).mono ?_); rintro e w2 ⟨rfl, rfl⟩)
    | (go_at_call 34; (with_reducible refine (zoned_is p.zone false HcZ.out _).mono ?_); rintro e w2 ⟨rfl, rfl⟩)
    | (go_at_call 35; (with_reducible refine (moment_is (p.mom + 60 * p.zone) false HcL.out _).mono ?_); rintro e w2 ⟨rfl, rfl⟩)
    | (go_at_call 36; refine (HPB.out _).mono ?_; rintro e w5 ⟨rfl, hB5⟩))
   go_ret
   exact ⟨rfl, hB1⟩
  ·rw [hcF, if_pos rfl] at hq
   have HcF := Lib.hid hcF; clear hcF
   cases hcM : decide (-1 ≤ p.mom ∧ p.mom ≤ 6311433599)
   ·have hwh : Fd.whenB p.mom p.zone = false := decide_eq_false fun g => of_decide_eq_false hcM g.1
    rw [if_neg (by rw [hwh]; simp)] at hq
    subst hq
    have HcM := Lib.hid hcM; clear hcM hwh
    go_enter Tryz.func16, Tryz.ntmps16
    go_wp2_with fail
    rw [HW1.out]
    go_wp2_with (first
     | (go_at_call 32; (with_reducible refine (in_is p.id 1 1000000 true HcI.out _).mono ?_); rintro e w2 ⟨rfl, rfl⟩)
     | (go_at_call 33; (with_reducible refine (isDigest_is p.file hff true HcF.out _).mono ?_); rintro e w2 ⟨rfl, rfl⟩)
     | (go_at_call 32; (with_reducible refine (in_is p.mom (-1) 6311433599 false HcM.out _).mono ?_); rintro e w2 ⟨rfl, rfl⟩)
     | (go_at_call 34; (with_reducible refine (zoned_is p.zone false HcZ.out _).mono ?_); rintro e w2 ⟨rfl, rfl⟩)
     | (go_at_call 35; (with_reducible refine (moment_is (p.mom + 60 * p.zone) false HcL.out _).mono ?_); rintro e w2 ⟨rfl, rfl⟩)
     | (go_at_call 36; refine (HPB.out _).mono ?_; rintro e w5 ⟨rfl, hB5⟩))
    go_ret
    exact ⟨rfl, hB1⟩
   ·have hm1 := of_decide_eq_true hcM
    cases hcZ : Zn.zok p.zone
    ·have hwh : Fd.whenB p.mom p.zone = false := decide_eq_false fun g => by have := (Zn.zok_iff _).2 g.2.1; rw [hcZ] at this; cases this
     rw [if_neg (by rw [hwh]; simp)] at hq
     subst hq
     have HcM := Lib.hid hcM; have HcZ := Lib.hid hcZ; clear hcM hwh hcZ hm1
     go_enter Tryz.func16, Tryz.ntmps16
     go_wp2_with fail
     rw [HW1.out]
     go_wp2_with (first
      | (go_at_call 32; (with_reducible refine (in_is p.id 1 1000000 true HcI.out _).mono ?_); rintro e w2 ⟨rfl, rfl⟩)
      | (go_at_call 33; (with_reducible refine (isDigest_is p.file hff true HcF.out _).mono ?_); rintro e w2 ⟨rfl, rfl⟩)
      | (go_at_call 32; (with_reducible refine (in_is p.mom (-1) 6311433599 true HcM.out _).mono ?_); rintro e w2 ⟨rfl, rfl⟩)
      | (go_at_call 34; (with_reducible refine (zoned_is p.zone false HcZ.out _).mono ?_); rintro e w2 ⟨rfl, rfl⟩)
      | (go_at_call 35; (with_reducible refine (moment_is (p.mom + 60 * p.zone) false HcL.out _).mono ?_); rintro e w2 ⟨rfl, rfl⟩)
      | (go_at_call 36; refine (HPB.out _).mono ?_; rintro e w5 ⟨rfl, hB5⟩))
     go_ret
     exact ⟨rfl, hB1⟩
    ·have hz1 := (Zn.zok_iff _).1 hcZ
     have hm2 := hm1.2
     have hz3 := hz1.1
     have hz4 := hz1.2
     by_cases hm : 0 ≤ p.mom
     ·cases hcL : Ev.mom (p.mom + 60 * p.zone)
      ·have hwh : Fd.whenB p.mom p.zone = false := decide_eq_false fun g => by have := (Ev.mom_iff _).2 (g.2.2 hm); rw [hcL] at this; cases this
       rw [if_neg (by rw [hwh]; simp)] at hq
       subst hq
       have HcM := Lib.hid hcM; have HcZ := Lib.hid hcZ; have HcL := Lib.hid hcL; clear hcM hwh hcZ hcL hm1 hz1
       go_enter Tryz.func16, Tryz.ntmps16
       go_wp2_with fail
       rw [HW1.out]
       go_wp2_with (first
        | (go_at_call 32; (with_reducible refine (in_is p.id 1 1000000 true HcI.out _).mono ?_); rintro e w2 ⟨rfl, rfl⟩)
        | (go_at_call 33; (with_reducible refine (isDigest_is p.file hff true HcF.out _).mono ?_); rintro e w2 ⟨rfl, rfl⟩)
        | (go_at_call 32; (with_reducible refine (in_is p.mom (-1) 6311433599 true HcM.out _).mono ?_); rintro e w2 ⟨rfl, rfl⟩)
        | (go_at_call 34; (with_reducible refine (zoned_is p.zone true HcZ.out _).mono ?_); rintro e w2 ⟨rfl, rfl⟩)
        | (go_at_call 35; (with_reducible refine (moment_is (p.mom + 60 * p.zone) false HcL.out _).mono ?_); rintro e w2 ⟨rfl, rfl⟩)
        | (go_at_call 36; refine (HPB.out _).mono ?_; rintro e w5 ⟨rfl, hB5⟩))
       go_ret
       exact ⟨rfl, hB1⟩
      ·have hwh : Fd.whenB p.mom p.zone = true := decide_eq_true ⟨hm1, hz1, fun _ => (Ev.mom_iff _).1 hcL⟩
       rw [if_pos hwh] at hq
       have HcM := Lib.hid hcM; have HcZ := Lib.hid hcZ; have HcL := Lib.hid hcL; clear hcM hwh hcZ hcL hm1 hz1
       by_cases hn : 1 < p.wn
       ·rw [if_pos hn] at hq
        have hn' : (1 : Int) < (p.wn : Int) := by omega
        subst hq
        go_enter Tryz.func16, Tryz.ntmps16
        go_wp2_with fail
        rw [HW1.out]
        go_wp2_with (first
         | (go_at_call 32; (with_reducible refine (in_is p.id 1 1000000 true HcI.out _).mono ?_); rintro e w2 ⟨rfl, rfl⟩)
         | (go_at_call 33; (with_reducible refine (isDigest_is p.file hff true HcF.out _).mono ?_); rintro e w2 ⟨rfl, rfl⟩)
         | (go_at_call 32; (with_reducible refine (in_is p.mom (-1) 6311433599 true HcM.out _).mono ?_); rintro e w2 ⟨rfl, rfl⟩)
         | (go_at_call 34; (with_reducible refine (zoned_is p.zone true HcZ.out _).mono ?_); rintro e w2 ⟨rfl, rfl⟩)
         | (go_at_call 35; (with_reducible refine (moment_is (p.mom + 60 * p.zone) true HcL.out _).mono ?_); rintro e w2 ⟨rfl, rfl⟩)
         | (go_at_call 36; refine (HPB.out _).mono ?_; rintro e w5 ⟨rfl, hB5⟩))
        go_ret
        exact ⟨rfl, hB1⟩
       ·rw [if_neg hn] at hq
        by_cases hp : p.wn = 1 ∧ Fd.placeB (p.lat 0) (p.lon 0) = false
        ·rw [if_pos hp] at hq
         have hw1 : ((p.wn : Int) == 1) = true := by simp; omega
         have hw2 : ¬ (1 : Int) < (p.wn : Int) := by omega
         have hw3 : 0 < p.wn := by omega
         have HPB := Lib.hid (fun W => placed_is (p.lat 0) (p.lon 0) W false hp.2)
         subst hq
         have HP2 := Lib.hid hp; clear hp hn
         generalize p.wa = wa at *
         obtain ⟨bw, offw, rfl, hbw1, hcellw⟩ := HPL.out hw3
         obtain ⟨cw0, cw1⟩ := hcellw 0 (by have := HP2.out.1; omega)
         rw [Nat.zero_mul, Nat.add_zero] at cw0 cw1
         clear hcellw HPL
         go_enter Tryz.func16, Tryz.ntmps16
         go_wp2_with fail
         rw [HW1.out]
         go_wp2_with (first
          | (go_at_call 32; (with_reducible refine (in_is p.id 1 1000000 true HcI.out _).mono ?_); rintro e w2 ⟨rfl, rfl⟩)
          | (go_at_call 33; (with_reducible refine (isDigest_is p.file hff true HcF.out _).mono ?_); rintro e w2 ⟨rfl, rfl⟩)
          | (go_at_call 32; (with_reducible refine (in_is p.mom (-1) 6311433599 true HcM.out _).mono ?_); rintro e w2 ⟨rfl, rfl⟩)
          | (go_at_call 34; (with_reducible refine (zoned_is p.zone true HcZ.out _).mono ?_); rintro e w2 ⟨rfl, rfl⟩)
          | (go_at_call 35; (with_reducible refine (moment_is (p.mom + 60 * p.zone) true HcL.out _).mono ?_); rintro e w2 ⟨rfl, rfl⟩)
          | (go_at_call 36; refine (HPB.out _).mono ?_; rintro e w5 ⟨rfl, hB5⟩))
         go_ret
         exact ⟨rfl, below_up hB1 hB5⟩
        ·rw [if_neg hp] at hq
         subst hq
         by_cases h0 : p.wn = 0
         ·exact photoError_B p w HI0.out HF0.out HcI.out HcF.out HcM.out HcZ.out hm HcL.out h0
         ·have h1 : p.wn = 1 := by omega
          have hpl : Fd.placeB (p.lat 0) (p.lon 0) = true := by
           cases hc : Fd.placeB (p.lat 0) (p.lon 0)
           ·exact absurd ⟨h1, hc⟩ hp
           ·rfl
          exact photoError_A p w HI0.out HF0.out HcI.out HcF.out HcM.out HcZ.out hm HcL.out h1 hpl
     ·have hwh : Fd.whenB p.mom p.zone = true := decide_eq_true ⟨hm1, hz1, fun g => absurd g hm⟩
      rw [if_pos hwh] at hq
      have HcM := Lib.hid hcM; have HcZ := Lib.hid hcZ; clear hcM hwh hcZ hm1 hz1
      by_cases hn : 1 < p.wn
      ·rw [if_pos hn] at hq
       have hn' : (1 : Int) < (p.wn : Int) := by omega
       subst hq
       go_enter Tryz.func16, Tryz.ntmps16
       go_wp2_with fail
       rw [HW1.out]
       go_wp2_with (first
        | (go_at_call 32; (with_reducible refine (in_is p.id 1 1000000 true HcI.out _).mono ?_); rintro e w2 ⟨rfl, rfl⟩)
        | (go_at_call 33; (with_reducible refine (isDigest_is p.file hff true HcF.out _).mono ?_); rintro e w2 ⟨rfl, rfl⟩)
        | (go_at_call 32; (with_reducible refine (in_is p.mom (-1) 6311433599 true HcM.out _).mono ?_); rintro e w2 ⟨rfl, rfl⟩)
        | (go_at_call 34; (with_reducible refine (zoned_is p.zone true HcZ.out _).mono ?_); rintro e w2 ⟨rfl, rfl⟩)
        | (go_at_call 35; (with_reducible refine (moment_is (p.mom + 60 * p.zone) true HcL.out _).mono ?_); rintro e w2 ⟨rfl, rfl⟩)
        | (go_at_call 36; refine (HPB.out _).mono ?_; rintro e w5 ⟨rfl, hB5⟩))
       go_ret
       exact ⟨rfl, hB1⟩
      ·rw [if_neg hn] at hq
       by_cases hp : p.wn = 1 ∧ Fd.placeB (p.lat 0) (p.lon 0) = false
       ·rw [if_pos hp] at hq
        have hw1 : ((p.wn : Int) == 1) = true := by simp; omega
        have hw2 : ¬ (1 : Int) < (p.wn : Int) := by omega
        have hw3 : 0 < p.wn := by omega
        have HPB := Lib.hid (fun W => placed_is (p.lat 0) (p.lon 0) W false hp.2)
        subst hq
        have HP2 := Lib.hid hp; clear hp hn
        generalize p.wa = wa at *
        obtain ⟨bw, offw, rfl, hbw1, hcellw⟩ := HPL.out hw3
        obtain ⟨cw0, cw1⟩ := hcellw 0 (by have := HP2.out.1; omega)
        rw [Nat.zero_mul, Nat.add_zero] at cw0 cw1
        clear hcellw HPL
        go_enter Tryz.func16, Tryz.ntmps16
        go_wp2_with fail
        rw [HW1.out]
        go_wp2_with (first
         | (go_at_call 32; (with_reducible refine (in_is p.id 1 1000000 true HcI.out _).mono ?_); rintro e w2 ⟨rfl, rfl⟩)
         | (go_at_call 33; (with_reducible refine (isDigest_is p.file hff true HcF.out _).mono ?_); rintro e w2 ⟨rfl, rfl⟩)
         | (go_at_call 32; (with_reducible refine (in_is p.mom (-1) 6311433599 true HcM.out _).mono ?_); rintro e w2 ⟨rfl, rfl⟩)
         | (go_at_call 34; (with_reducible refine (zoned_is p.zone true HcZ.out _).mono ?_); rintro e w2 ⟨rfl, rfl⟩)
         | (go_at_call 35; (with_reducible refine (moment_is (p.mom + 60 * p.zone) true HcL.out _).mono ?_); rintro e w2 ⟨rfl, rfl⟩)
         | (go_at_call 36; refine (HPB.out _).mono ?_; rintro e w5 ⟨rfl, hB5⟩))
        go_ret
        exact ⟨rfl, below_up hB1 hB5⟩
       ·rw [if_neg hp] at hq
        subst hq
        by_cases h0 : p.wn = 0
        ·exact photoError_D p w HI0.out HF0.out HcI.out HcF.out HcM.out HcZ.out hm h0
        ·have h1 : p.wn = 1 := by omega
         have hpl : Fd.placeB (p.lat 0) (p.lon 0) = true := by
          cases hc : Fd.placeB (p.lat 0) (p.lon 0)
          ·exact absurd ⟨h1, hc⟩ hp
          ·rfl
         exact photoError_C p w HI0.out HF0.out HcI.out HcF.out HcM.out HcZ.out hm h1 hpl
end Go.Proofs.YtmpjnbhdlfneaaaGreatDoor
