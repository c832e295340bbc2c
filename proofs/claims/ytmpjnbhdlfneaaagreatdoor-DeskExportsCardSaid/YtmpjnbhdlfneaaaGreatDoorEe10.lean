/- Parts of the proof, no condition: FdPhoto. -/
import Derived.Test.YtmpjnbhdlfneaaaGreatDoorEe9
set_option maxRecDepth 100000
set_option maxHeartbeats 8000000
set_option linter.unusedVariables false
namespace Go.Proofs.YtmpjnbhdlfneaaaGreatDoor
open Go.RowKit Go.Sort Go.Shelf
theorem checkPhoto_is (p : Ph) (w : World) (hI : p.In w) (hF : p.Fits) : Calls Tryz.prog 25 #[.agg #[.int .i64 p.id, .string p.file, .int .i64 p.mom, .int .i64 p.zone, .slice p.wa p.wn p.wc, .int .i64 p.W, .int .i64 p.H, .int .i64 p.turn, .int .i64 p.stars, .slice p.ta p.tn p.tc, .string p.cap, .slice p.pa p.pn p.pc, .bool p.hid]] w fun e w' => e = .returned (.int .i64 p.err) ∧ Below w.heap.size w w' := by
 obtain ⟨W1, hW1, hP, hz1, hB1⟩ := box w #[.int .i64 p.id, .string p.file, .int .i64 p.mom, .int .i64 p.zone, .slice p.wa p.wn p.wc, .int .i64 p.W, .int .i64 p.H, .int .i64 p.turn, .int .i64 p.stars, .slice p.ta p.tn p.tc, .string p.cap, .slice p.pa p.pn p.pc, .bool p.hid] 41
 have HW1 := Lib.hid hW1
 clear hW1 hz1
 obtain ⟨q0, q1, q2, q3, q4, q5, q6, q7, q8, q9, q10, q11, q12⟩ := hP.photo
 have hI := hI.keep hB1
 have HPL := Lib.hid hI.places
 have hff := hF.file
 have hbw := hF.wn
 obtain ⟨b, hb⟩ : ∃ b, Fd.whenB p.mom p.zone = b := ⟨_, rfl⟩
 have HWH := Lib.hid (fun W => checkWhen_is p W b hb)
 have HWO := Lib.hid (fun W (hB : Below W1.heap.size W1 W) => checkWords_is p W (hI.keep hB) hF)
 obtain ⟨q, hq⟩ : ∃ q, p.err = q := ⟨_, rfl⟩
 rw [hq]
 unfold Ph.err at hq
 rw [hb] at hq
 clear hI hF hb
 generalize p.wa = wa at *
 cases hcI : decide (1 ≤ p.id ∧ p.id ≤ 1000000)
 ·rw [hcI, if_neg (by simp)] at hq
  subst hq
  have HcI := Lib.hid hcI; clear hcI
  go_enter Tryz.func25, Tryz.ntmps25
  go_wp2_with fail
  rw [HW1.out]
  go_wp2_with (first | (go_at_call 58; (with_reducible refine (outsideF_is p.id 1 1000000 false HcI.out _).mono ?_); rintro e w2 ⟨rfl, rfl⟩) | (go_at_call 59; (with_reducible refine (isFile_is p.file hff false HcF.out _).mono ?_); rintro e w2 ⟨rfl, rfl⟩) | (go_at_call 60; refine (HWH.out _).mono ?_; rintro e w3 ⟨rfl, hB3⟩; obtain ⟨t0, t1, t2, t3, t4, t5, t6, t7, t8, t9, t10, t11, t12⟩ := (hP.keep hB3).photo))
  go_ret
  exact ⟨rfl, hB1⟩
 ·rw [hcI, if_pos rfl] at hq
  have HcI := Lib.hid hcI; clear hcI
  cases hcF : Fd.fileB p.file
  ·rw [hcF, if_neg (by simp)] at hq
   subst hq
   have HcF := Lib.hid hcF; clear hcF
   go_enter Tryz.func25, Tryz.ntmps25
   go_wp2_with fail
   rw [HW1.out]
   go_wp2_with (first | (go_at_call 58; (with_reducible refine (outsideF_is p.id 1 1000000 true HcI.out _).mono ?_); rintro e w2 ⟨rfl, rfl⟩) | (go_at_call 59; (with_reducible refine (isFile_is p.file hff false HcF.out _).mono ?_); rintro e w2 ⟨rfl, rfl⟩) | (go_at_call 60; refine (HWH.out _).mono ?_; rintro e w3 ⟨rfl, hB3⟩; obtain ⟨t0, t1, t2, t3, t4, t5, t6, t7, t8, t9, t10, t11, t12⟩ := (hP.keep hB3).photo))
   go_ret
   exact ⟨rfl, hB1⟩
  ·rw [hcF, if_pos rfl] at hq
   have HcF := Lib.hid hcF; clear hcF
   cases b
   ·rw [if_neg (by simp)] at hq
    subst hq
    rw [if_neg (by simp)] at HWH
    go_enter Tryz.func25, Tryz.ntmps25
    go_wp2_with fail
    rw [HW1.out]
    go_wp2_with (first | (go_at_call 58; (with_reducible refine (outsideF_is p.id 1 1000000 true HcI.out _).mono ?_); rintro e w2 ⟨rfl, rfl⟩) | (go_at_call 59; (with_reducible refine (isFile_is p.file hff true HcF.out _).mono ?_); rintro e w2 ⟨rfl, rfl⟩) | (go_at_call 60; refine (HWH.out _).mono ?_; rintro e w3 ⟨rfl, hB3⟩; obtain ⟨t0, t1, t2, t3, t4, t5, t6, t7, t8, t9, t10, t11, t12⟩ := (hP.keep hB3).photo))
    go_ret
    exact ⟨rfl, below_up hB1 hB3⟩
   ·rw [if_pos rfl] at hq
    rw [if_pos rfl] at HWH
    by_cases hn : 1 < p.wn
    ·rw [if_pos hn] at hq
     have hn' : (1 : Int) < (p.wn : Int) := by omega
     subst hq
     go_enter Tryz.func25, Tryz.ntmps25
     go_wp2_with fail
     rw [HW1.out]
     go_wp2_with (first | (go_at_call 58; (with_reducible refine (outsideF_is p.id 1 1000000 true HcI.out _).mono ?_); rintro e w2 ⟨rfl, rfl⟩) | (go_at_call 59; (with_reducible refine (isFile_is p.file hff true HcF.out _).mono ?_); rintro e w2 ⟨rfl, rfl⟩) | (go_at_call 60; refine (HWH.out _).mono ?_; rintro e w3 ⟨rfl, hB3⟩; obtain ⟨t0, t1, t2, t3, t4, t5, t6, t7, t8, t9, t10, t11, t12⟩ := (hP.keep hB3).photo))
     go_ret
     exact ⟨rfl, below_up hB1 hB3⟩
    ·rw [if_neg hn] at hq
     have hn' : ¬ (1 : Int) < (p.wn : Int) := by omega
     have HQ := Lib.hid hq; clear hq
     go_enter Tryz.func25, Tryz.ntmps25
     go_wp2_with fail
     rw [HW1.out]
     go_wp2_with (first | (go_at_call 58; (with_reducible refine (outsideF_is p.id 1 1000000 true HcI.out _).mono ?_); rintro e w2 ⟨rfl, rfl⟩) | (go_at_call 59; (with_reducible refine (isFile_is p.file hff true HcF.out _).mono ?_); rintro e w2 ⟨rfl, rfl⟩) | (go_at_call 60; refine (HWH.out _).mono ?_; rintro e w3 ⟨rfl, hB3⟩; obtain ⟨t0, t1, t2, t3, t4, t5, t6, t7, t8, t9, t10, t11, t12⟩ := (hP.keep hB3).photo))
     clear q0 q1 q2 q3 q4 q5 q6 q7 q8 q9 q10 q11 q12 t0 t1 t2 t3 t4 t5 t6 t7 t8 t9 t10 t11 t12
     go_loopg [26] p.wn (fun gk i wr => ∃ j : Nat, j ≤ p.wn ∧ gk = p.wn - j ∧ i = .int .i64 j ∧ (∀ k, k < j → Fd.placeB (p.lat k) (p.lon k) = true) ∧ Below W1.heap.size W1 wr)
     case atStart => exact ⟨0, by omega, rfl, rfl, fun k hk => by omega, hB3⟩
     case round =>
      obtain ⟨j, hj, rfl, rfl, hall, hB⟩ := hrel
      have HALL := Lib.hid hall; clear hall
      obtain ⟨t0, t1, t2, t3, t4, t5, t6, t7, t8, t9, t10, t11, t12⟩ := (hP.keep hB).photo
      by_cases hlt : j < p.wn
      ·obtain ⟨b1, off, rfl, hb1, hcell⟩ := HPL.out.keep hB (by omega)
       obtain ⟨c0, c1⟩ := hcell j hlt
       clear hcell
       have HPB := Lib.hid (fun W => checkPlace_is (p.lat j) (p.lon j) W (Fd.placeB (p.lat j) (p.lon j)) rfl)
       have hBa := below_allocs hB (.cells #[.int .i64 (p.lat j), .int .i64 (p.lon j)] 59)
       cases hpl : Fd.placeB (p.lat j) (p.lon j)
       ·have hj0 : j = 0 := by omega
        have hq := HQ.out
        rw [if_pos ⟨by omega, by rw [← hj0]; exact hpl⟩] at hq
        rw [hpl, if_neg (by simp)] at HPB
        subst hq
        have HPLC := Lib.hid hpl; clear hpl hj0
        go_wp2_with (go_at_call 61; refine (HPB.out _).mono ?_; rintro e w5 ⟨rfl, hB5⟩)
        go_ret
        exact ⟨rfl, below_up hB1 (below_up hBa hB5)⟩
       ·rw [hpl, if_pos rfl] at HPB
        have HPLC := Lib.hid hpl; clear hpl
        go_wp2_with (go_at_call 61; refine (HPB.out _).mono ?_; rintro e w5 ⟨rfl, hB5⟩)
        go_roundg (p.wn - (j + 1))
        case rel => exact ⟨j + 1, by omega, rfl, by go_num, Fd.places_next HALL.out HPLC.out, below_up hBa hB5⟩
        case measure => omega
      ·obtain rfl : j = p.wn := by omega
       have hq := HQ.out
       rw [if_neg (by rintro ⟨e1, e2⟩; have := HALL.out 0 (by omega); rw [e2] at this; cases this)] at hq
       cases hcW : decide (1 ≤ p.W ∧ p.W ≤ 100000)
       ·have HcW := Lib.hid hcW
        have hsh : Fd.shapeB p.W p.H p.turn p.stars = false := Fd.shapeB_no (.inl hcW)
        rw [if_neg (by rw [hsh]; simp)] at hq
        subst hq
        clear hcW hsh
        go_wp2_with (first
         | (go_at_call 58; (with_reducible refine (outsideF_is p.W 1 100000 false HcW.out _).mono ?_); rintro e w5 ⟨rfl, rfl⟩)
         | (go_at_call 58; (with_reducible refine (outsideF_is p.H 1 100000 false HcH.out _).mono ?_); rintro e w5 ⟨rfl, rfl⟩)
         | (go_at_call 58; (with_reducible refine (outsideF_is p.turn 1 8 false HcT.out _).mono ?_); rintro e w5 ⟨rfl, rfl⟩)
         | (go_at_call 58; (with_reducible refine (outsideF_is p.stars 0 5 false HcS.out _).mono ?_); rintro e w5 ⟨rfl, rfl⟩))
        go_ret
        exact ⟨rfl, below_up hB1 hB⟩
       ·have HcW := Lib.hid hcW
        cases hcH : decide (1 ≤ p.H ∧ p.H ≤ 100000)
        ·have HcH := Lib.hid hcH
         have hsh : Fd.shapeB p.W p.H p.turn p.stars = false := Fd.shapeB_no (.inr (.inl hcH))
         rw [if_neg (by rw [hsh]; simp)] at hq
         subst hq
         clear hcW hsh
         go_wp2_with (first
          | (go_at_call 58; (with_reducible refine (outsideF_is p.W 1 100000 true HcW.out _).mono ?_); rintro e w5 ⟨rfl, rfl⟩)
          | (go_at_call 58; (with_reducible refine (outsideF_is p.H 1 100000 false HcH.out _).mono ?_); rintro e w5 ⟨rfl, rfl⟩)
          | (go_at_call 58; (with_reducible refine (outsideF_is p.turn 1 8 false HcT.out _).mono ?_); rintro e w5 ⟨rfl, rfl⟩)
          | (go_at_call 58; (with_reducible refine (outsideF_is p.stars 0 5 false HcS.out _).mono ?_); rintro e w5 ⟨rfl, rfl⟩))
         go_ret
         exact ⟨rfl, below_up hB1 hB⟩
        ·have HcH := Lib.hid hcH
         cases hcT : decide (1 ≤ p.turn ∧ p.turn ≤ 8)
         ·have HcT := Lib.hid hcT
          have hsh : Fd.shapeB p.W p.H p.turn p.stars = false := Fd.shapeB_no (.inr (.inr (.inl hcT)))
          rw [if_neg (by rw [hsh]; simp)] at hq
          subst hq
          clear hcW hsh
          go_wp2_with (first
           | (go_at_call 58; (with_reducible refine (outsideF_is p.W 1 100000 true HcW.out _).mono ?_); rintro e w5 ⟨rfl, rfl⟩)
           | (go_at_call 58; (with_reducible refine (outsideF_is p.H 1 100000 true HcH.out _).mono ?_); rintro e w5 ⟨rfl, rfl⟩)
           | (go_at_call 58; (with_reducible refine (outsideF_is p.turn 1 8 false HcT.out _).mono ?_); rintro e w5 ⟨rfl, rfl⟩)
           | (go_at_call 58; (with_reducible refine (outsideF_is p.stars 0 5 false HcS.out _).mono ?_); rintro e w5 ⟨rfl, rfl⟩))
          go_ret
          exact ⟨rfl, below_up hB1 hB⟩
         ·have HcT := Lib.hid hcT
          cases hcS : decide (0 ≤ p.stars ∧ p.stars ≤ 5)
          ·have HcS := Lib.hid hcS
           have hsh : Fd.shapeB p.W p.H p.turn p.stars = false := Fd.shapeB_no (.inr (.inr (.inr hcS)))
           rw [if_neg (by rw [hsh]; simp)] at hq
           subst hq
           clear hcW hsh
           go_wp2_with (first
            | (go_at_call 58; (with_reducible refine (outsideF_is p.W 1 100000 true HcW.out _).mono ?_); rintro e w5 ⟨rfl, rfl⟩)
            | (go_at_call 58; (with_reducible refine (outsideF_is p.H 1 100000 true HcH.out _).mono ?_); rintro e w5 ⟨rfl, rfl⟩)
            | (go_at_call 58; (with_reducible refine (outsideF_is p.turn 1 8 true HcT.out _).mono ?_); rintro e w5 ⟨rfl, rfl⟩)
            | (go_at_call 58; (with_reducible refine (outsideF_is p.stars 0 5 false HcS.out _).mono ?_); rintro e w5 ⟨rfl, rfl⟩))
           go_ret
           exact ⟨rfl, below_up hB1 hB⟩
          ·have HcS := Lib.hid hcS
           have hsh : Fd.shapeB p.W p.H p.turn p.stars = true := Fd.shapeB_yes hcW hcH hcT hcS
           rw [if_pos hsh] at hq
           clear hcW hcH hcT hcS hsh
           have HQ2 := Lib.hid hq; clear hq
           go_wp2_with (first
            | (go_at_call 58; (with_reducible refine (outsideF_is p.W 1 100000 true HcW.out _).mono ?_); rintro e w5 ⟨rfl, rfl⟩)
            | (go_at_call 58; (with_reducible refine (outsideF_is p.H 1 100000 true HcH.out _).mono ?_); rintro e w5 ⟨rfl, rfl⟩)
            | (go_at_call 58; (with_reducible refine (outsideF_is p.turn 1 8 true HcT.out _).mono ?_); rintro e w5 ⟨rfl, rfl⟩)
            | (go_at_call 58; (with_reducible refine (outsideF_is p.stars 0 5 true HcS.out _).mono ?_); rintro e w5 ⟨rfl, rfl⟩)
            | (go_at_call 62; refine (HWO.out _ hB).mono ?_; rintro e w6 ⟨rfl, hB6⟩))
           go_ret
           exact ⟨ret_int HQ2.out, below_up hB1 (below_up hB hB6)⟩
end Go.Proofs.YtmpjnbhdlfneaaaGreatDoor
