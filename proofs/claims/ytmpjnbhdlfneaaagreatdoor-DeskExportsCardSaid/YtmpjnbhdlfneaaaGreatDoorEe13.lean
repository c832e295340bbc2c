/- Parts of the proof, no condition: FdErrC. -/
import Derived.Test.YtmpjnbhdlfneaaaGreatDoorEe10
set_option maxRecDepth 100000
set_option maxHeartbeats 16000000
set_option linter.unusedVariables false
namespace Go.Proofs.YtmpjnbhdlfneaaaGreatDoor
open Go.RowKit Go.Sort Go.Shelf
theorem photoError_C (p : Ph) (w : World) (hI : p.In w) (hF : p.Fits) (hcI : decide (1 ≤ p.id ∧ p.id ≤ 1000000) = true) (hcF : Fd.fileB p.file = true) (hcM : decide (-1 ≤ p.mom ∧ p.mom ≤ 6311433599) = true) (hcZ : Zn.zok p.zone = true) (hm : ¬ 0 ≤ p.mom) (hw : p.wn = 1) (hpl : Fd.placeB (p.lat 0) (p.lon 0) = true) :
  Calls Tryz.prog 16 #[.agg #[.int .i64 p.id, .string p.file, .int .i64 p.mom, .int .i64 p.zone, .slice p.wa p.wn p.wc, .int .i64 p.W, .int .i64 p.H, .int .i64 p.turn, .int .i64 p.stars, .slice p.ta p.tn p.tc, .string p.cap, .slice p.pa p.pn p.pc, .bool p.hid]] w fun e w' => e = .returned (.int .i64 (if Fd.shapeB p.W p.H p.turn p.stars = true then p.words else 2)) ∧ Below w.heap.size w w' := by
 obtain ⟨W1, hW1, hP, hz1, hB1⟩ := box w #[.int .i64 p.id, .string p.file, .int .i64 p.mom, .int .i64 p.zone, .slice p.wa p.wn p.wc, .int .i64 p.W, .int .i64 p.H, .int .i64 p.turn, .int .i64 p.stars, .slice p.ta p.tn p.tc, .string p.cap, .slice p.pa p.pn p.pc, .bool p.hid] 41
 have HW1 := Lib.hid hW1
 clear hW1 hz1
 obtain ⟨q0, q1, q2, q3, q4, q5, q6, q7, q8, q9, q10, q11, q12⟩ := hP.photo
 have hI := hI.keep hB1
 have hmz1 := of_decide_eq_true hcM
 have hm2 := hmz1.2
 have hz2 := (Zn.zok_iff _).1 hcZ
 have hz3 := hz2.1
 have hz4 := hz2.2
 have HTG := Lib.hid (fun W (hB : Below W1.heap.size W1 W) => (hI.keep hB).tags)
 have HPG := Lib.hid (fun W (hB : Below W1.heap.size W1 W) => (hI.keep hB).people)
 have HPL := Lib.hid hI.places
 have HTS := Lib.hid hF.tag
 have hff := hF.file; have hbt := hF.tn; have hbp := hF.pn; have hbc := hF.cap; have hbw := hF.wn
 obtain ⟨b, hb⟩ : ∃ b, Fd.plainB p.cap = b := ⟨_, rfl⟩
 have HPLN := Lib.hid (fun W => plain_is p.cap hF.cap b hb W)
 have HPB := Lib.hid (fun W => placed_is (p.lat 0) (p.lon 0) W true hpl)
 obtain ⟨q, hq⟩ : ∃ q, (if Fd.shapeB p.W p.H p.turn p.stars = true then p.words else 2) = q := ⟨_, rfl⟩
 rw [hq]
 unfold Ph.words at hq
 rw [hb] at hq
 have HcI := Lib.hid hcI; have HcF := Lib.hid hcF; have HcM := Lib.hid hcM; have HcZ := Lib.hid hcZ
 have hw1 : ((p.wn : Int) == 1) = true := by simp; omega
 have hw2 : ¬ (1 : Int) < (p.wn : Int) := by omega
 have hw3 : 0 < p.wn := by omega
 have HWN := Lib.hid hw
 clear hI hF hb hcI hcF hcM hcZ hpl hmz1 hz2 hw
 generalize p.wa = wa at *
 generalize p.ta = ta at *
 generalize p.pa = pa at *
 obtain ⟨bw, offw, rfl, hbw1, hcellw⟩ := HPL.out hw3
 obtain ⟨cw0, cw1⟩ := hcellw 0 (by omega)
 rw [Nat.zero_mul, Nat.add_zero] at cw0 cw1
 clear hcellw HPL
 cases hcW : decide (1 ≤ p.W ∧ p.W ≤ 100000)
 ·have HcW := Lib.hid hcW
  have hsh : Fd.shapeB p.W p.H p.turn p.stars = false := Fd.shapeB_no (.inl hcW)
  rw [if_neg (by rw [hsh]; simp)] at hq
  subst hq
  clear hcW hsh
  go_enter Tryz.func16, Tryz.ntmps16
  go_wp2_with fail
  rw [HW1.out]
  go_wp2_with (first | (go_at_call 32; (with_reducible refine (in_is p.id 1 1000000 true HcI.out _).mono ?_); rintro e w2 ⟨rfl, rfl⟩) | (go_at_call 33; (with_reducible refine (isDigest_is p.file hff true HcF.out _).mono ?_); rintro e w2 ⟨rfl, rfl⟩) | (go_at_call 32; (with_reducible refine (in_is p.mom (-1) 6311433599 true HcM.out _).mono ?_); rintro e w2 ⟨rfl, rfl⟩) | (go_at_call 34; (with_reducible refine (zoned_is p.zone true HcZ.out _).mono ?_); rintro e w2 ⟨rfl, rfl⟩) | (go_at_call 36; refine (HPB.out _).mono ?_; rintro e w5 ⟨rfl, hB5⟩; obtain ⟨t0, t1, t2, t3, t4, t5, t6, t7, t8, t9, t10, t11, t12⟩ := (hP.keep hB5).photo) | (go_at_call 32; (with_reducible refine (in_is p.W 1 100000 false HcW.out _).mono ?_); rintro e w7 ⟨rfl, rfl⟩) | (go_at_call 32; (with_reducible refine (in_is p.H 1 100000 false HcH.out _).mono ?_); rintro e w7 ⟨rfl, rfl⟩) | (go_at_call 32; (with_reducible refine (in_is p.turn 1 8 false HcT.out _).mono ?_); rintro e w7 ⟨rfl, rfl⟩) | (go_at_call 32; (with_reducible refine (in_is p.stars 0 5 false HcS.out _).mono ?_); rintro e w7 ⟨rfl, rfl⟩))
  go_ret
  exact ⟨rfl, below_up hB1 hB5⟩
 ·have HcW := Lib.hid hcW
  cases hcH : decide (1 ≤ p.H ∧ p.H ≤ 100000)
  ·have HcH := Lib.hid hcH
   have hsh : Fd.shapeB p.W p.H p.turn p.stars = false := Fd.shapeB_no (.inr (.inl hcH))
   rw [if_neg (by rw [hsh]; simp)] at hq
   subst hq
   clear hcW hsh
   go_enter Tryz.func16, Tryz.ntmps16
   go_wp2_with fail
   rw [HW1.out]
   go_wp2_with (first | (go_at_call 32; (with_reducible refine (in_is p.id 1 1000000 true HcI.out _).mono ?_); rintro e w2 ⟨rfl, rfl⟩) | (go_at_call 33; (with_reducible refine (isDigest_is p.file hff true HcF.out _).mono ?_); rintro e w2 ⟨rfl, rfl⟩) | (go_at_call 32; (with_reducible refine (in_is p.mom (-1) 6311433599 true HcM.out _).mono ?_); rintro e w2 ⟨rfl, rfl⟩) | (go_at_call 34; (with_reducible refine (zoned_is p.zone true HcZ.out _).mono ?_); rintro e w2 ⟨rfl, rfl⟩) | (go_at_call 36; refine (HPB.out _).mono ?_; rintro e w5 ⟨rfl, hB5⟩; obtain ⟨t0, t1, t2, t3, t4, t5, t6, t7, t8, t9, t10, t11, t12⟩ := (hP.keep hB5).photo) | (go_at_call 32; (with_reducible refine (in_is p.W 1 100000 true HcW.out _).mono ?_); rintro e w7 ⟨rfl, rfl⟩) | (go_at_call 32; (with_reducible refine (in_is p.H 1 100000 false HcH.out _).mono ?_); rintro e w7 ⟨rfl, rfl⟩) | (go_at_call 32; (with_reducible refine (in_is p.turn 1 8 false HcT.out _).mono ?_); rintro e w7 ⟨rfl, rfl⟩) | (go_at_call 32; (with_reducible refine (in_is p.stars 0 5 false HcS.out _).mono ?_); rintro e w7 ⟨rfl, rfl⟩))
   go_ret
   exact ⟨rfl, below_up hB1 hB5⟩
  ·have HcH := Lib.hid hcH
   cases hcT : decide (1 ≤ p.turn ∧ p.turn ≤ 8)
   ·have HcT := Lib.hid hcT
    have hsh : Fd.shapeB p.W p.H p.turn p.stars = false := Fd.shapeB_no (.inr (.inr (.inl hcT)))
    rw [if_neg (by rw [hsh]; simp)] at hq
    subst hq
    clear hcW hsh
    go_enter Tryz.func16, Tryz.ntmps16
    go_wp2_with fail
    rw [HW1.out]
    go_wp2_with (first | (go_at_call 32; (with_reducible refine (in_is p.id 1 1000000 true HcI.out _).mono ?_); rintro e w2 ⟨rfl, rfl⟩) | (go_at_call 33; (with_reducible refine (isDigest_is p.file hff true HcF.out _).mono ?_); rintro e w2 ⟨rfl, rfl⟩) | (go_at_call 32; (with_reducible refine (in_is p.mom (-1) 6311433599 true HcM.out _).mono ?_); rintro e w2 ⟨rfl, rfl⟩) | (go_at_call 34; (with_reducible refine (zoned_is p.zone true HcZ.out _).mono ?_); rintro e w2 ⟨rfl, rfl⟩) | (go_at_call 36; refine (HPB.out _).mono ?_; rintro e w5 ⟨rfl, hB5⟩; obtain ⟨t0, t1, t2, t3, t4, t5, t6, t7, t8, t9, t10, t11, t12⟩ := (hP.keep hB5).photo) | (go_at_call 32; (with_reducible refine (in_is p.W 1 100000 true HcW.out _).mono ?_); rintro e w7 ⟨rfl, rfl⟩) | (go_at_call 32; (with_reducible refine (in_is p.H 1 100000 true HcH.out _).mono ?_); rintro e w7 ⟨rfl, rfl⟩) | (go_at_call 32; (with_reducible refine (in_is p.turn 1 8 false HcT.out _).mono ?_); rintro e w7 ⟨rfl, rfl⟩) | (go_at_call 32; (with_reducible refine (in_is p.stars 0 5 false HcS.out _).mono ?_); rintro e w7 ⟨rfl, rfl⟩))
    go_ret
    exact ⟨rfl, below_up hB1 hB5⟩
   ·have HcT := Lib.hid hcT
    cases hcS : decide (0 ≤ p.stars ∧ p.stars ≤ 5)
    ·have HcS := Lib.hid hcS
     have hsh : Fd.shapeB p.W p.H p.turn p.stars = false := Fd.shapeB_no (.inr (.inr (.inr hcS)))
     rw [if_neg (by rw [hsh]; simp)] at hq
     subst hq
     clear hcW hsh
     go_enter Tryz.func16, Tryz.ntmps16
     go_wp2_with fail
     rw [HW1.out]
     go_wp2_with (first | (go_at_call 32; (with_reducible refine (in_is p.id 1 1000000 true HcI.out _).mono ?_); rintro e w2 ⟨rfl, rfl⟩) | (go_at_call 33; (with_reducible refine (isDigest_is p.file hff true HcF.out _).mono ?_); rintro e w2 ⟨rfl, rfl⟩) | (go_at_call 32; (with_reducible refine (in_is p.mom (-1) 6311433599 true HcM.out _).mono ?_); rintro e w2 ⟨rfl, rfl⟩) | (go_at_call 34; (with_reducible refine (zoned_is p.zone true HcZ.out _).mono ?_); rintro e w2 ⟨rfl, rfl⟩) | (go_at_call 36; refine (HPB.out _).mono ?_; rintro e w5 ⟨rfl, hB5⟩; obtain ⟨t0, t1, t2, t3, t4, t5, t6, t7, t8, t9, t10, t11, t12⟩ := (hP.keep hB5).photo) | (go_at_call 32; (with_reducible refine (in_is p.W 1 100000 true HcW.out _).mono ?_); rintro e w7 ⟨rfl, rfl⟩) | (go_at_call 32; (with_reducible refine (in_is p.H 1 100000 true HcH.out _).mono ?_); rintro e w7 ⟨rfl, rfl⟩) | (go_at_call 32; (with_reducible refine (in_is p.turn 1 8 true HcT.out _).mono ?_); rintro e w7 ⟨rfl, rfl⟩) | (go_at_call 32; (with_reducible refine (in_is p.stars 0 5 false HcS.out _).mono ?_); rintro e w7 ⟨rfl, rfl⟩))
     go_ret
     exact ⟨rfl, below_up hB1 hB5⟩
    ·have HcS := Lib.hid hcS
     have hsh : Fd.shapeB p.W p.H p.turn p.stars = true := Fd.shapeB_yes hcW hcH hcT hcS
     rw [if_pos hsh] at hq
     clear hcW hcH hcT hcS hsh
     by_cases ht : 20 < p.tn
     ·rw [if_pos ht] at hq
      subst hq
      have ht' : (20 : Int) < (p.tn : Int) := by omega
      go_enter Tryz.func16, Tryz.ntmps16
      go_wp2_with fail
      rw [HW1.out]
      go_wp2_with (first | (go_at_call 32; (with_reducible refine (in_is p.id 1 1000000 true HcI.out _).mono ?_); rintro e w2 ⟨rfl, rfl⟩) | (go_at_call 33; (with_reducible refine (isDigest_is p.file hff true HcF.out _).mono ?_); rintro e w2 ⟨rfl, rfl⟩) | (go_at_call 32; (with_reducible refine (in_is p.mom (-1) 6311433599 true HcM.out _).mono ?_); rintro e w2 ⟨rfl, rfl⟩) | (go_at_call 34; (with_reducible refine (zoned_is p.zone true HcZ.out _).mono ?_); rintro e w2 ⟨rfl, rfl⟩) | (go_at_call 36; refine (HPB.out _).mono ?_; rintro e w5 ⟨rfl, hB5⟩; obtain ⟨t0, t1, t2, t3, t4, t5, t6, t7, t8, t9, t10, t11, t12⟩ := (hP.keep hB5).photo) | (go_at_call 32; (with_reducible refine (in_is p.W 1 100000 true HcW.out _).mono ?_); rintro e w7 ⟨rfl, rfl⟩) | (go_at_call 32; (with_reducible refine (in_is p.H 1 100000 true HcH.out _).mono ?_); rintro e w7 ⟨rfl, rfl⟩) | (go_at_call 32; (with_reducible refine (in_is p.turn 1 8 true HcT.out _).mono ?_); rintro e w7 ⟨rfl, rfl⟩) | (go_at_call 32; (with_reducible refine (in_is p.stars 0 5 true HcS.out _).mono ?_); rintro e w7 ⟨rfl, rfl⟩))
      go_ret
      exact ⟨rfl, below_up hB1 hB5⟩
     ·rw [if_neg ht] at hq
      have ht' : ¬ (20 : Int) < (p.tn : Int) := by omega
      obtain ⟨s, hs⟩ : ∃ s, Fd.scan (Fd.tbad p.tag) 0 p.tn = s := ⟨_, rfl⟩
      rw [hs] at hq
      have HTO : Hid (∀ e : Int, e ≠ 0 → e = s → e = q) := by
       intro e h0 he
       subst he
       rw [if_neg h0] at hq
       exact hq
      have HS := Lib.hid hs; have HQ := Lib.hid hq; clear hs hq
      go_enter Tryz.func16, Tryz.ntmps16
      go_wp2_with fail
      rw [HW1.out]
      go_wp2_with (first | (go_at_call 32; (with_reducible refine (in_is p.id 1 1000000 true HcI.out _).mono ?_); rintro e w2 ⟨rfl, rfl⟩) | (go_at_call 33; (with_reducible refine (isDigest_is p.file hff true HcF.out _).mono ?_); rintro e w2 ⟨rfl, rfl⟩) | (go_at_call 32; (with_reducible refine (in_is p.mom (-1) 6311433599 true HcM.out _).mono ?_); rintro e w2 ⟨rfl, rfl⟩) | (go_at_call 34; (with_reducible refine (zoned_is p.zone true HcZ.out _).mono ?_); rintro e w2 ⟨rfl, rfl⟩) | (go_at_call 36; refine (HPB.out _).mono ?_; rintro e w5 ⟨rfl, hB5⟩; obtain ⟨t0, t1, t2, t3, t4, t5, t6, t7, t8, t9, t10, t11, t12⟩ := (hP.keep hB5).photo) | (go_at_call 32; (with_reducible refine (in_is p.W 1 100000 true HcW.out _).mono ?_); rintro e w7 ⟨rfl, rfl⟩) | (go_at_call 32; (with_reducible refine (in_is p.H 1 100000 true HcH.out _).mono ?_); rintro e w7 ⟨rfl, rfl⟩) | (go_at_call 32; (with_reducible refine (in_is p.turn 1 8 true HcT.out _).mono ?_); rintro e w7 ⟨rfl, rfl⟩) | (go_at_call 32; (with_reducible refine (in_is p.stars 0 5 true HcS.out _).mono ?_); rintro e w7 ⟨rfl, rfl⟩))
      have HTG5 := Lib.hid (HTG.out _ hB5)
      have HPG5 := Lib.hid (HPG.out _ hB5)
      have hBf := below_up hB1 hB5
      go_loopg [92] p.tn (fun gk i wr => ∃ j : Nat, j ≤ p.tn ∧ gk = p.tn - j ∧ i = .int .i64 j ∧ Fd.scan (Fd.tbad p.tag) j (p.tn - j) = s ∧ w5 = wr)
      case atStart => exact ⟨0, by omega, rfl, rfl, HS.out, rfl⟩
      case round =>
       obtain ⟨j, hj, rfl, rfl, hsc, rfl⟩ := hrel
       have HSC := Lib.hid hsc; clear hsc
       by_cases hlt : j < p.tn
       ·obtain ⟨b1, off, rfl, hb1, hcell⟩ := HTG5.out (by omega)
        have hcell : ∀ i, i < p.tn → w5.cell? ⟨b1, off + i, none⟩ = some (.string (p.tag i)) := hcell
        have c0 := hcell j hlt
        have HC := Lib.hid hcell
        clear hcell
        have hcell := HC.out
        cases hin : Fd.nameB (p.tag j)
        ·have HIN := Lib.hid hin
         have HBAD := Lib.hid (HTO.out _ (by omega) (Fd.scan_here HSC.out hlt (Fd.tbad_name hin) (by omega)))
         clear hin
         go_wp2_with (go_at_call 37; (with_reducible refine (isNameR_is (p.tag j) (HTS.out j hlt) false HIN.out _).mono ?_); rintro e w2 ⟨rfl, rfl⟩)
         go_ret
         exact ⟨ret_int HBAD.out, hBf⟩
        ·have HIN := Lib.hid hin
         by_cases hj0 : j = 0
         ·have hj0' : decide ((0 : Int) < (j : Int)) = false := by simpa using hj0
          have hj0'' : ((0 : Int) < (j : Int)) = False := by simpa using hj0
          have hj0n : (0 < j) = False := by simpa using hj0
          have HBAD := Lib.hid (Fd.scan_next HSC.out hlt (Fd.tbad_first hin hj0))
          clear hin hj0
          go_wp2_with (go_at_call 37; (with_reducible refine (isNameR_is (p.tag j) (HTS.out j hlt) true HIN.out _).mono ?_); rintro e w2 ⟨rfl, rfl⟩)
          go_roundg (p.tn - (j + 1))
          case rel => exact ⟨j + 1, by omega, rfl, by go_num, HBAD.out, rfl⟩
          case measure => omega
         ·have hj1 : 1 ≤ j := by omega
          have hj0' : decide ((0 : Int) < (j : Int)) = true := by simp; omega
          have hj0n : 0 < j := by omega
          have d0 := hcell (j - 1) (by omega)
          have hi0 : (0 : Int) ≤ (j : Int) - 1 := by omega
          have hi1 : (j : Int) - 1 < (p.tn : Int) := by omega
          cases ho : Fd.leS (p.tag j) (p.tag (j - 1))
          ·have HBAD := Lib.hid (Fd.scan_next HSC.out hlt (Fd.tbad_ok hin hj0 ho))
           unfold Fd.leS at ho
           clear hin hj0
           go_wp2_with (go_at_call 37; (with_reducible refine (isNameR_is (p.tag j) (HTS.out j hlt) true HIN.out _).mono ?_); rintro e w2 ⟨rfl, rfl⟩)
           go_roundg (p.tn - (j + 1))
           case rel => exact ⟨j + 1, by omega, rfl, by go_num, HBAD.out, rfl⟩
           case measure => omega
          ·have HBAD := Lib.hid (HTO.out _ (by omega) (Fd.scan_here HSC.out hlt (Fd.tbad_ord hin hj0 ho) (by omega)))
           unfold Fd.leS at ho
           clear hin hj0
           go_wp2_with (go_at_call 37; (with_reducible refine (isNameR_is (p.tag j) (HTS.out j hlt) true HIN.out _).mono ?_); rintro e w2 ⟨rfl, rfl⟩)
           go_ret
           exact ⟨ret_int HBAD.out, hBf⟩
       ·obtain rfl : j = p.tn := by omega
        have hs0 := Fd.scan_end HSC.out
        have hq := HQ.out
        rw [if_pos hs0] at hq
        clear hs0
        by_cases hc : 200 < p.cap.size
        ·rw [if_pos hc] at hq
         have hc' : (200 : Int) < (p.cap.size : Int) := by omega
         subst hq
         go_wp2_with fail
         go_ret
         exact ⟨rfl, hBf⟩
        ·rw [if_neg hc] at hq
         have hc' : ¬ (200 : Int) < (p.cap.size : Int) := by omega
         cases b
         ·rw [if_neg (by simp)] at hq
          subst hq
          go_wp2_with (go_at_call 38; refine (HPLN.out _).mono ?_; rintro e w8 ⟨rfl, rfl⟩)
          go_ret
          exact ⟨rfl, hBf⟩
         ·rw [if_pos rfl] at hq
          by_cases hn : 20 < p.pn
          ·rw [if_pos hn] at hq
           have hn' : (20 : Int) < (p.pn : Int) := by omega
           subst hq
           go_wp2_with (go_at_call 38; refine (HPLN.out _).mono ?_; rintro e w8 ⟨rfl, rfl⟩)
           go_ret
           exact ⟨rfl, hBf⟩
          ·rw [if_neg hn] at hq
           have hn' : ¬ (20 : Int) < (p.pn : Int) := by omega
           have HQ2 := Lib.hid hq; clear hq
           go_wp2_with (go_at_call 38; refine (HPLN.out _).mono ?_; rintro e w8 ⟨rfl, rfl⟩)
           go_loopg [131] p.pn (fun gk i wr => ∃ j : Nat, j ≤ p.pn ∧ gk = p.pn - j ∧ i = .int .i64 j ∧ Fd.scan (Fd.pbad p.who) j (p.pn - j) = q ∧ w5 = wr)
           case atStart => exact ⟨0, by omega, rfl, rfl, HQ2.out, rfl⟩
           case round =>
            obtain ⟨j, hj, rfl, rfl, hsc, rfl⟩ := hrel
            have HSC := Lib.hid hsc; clear hsc
            by_cases hlt : j < p.pn
            ·obtain ⟨b1, off, rfl, hb1, hcell⟩ := HPG5.out (by omega)
             have hcell : ∀ i, i < p.pn → w5.cell? ⟨b1, off + i, none⟩ = some (.int .i64 (p.who i)) := hcell
             have c0 := hcell j hlt
             have HC := Lib.hid hcell
             clear hcell
             have hcell := HC.out
             cases hin : decide (1 ≤ p.who j ∧ p.who j ≤ 1000000)
             ·have HIN := Lib.hid hin
              have HBAD := Lib.hid (id (Fd.scan_here HSC.out hlt (Fd.pbad_out hin) (by omega)))
              clear hin
              go_wp2_with (go_at_call 32; (with_reducible refine (in_is (p.who j) 1 1000000 false HIN.out _).mono ?_); rintro e w2 ⟨rfl, rfl⟩)
              go_ret
              exact ⟨ret_int HBAD.out, hBf⟩
             ·have HIN := Lib.hid hin
              by_cases hj0 : j = 0
              ·have hj0' : decide ((0 : Int) < (j : Int)) = false := by simpa using hj0
               have hj0'' : ((0 : Int) < (j : Int)) = False := by simpa using hj0
               have hj0n : (0 < j) = False := by simpa using hj0
               have HBAD := Lib.hid (Fd.scan_next HSC.out hlt (Fd.pbad_first hin hj0))
               clear hin hj0
               go_wp2_with (go_at_call 32; (with_reducible refine (in_is (p.who j) 1 1000000 true HIN.out _).mono ?_); rintro e w2 ⟨rfl, rfl⟩)
               go_roundg (p.pn - (j + 1))
               case rel => exact ⟨j + 1, by omega, rfl, by go_num, HBAD.out, rfl⟩
               case measure => omega
              ·have hj1 : 1 ≤ j := by omega
               have hj0' : decide ((0 : Int) < (j : Int)) = true := by simp; omega
               have hj0n : 0 < j := by omega
               have d0 := hcell (j - 1) (by omega)
               have hi0 : (0 : Int) ≤ (j : Int) - 1 := by omega
               have hi1 : (j : Int) - 1 < (p.pn : Int) := by omega
               by_cases ho : p.who j ≤ p.who (j - 1)
               ·have HBAD := Lib.hid (id (Fd.scan_here HSC.out hlt (Fd.pbad_ord hin hj0 ho) (by omega)))
                clear hin hj0
                go_wp2_with (go_at_call 32; (with_reducible refine (in_is (p.who j) 1 1000000 true HIN.out _).mono ?_); rintro e w2 ⟨rfl, rfl⟩)
                go_ret
                exact ⟨ret_int HBAD.out, hBf⟩
               ·have HBAD := Lib.hid (Fd.scan_next HSC.out hlt (Fd.pbad_ok hin hj0 ho))
                have ho' : p.who (j - 1) < p.who j := by omega
                clear hin hj0 ho
                go_wp2_with (go_at_call 32; (with_reducible refine (in_is (p.who j) 1 1000000 true HIN.out _).mono ?_); rintro e w2 ⟨rfl, rfl⟩)
                go_roundg (p.pn - (j + 1))
                case rel => exact ⟨j + 1, by omega, rfl, by go_num, HBAD.out, rfl⟩
                case measure => omega
            ·obtain rfl : j = p.pn := by omega
             go_wp2_with fail
             go_ret
             exact ⟨ret_int (Fd.scan_end HSC.out).symm, hBf⟩
end Go.Proofs.YtmpjnbhdlfneaaaGreatDoor
