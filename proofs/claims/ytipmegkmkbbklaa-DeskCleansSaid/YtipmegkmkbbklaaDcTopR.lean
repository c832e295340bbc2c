/- CleanError: the error of Clean, by the document. -/
import Derived.Test.YtipmegkmkbbklaaDcTop
namespace Go.Proofs.Ytipmegkmkbbklaa
open Go.RowKit Go.Sort Go.Shelf
set_option linter.unusedVariables false
set_option maxRecDepth 100000 in
set_option maxHeartbeats 4000000 in
theorem cleanError_is (p : Ph) (hF : p.Fits) (key album : ByteArray) (hk : key.size ≤ 9223372036854775807) (pl pe wo : Bool) (F T : Int) (ha : Option Addr) (hn hc : Nat) (la lo ra : Nat → Int) (w : World) (hI : p.In w) (hA : Ars w ha hn la lo ra) (hnle : hn ≤ 9223372036854775807) (q : Int) (hq : Dc.err p key F T (Dc.homes la lo ra hn) = q) :
    Calls Try.prog 7 #[.agg #[.int .i64 p.id, .string p.file, .int .i64 p.mom, .int .i64 p.zone, .slice p.wa p.wn p.wc, .int .i64 p.W, .int .i64 p.H, .int .i64 p.turn, .int .i64 p.stars, .slice p.ta p.tn p.tc, .string p.cap, .slice p.pa p.pn p.pc, .bool p.hid], .agg #[.string key, .string album, .bool pl, .bool pe, .bool wo, .int .i64 F, .int .i64 T], .slice ha hn hc] w fun e w' => e = .returned (.int .i64 q) ∧ Below w.heap.size w w' := by
  obtain ⟨W1, hW1, hP, hz1, hB1⟩ := box w #[.int .i64 p.id, .string p.file, .int .i64 p.mom, .int .i64 p.zone, .slice p.wa p.wn p.wc, .int .i64 p.W, .int .i64 p.H, .int .i64 p.turn, .int .i64 p.stars, .slice p.ta p.tn p.tc, .string p.cap, .slice p.pa p.pn p.pc, .bool p.hid] 26
  obtain ⟨W2, hW2, hL, hz2, hB2⟩ := box W1 #[.string key, .string album, .bool pl, .bool pe, .bool wo, .int .i64 F, .int .i64 T] 28
  have HW1 := Lib.hid hW1; have HW2 := Lib.hid hW2
  have hP := hP.keep hB2
  rw [hz1] at hL
  have hB := below_up hB1 hB2
  obtain ⟨q0, q1, q2, q3, q4, q5, q6, q7, q8, q9, q10, q11, q12⟩ := hP.photo
  have HPE := Lib.hid (photoError_is p W2 (hI.keep hB) hF)
  have HHR := Lib.hid (fun V hV => homesError_is ha hn hc la lo ra V (hA.keep hV) hnle)
  clear hW1 hW2 hz1 hz2 hI hA hF
  unfold Dc.err at hq
  by_cases h0 : p.err = 0
  · rw [if_pos h0] at hq
    rw [h0] at HPE
    clear h0
    cases hnm : Fd.nameB key
    · have HNM := Lib.hid (fun V => isNameR_is key hk false hnm V)
      have hq3 : q = 3 := by rw [← hq, if_neg (by rw [hnm]; simp)]
      subst hq3
      have HF := HNM; have HT := HNM
      clear hq hnm
      go_enter Try.func7, Try.ntmps7
      go_wp2_with fail
      rw [HW1.out, HW2.out]
      go_wp2_with (first
        | (go_at_call 20; (with_reducible refine HPE.out.mono ?_); rintro e w3 ⟨rfl, hB3⟩; have hL3 := hL.keep hB3; obtain ⟨l0, l1, l2, l3, l4, l5, l6⟩ := hL3.link; have hB03 := below_up hB hB3)
        | (go_at_call 31; (with_reducible refine (HNM.out _).mono ?_); rintro e w4 ⟨rfl, rfl⟩)
        | (go_at_call 32; first | ((with_reducible refine (HF.out _).mono ?_); rintro e w5 ⟨rfl, rfl⟩) | ((with_reducible refine (HT.out _).mono ?_); rintro e w6 ⟨rfl, rfl⟩))
        | (go_at_call 33; (with_reducible refine (HHR.out _ hB03).mono ?_); rintro e w7 ⟨rfl, hB7⟩))
      go_ret
      exact ⟨rfl, hB03⟩
    · have HNM := Lib.hid (fun V => isNameR_is key hk true hnm V)
      rw [if_pos hnm] at hq
      clear hnm
      cases hmF : Dc.mom F
      · have HF := Lib.hid (fun V => momR_is F false hmF V)
        have HT := HF
        have hq2 : q = 2 := by rw [← hq]; unfold Dc.times; rw [hmF]; rfl
        subst hq2
        clear hq hmF
        go_enter Try.func7, Try.ntmps7
        go_wp2_with fail
        rw [HW1.out, HW2.out]
        go_wp2_with (first
          | (go_at_call 20; (with_reducible refine HPE.out.mono ?_); rintro e w3 ⟨rfl, hB3⟩; have hL3 := hL.keep hB3; obtain ⟨l0, l1, l2, l3, l4, l5, l6⟩ := hL3.link; have hB03 := below_up hB hB3)
          | (go_at_call 31; (with_reducible refine (HNM.out _).mono ?_); rintro e w4 ⟨rfl, rfl⟩)
          | (go_at_call 32; first | ((with_reducible refine (HF.out _).mono ?_); rintro e w5 ⟨rfl, rfl⟩) | ((with_reducible refine (HT.out _).mono ?_); rintro e w6 ⟨rfl, rfl⟩))
          | (go_at_call 33; (with_reducible refine (HHR.out _ hB03).mono ?_); rintro e w7 ⟨rfl, hB7⟩))
        go_ret
        exact ⟨rfl, hB03⟩
      · have HF := Lib.hid (fun V => momR_is F true hmF V)
        cases hmT : Dc.mom T
        · have HT := Lib.hid (fun V => momR_is T false hmT V)
          have hq2 : q = 2 := by rw [← hq]; unfold Dc.times; rw [hmF, hmT]; rfl
          subst hq2
          clear hq hmF hmT
          go_enter Try.func7, Try.ntmps7
          go_wp2_with fail
          rw [HW1.out, HW2.out]
          go_wp2_with (first
            | (go_at_call 20; (with_reducible refine HPE.out.mono ?_); rintro e w3 ⟨rfl, hB3⟩; have hL3 := hL.keep hB3; obtain ⟨l0, l1, l2, l3, l4, l5, l6⟩ := hL3.link; have hB03 := below_up hB hB3)
            | (go_at_call 31; (with_reducible refine (HNM.out _).mono ?_); rintro e w4 ⟨rfl, rfl⟩)
            | (go_at_call 32; first | ((with_reducible refine (HF.out _).mono ?_); rintro e w5 ⟨rfl, rfl⟩) | ((with_reducible refine (HT.out _).mono ?_); rintro e w6 ⟨rfl, rfl⟩))
            | (go_at_call 33; (with_reducible refine (HHR.out _ hB03).mono ?_); rintro e w7 ⟨rfl, hB7⟩))
          go_ret
          exact ⟨rfl, hB03⟩
        · have HT := Lib.hid (fun V => momR_is T true hmT V)
          by_cases ho : T < F
          · have hq2 : q = 5 := by rw [← hq]; unfold Dc.times; rw [hmF, hmT, if_pos (show (true && true) = true from rfl), if_pos ho]; rfl
            subst hq2
            clear hq hmF hmT
            go_enter Try.func7, Try.ntmps7
            go_wp2_with fail
            rw [HW1.out, HW2.out]
            go_wp2_with (first
              | (go_at_call 20; (with_reducible refine HPE.out.mono ?_); rintro e w3 ⟨rfl, hB3⟩; have hL3 := hL.keep hB3; obtain ⟨l0, l1, l2, l3, l4, l5, l6⟩ := hL3.link; have hB03 := below_up hB hB3)
              | (go_at_call 31; (with_reducible refine (HNM.out _).mono ?_); rintro e w4 ⟨rfl, rfl⟩)
              | (go_at_call 32; first | ((with_reducible refine (HF.out _).mono ?_); rintro e w5 ⟨rfl, rfl⟩) | ((with_reducible refine (HT.out _).mono ?_); rintro e w6 ⟨rfl, rfl⟩))
              | (go_at_call 33; (with_reducible refine (HHR.out _ hB03).mono ?_); rintro e w7 ⟨rfl, hB7⟩))
            go_ret
            exact ⟨rfl, hB03⟩
          · have hq2 : q = Dc.homes la lo ra hn := by rw [← hq]; unfold Dc.times; rw [hmF, hmT, if_pos (show (true && true) = true from rfl), if_neg ho]; rfl
            subst hq2
            clear hq hmF hmT
            go_enter Try.func7, Try.ntmps7
            go_wp2_with fail
            rw [HW1.out, HW2.out]
            go_wp2_with (first
              | (go_at_call 20; (with_reducible refine HPE.out.mono ?_); rintro e w3 ⟨rfl, hB3⟩; have hL3 := hL.keep hB3; obtain ⟨l0, l1, l2, l3, l4, l5, l6⟩ := hL3.link; have hB03 := below_up hB hB3)
              | (go_at_call 31; (with_reducible refine (HNM.out _).mono ?_); rintro e w4 ⟨rfl, rfl⟩)
              | (go_at_call 32; first | ((with_reducible refine (HF.out _).mono ?_); rintro e w5 ⟨rfl, rfl⟩) | ((with_reducible refine (HT.out _).mono ?_); rintro e w6 ⟨rfl, rfl⟩))
              | (go_at_call 33; (with_reducible refine (HHR.out _ hB03).mono ?_); rintro e w7 ⟨rfl, hB7⟩))
            go_ret
            exact ⟨rfl, below_up hB03 hB7⟩
  · rw [if_neg h0] at hq
    rw [hq] at HPE h0
    have hq1 : (q == 0) = false := by simpa using h0
    have hq2 : (q != 0) = true := by simpa using h0
    have HNM : Hid True := trivial
    have HF := HNM; have HT := HNM
    clear hq
    go_enter Try.func7, Try.ntmps7
    go_wp2_with fail
    rw [HW1.out, HW2.out]
    go_wp2_with (first
      | (go_at_call 20; (with_reducible refine HPE.out.mono ?_); rintro e w3 ⟨rfl, hB3⟩; have hL3 := hL.keep hB3; obtain ⟨l0, l1, l2, l3, l4, l5, l6⟩ := hL3.link; have hB03 := below_up hB hB3)
      | (go_at_call 31; (with_reducible refine (HNM.out _).mono ?_); rintro e w4 ⟨rfl, rfl⟩)
      | (go_at_call 32; first | ((with_reducible refine (HF.out _).mono ?_); rintro e w5 ⟨rfl, rfl⟩) | ((with_reducible refine (HT.out _).mono ?_); rintro e w6 ⟨rfl, rfl⟩))
      | (go_at_call 33; (with_reducible refine (HHR.out _ hB03).mono ?_); rintro e w7 ⟨rfl, hB7⟩))
    go_ret
    exact ⟨rfl, hB03⟩
end Go.Proofs.Ytipmegkmkbbklaa
