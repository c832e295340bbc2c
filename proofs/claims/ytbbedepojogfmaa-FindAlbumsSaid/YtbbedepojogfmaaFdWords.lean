/- checkIds, checkWords: contracts. -/
import Derived.Test.YtbbedepojogfmaaFdSmall
namespace Go.Proofs.Ytbbedepojogfmaa
open Go.RowKit Go.Sort Go.Shelf
set_option linter.unusedVariables false
set_option maxRecDepth 100000 in
set_option maxHeartbeats 2000000 in
theorem checkIds_is (a : Option Addr) (n ca : Nat) (who : Nat → Int) (w : World) (hr : Row w a n (fun i => .int .i64 (who i))) (hn : n ≤ 9223372036854775807) :
    Calls Try.prog 94 #[.slice a n ca] w fun e w' => e = .returned (.int .i64 (Fd.scan (Fd.pbad who) 0 n)) ∧ w = w' := by
  obtain ⟨q, hq⟩ : ∃ q, Fd.scan (Fd.pbad who) 0 n = q := ⟨_, rfl⟩
  rw [hq]
  have HR := Lib.hid hr; have HQ := Lib.hid hq; clear hr hq
  go_enter Try.func94, Try.ntmps94
  go_wp2_with fail
  go_loopg [7] n (fun gk i wr => ∃ j : Nat, j ≤ n ∧ gk = n - j ∧ i = .int .i64 j ∧ Fd.scan (Fd.pbad who) j (n - j) = q ∧ w = wr)
  case atStart => exact ⟨0, by omega, rfl, rfl, HQ.out, rfl⟩
  case round =>
    obtain ⟨j, hj, rfl, rfl, hsc, rfl⟩ := hrel
    have HSC := Lib.hid hsc; clear hsc
    by_cases hlt : j < n
    · obtain ⟨b, off, rfl, hb, hcell⟩ := HR.out (by omega)
      have c0 : w.cell? ⟨b, off + j, none⟩ = some (.int .i64 (who j)) := hcell j hlt
      have hcell : ∀ i, i < n → w.cell? ⟨b, off + i, none⟩ = some (.int .i64 (who i)) := hcell
      have HC := Lib.hid hcell
      clear hcell
      have hcell := HC.out
      -- a round over the people; f.outside: the function that asks; outsideF_is: its contract; rfl: the world's fact at the end
      cases hin : decide (1 ≤ who j ∧ who j ≤ 1000000)
      · have HIN := Lib.hid hin
        have HBAD := Lib.hid (id (Fd.scan_here HSC.out hlt (Fd.pbad_out hin) (by omega)))
        clear hin
        go_wp2_with (go_at_call 59; (with_reducible refine (outsideF_is (who j) 1 1000000 false HIN.out _).mono ?_); rintro e w2 ⟨rfl, rfl⟩)
        go_ret
        exact ⟨ret_int HBAD.out, rfl⟩
      · have HIN := Lib.hid hin
        by_cases hj0 : j = 0
        · have hj0' : decide ((0 : Int) < (j : Int)) = false := by simpa using hj0
          have hj0'' : ((0 : Int) < (j : Int)) = False := by simpa using hj0
          have hj0n : (0 < j) = False := by simpa using hj0
          have HBAD := Lib.hid (Fd.scan_next HSC.out hlt (Fd.pbad_first hin hj0))
          clear hin hj0
          go_wp2_with (go_at_call 59; (with_reducible refine (outsideF_is (who j) 1 1000000 true HIN.out _).mono ?_); rintro e w2 ⟨rfl, rfl⟩)
          go_roundg (n - (j + 1))
          case rel => exact ⟨j + 1, by omega, rfl, by go_num, HBAD.out, rfl⟩
          case measure => omega
        · have hj1 : 1 ≤ j := by omega
          have hj0' : decide ((0 : Int) < (j : Int)) = true := by simp; omega
          have hj0n : 0 < j := by omega
          have d0 := hcell (j - 1) (by omega)
          have hi0 : (0 : Int) ≤ (j : Int) - 1 := by omega
          have hi1 : (j : Int) - 1 < (n : Int) := by omega
          by_cases ho : who j ≤ who (j - 1)
          · have HBAD := Lib.hid (id (Fd.scan_here HSC.out hlt (Fd.pbad_ord hin hj0 ho) (by omega)))
            clear hin hj0
            go_wp2_with (go_at_call 59; (with_reducible refine (outsideF_is (who j) 1 1000000 true HIN.out _).mono ?_); rintro e w2 ⟨rfl, rfl⟩)
            go_ret
            exact ⟨ret_int HBAD.out, rfl⟩
          · have HBAD := Lib.hid (Fd.scan_next HSC.out hlt (Fd.pbad_ok hin hj0 ho))
            have ho' : who (j - 1) < who j := by omega
            clear hin hj0 ho
            go_wp2_with (go_at_call 59; (with_reducible refine (outsideF_is (who j) 1 1000000 true HIN.out _).mono ?_); rintro e w2 ⟨rfl, rfl⟩)
            go_roundg (n - (j + 1))
            case rel => exact ⟨j + 1, by omega, rfl, by go_num, HBAD.out, rfl⟩
            case measure => omega
    · obtain rfl : j = n := by omega
      go_wp2_with fail
      go_ret
      exact ⟨ret_int (Fd.scan_end HSC.out).symm, rfl⟩
set_option maxRecDepth 100000 in
set_option maxHeartbeats 4000000 in
theorem checkWords_is (p : Ph) (w : World) (hI : p.In w) (hF : p.Fits) : Calls Try.prog 63 #[.agg #[.int .i64 p.id, .string p.file, .int .i64 p.mom, .int .i64 p.zone, .slice p.wa p.wn p.wc, .int .i64 p.W, .int .i64 p.H, .int .i64 p.turn, .int .i64 p.stars, .slice p.ta p.tn p.tc, .string p.cap, .slice p.pa p.pn p.pc, .bool p.hid]] w fun e w' => e = .returned (.int .i64 p.words) ∧ Below w.heap.size w w' := by
  -- a photo's box: W1, its 13 cells
  obtain ⟨W1, hW1, hP, hz1, hB1⟩ := box w #[.int .i64 p.id, .string p.file, .int .i64 p.mom, .int .i64 p.zone, .slice p.wa p.wn p.wc, .int .i64 p.W, .int .i64 p.H, .int .i64 p.turn, .int .i64 p.stars, .slice p.ta p.tn p.tc, .string p.cap, .slice p.pa p.pn p.pc, .bool p.hid] 40
  have HW1 := Lib.hid hW1
  clear hW1 hz1
  obtain ⟨q0, q1, q2, q3, q4, q5, q6, q7, q8, q9, q10, q11, q12⟩ := hP.photo
  have hI := hI.keep hB1
  have HTG := Lib.hid hI.tags
  have HTS := Lib.hid hF.tag
  have HID := Lib.hid (fun W (hB : Below W1.heap.size W1 W) => checkIds_is p.pa p.pn p.pc p.who W (hI.keep hB).people hF.pn)
  have hbt := hF.tn; have hbp := hF.pn; have hbc := hF.cap
  obtain ⟨b, hb⟩ : ∃ b, Fd.plainB p.cap = b := ⟨_, rfl⟩
  have HLOW := Lib.hid (fun W => low_is p.cap hF.cap b hb W)
  obtain ⟨q, hq⟩ : ∃ q, p.words = q := ⟨_, rfl⟩
  rw [hq]
  unfold Ph.words at hq
  rw [hb] at hq
  clear hI hF hb
  generalize p.ta = ta at *
  by_cases ht : 20 < p.tn
  · rw [if_pos ht] at hq
    subst hq
    have ht' : (20 : Int) < (p.tn : Int) := by omega
    go_enter Try.func63, Try.ntmps63
    go_wp2_with fail
    rw [HW1.out]
    go_wp2_with fail
    go_ret
    exact ⟨rfl, hB1⟩
  · rw [if_neg ht] at hq
    have ht' : ¬ (20 : Int) < (p.tn : Int) := by omega
    obtain ⟨s, hs⟩ : ∃ s, Fd.scan (Fd.tbad p.tag) 0 p.tn = s := ⟨_, rfl⟩
    rw [hs] at hq
    have HTO : Hid (∀ e : Int, e ≠ 0 → e = s → e = q) := by
      intro e h0 he
      subst he
      rw [if_neg h0] at hq
      exact hq
    have HS := Lib.hid hs; have HQ := Lib.hid hq; clear hs hq
    go_enter Try.func63, Try.ntmps63
    go_wp2_with fail
    rw [HW1.out]
    go_wp2_with fail
    go_loopg [12] p.tn (fun gk i wr => ∃ j : Nat, j ≤ p.tn ∧ gk = p.tn - j ∧ i = .int .i64 j ∧ Fd.scan (Fd.tbad p.tag) j (p.tn - j) = s ∧ W1 = wr)
    case atStart => exact ⟨0, by omega, rfl, rfl, HS.out, rfl⟩
    case round =>
      obtain ⟨j, hj, rfl, rfl, hsc, rfl⟩ := hrel
      have HSC := Lib.hid hsc; clear hsc
      by_cases hlt : j < p.tn
      · obtain ⟨b1, off, rfl, hb1, hcell⟩ := HTG.out (by omega)
        have hcell : ∀ i, i < p.tn → W1.cell? ⟨b1, off + i, none⟩ = some (.string (p.tag i)) := hcell
        have c0 := hcell j hlt
        have HC := Lib.hid hcell
        clear hcell
        have hcell := HC.out
        -- a round over the tags; tintype/where.IsName: the function that asks; isNameW_is: its contract; hB1: the world's fact at the end; p.tag, n, j
        cases hin : Fd.nameB (p.tag j)
        · have HIN := Lib.hid hin
          have HBAD := Lib.hid (HTO.out _ (by omega) (Fd.scan_here HSC.out hlt (Fd.tbad_name hin) (by omega)))
          clear hin
          go_wp2_with (go_at_call 72; (with_reducible refine (isNameW_is (p.tag j) (HTS.out j hlt) false HIN.out _).mono ?_); rintro e w2 ⟨rfl, rfl⟩)
          go_ret
          exact ⟨ret_int HBAD.out, hB1⟩
        · have HIN := Lib.hid hin
          by_cases hj0 : j = 0
          · have hj0' : decide ((0 : Int) < (j : Int)) = false := by simpa using hj0
            have hj0'' : ((0 : Int) < (j : Int)) = False := by simpa using hj0
            have hj0n : (0 < j) = False := by simpa using hj0
            have HBAD := Lib.hid (Fd.scan_next HSC.out hlt (Fd.tbad_first hin hj0))
            clear hin hj0
            go_wp2_with (go_at_call 72; (with_reducible refine (isNameW_is (p.tag j) (HTS.out j hlt) true HIN.out _).mono ?_); rintro e w2 ⟨rfl, rfl⟩)
            go_roundg (p.tn - (j + 1))
            case rel => exact ⟨j + 1, by omega, rfl, by go_num, HBAD.out, rfl⟩
            case measure => omega
          · have hj1 : 1 ≤ j := by omega
            have hj0' : decide ((0 : Int) < (j : Int)) = true := by simp; omega
            have hj0n : 0 < j := by omega
            have d0 := hcell (j - 1) (by omega)
            have hi0 : (0 : Int) ≤ (j : Int) - 1 := by omega
            have hi1 : (j : Int) - 1 < (p.tn : Int) := by omega
            cases ho : Fd.leS (p.tag j) (p.tag (j - 1))
            · have HBAD := Lib.hid (Fd.scan_next HSC.out hlt (Fd.tbad_ok hin hj0 ho))
              unfold Fd.leS at ho
              clear hin hj0
              go_wp2_with (go_at_call 72; (with_reducible refine (isNameW_is (p.tag j) (HTS.out j hlt) true HIN.out _).mono ?_); rintro e w2 ⟨rfl, rfl⟩)
              go_roundg (p.tn - (j + 1))
              case rel => exact ⟨j + 1, by omega, rfl, by go_num, HBAD.out, rfl⟩
              case measure => omega
            · have HBAD := Lib.hid (HTO.out _ (by omega) (Fd.scan_here HSC.out hlt (Fd.tbad_ord hin hj0 ho) (by omega)))
              unfold Fd.leS at ho
              clear hin hj0
              go_wp2_with (go_at_call 72; (with_reducible refine (isNameW_is (p.tag j) (HTS.out j hlt) true HIN.out _).mono ?_); rintro e w2 ⟨rfl, rfl⟩)
              go_ret
              exact ⟨ret_int HBAD.out, hB1⟩
      · obtain rfl : j = p.tn := by omega
        have hs0 := Fd.scan_end HSC.out
        have hq := HQ.out
        rw [if_pos hs0] at hq
        clear hs0
        by_cases hc : 200 < p.cap.size
        · rw [if_pos hc] at hq
          have hc' : (200 : Int) < (p.cap.size : Int) := by omega
          subst hq
          go_wp2_with fail
          go_ret
          exact ⟨rfl, hB1⟩
        · rw [if_neg hc] at hq
          have hc' : ¬ (200 : Int) < (p.cap.size : Int) := by omega
          cases b
          · rw [if_neg (by simp)] at hq
            subst hq
            go_wp2_with (go_at_call 93; refine (HLOW.out _).mono ?_; rintro e w3 ⟨rfl, hB3⟩)
            go_ret
            exact ⟨rfl, below_up hB1 hB3⟩
          · rw [if_pos rfl] at hq
            by_cases hn : 20 < p.pn
            · rw [if_pos hn] at hq
              have hn' : (20 : Int) < (p.pn : Int) := by omega
              subst hq
              go_wp2_with (go_at_call 93; refine (HLOW.out _).mono ?_; rintro e w3 ⟨rfl, hB3⟩; obtain ⟨t0, t1, t2, t3, t4, t5, t6, t7, t8, t9, t10, t11, t12⟩ := (hP.keep hB3).photo)
              go_ret
              exact ⟨rfl, below_up hB1 hB3⟩
            · rw [if_neg hn] at hq
              have hn' : ¬ (20 : Int) < (p.pn : Int) := by omega
              have HQ2 := Lib.hid hq; clear hq
              go_wp2_with (first
                | (go_at_call 93; refine (HLOW.out _).mono ?_; rintro e w3 ⟨rfl, hB3⟩; obtain ⟨t0, t1, t2, t3, t4, t5, t6, t7, t8, t9, t10, t11, t12⟩ := (hP.keep hB3).photo)
                | (go_at_call 94; refine (HID.out _ hB3).mono ?_; rintro e w4 ⟨rfl, rfl⟩))
              go_ret
              exact ⟨ret_int HQ2.out, below_up hB1 hB3⟩
end Go.Proofs.Ytbbedepojogfmaa
