/- The reference's AlbumError. -/
import Derived.Test.YtbbedepojogfmaaAlb
namespace Go.Proofs.Ytbbedepojogfmaa
open Go.RowKit Go.Sort Go.Shelf
set_option linter.unusedVariables false
theorem upto_one {P : Nat → Prop} {j : Nat} (h : ∀ k, k < j → P k) (g : P j) : ∀ k, k < j + 1 → P k := by
  intro k hk
  rcases Nat.lt_or_ge k j with h1 | h1
  · exact h k h1
  · obtain rfl : k = j := by omega
    exact g
set_option maxRecDepth 100000 in
set_option maxHeartbeats 16000000 in
theorem albumError_is (a : Alb) (w : World) (hI : a.In w) (hF : a.Fits) : Calls Try.prog 74 #[.agg #[.string a.name, .bool a.smart, .int .i64 a.rule.op, .slice a.rule.ka a.rule.kn a.rule.kc, .string a.rule.text, .int .i64 a.rule.low, .int .i64 a.rule.high, .slice a.rule.aa a.rule.an a.rule.ac, .slice a.pa a.pn a.pc, .slice a.ba a.bn a.bc]] w fun e w' => e = .returned (.int .i64 a.err) ∧ Below w.heap.size w w' := by
  obtain ⟨q, hq⟩ : ∃ q, a.err = q := ⟨_, rfl⟩
  rw [hq]
  unfold Alb.err at hq
  obtain ⟨W1, hW1, hP, hz1, hB1⟩ := box w #[.string a.name, .bool a.smart, .int .i64 a.rule.op, .slice a.rule.ka a.rule.kn a.rule.kc, .string a.rule.text, .int .i64 a.rule.low, .int .i64 a.rule.high, .slice a.rule.aa a.rule.an a.rule.ac, .slice a.pa a.pn a.pc, .slice a.ba a.bn a.bc] 105
  have HW1 := Lib.hid hW1
  clear hW1 hz1
  obtain ⟨q0, q1, q2, q3, q4, q5, q6, q7, q8, q9⟩ := hP.ten
  have HI := Lib.hid (hI.keep hB1); have HF := Lib.hid hF
  obtain ⟨hkn, han, hts⟩ := hF.rule.size
  have hpn9 := hF.pn
  have hbn9 := hF.bn
  cases hsm : a.smart
  · rw [hsm, if_neg (by simp)] at hq
    obtain ⟨bl, hbl⟩ : ∃ bl, a.rule.blank = bl := ⟨_, rfl⟩
    rw [hbl] at hq
    have HEM := Lib.hid (fun s (hs : s.size = 0) => sameBlank_is a.rule.op a.rule.ka a.rule.kn a.rule.kc a.rule.text a.rule.low a.rule.high a.rule.aa a.rule.an a.rule.ac a.rule.lat a.rule.lon s hs W1 hkn han HI.out.rule.row bl hbl)
    rw [hsm] at hP q1 HW1
    clear hI hF hbl
    cases bl
    · rw [if_neg (by rintro ⟨h, _⟩; cases h)] at hq
      subst hq
      go_enter Try.func74, Try.ntmps74
      go_wp2_with fail
      rw [HW1.out]
      go_wp2_with (go_at_call 102; refine (HEM.out _ (by rfl)).mono ?_; rintro e w3 ⟨rfl, hB3⟩)
      go_ret
      exact ⟨rfl, below_up hB1 hB3⟩
    · by_cases hbn : a.bn = 0
      · rw [if_pos ⟨rfl, hbn⟩] at hq
        have HLE := Lib.hid hq
        have hbn' : ¬ (0 : Int) < (a.bn : Int) := by omega
        have hbd : decide (0 < a.bn) = false := by simp; omega
        clear hq hbn
        -- (go_at_call 102; refine (HEM.out _ (by rfl)).mono ?_; rintro e w3 ⟨rfl, hB3⟩; obtain ⟨t0, t1, t2, t3, t4, t5, t6, t7, t8, t9⟩ := (hP.keep hB3).ten): the walk to the lists' checks
        obtain ⟨s, hs⟩ : ∃ s, Fd.scan (Fd.pbad a.pin) 0 a.pn = s := ⟨_, rfl⟩
        have HS := Lib.hid hs
        have HL1 := Lib.hid (fun W (hB : Below W1.heap.size W1 W) => listError_is a.pa a.pn a.pc a.pin W (HI.out.keep hB).pins HF.out.pn)
        rw [hs] at HL1
        clear hs
        by_cases h0 : s = 0
        · subst h0
          obtain ⟨r, hr⟩ : ∃ r, Fd.scan (Fd.pbad a.bar) 0 a.bn = r := ⟨_, rfl⟩
          have HR := Lib.hid hr
          have HL2 := Lib.hid (fun W (hB : Below W1.heap.size W1 W) => listError_is a.ba a.bn a.bc a.bar W (HI.out.keep hB).bars HF.out.bn)
          rw [hr] at HL2
          clear hr
          by_cases h1 : r = 0
          · subst h1
            have HP0 := HS; have HP1 := HR
            go_enter Try.func74, Try.ntmps74
            go_wp2_with fail
            rw [HW1.out]
            go_wp2_with (first | (go_at_call 102; refine (HEM.out _ (by rfl)).mono ?_; rintro e w3 ⟨rfl, hB3⟩; obtain ⟨t0, t1, t2, t3, t4, t5, t6, t7, t8, t9⟩ := (hP.keep hB3).ten) | (go_at_call 104; (with_reducible refine (HL1.out _ hB3).mono ?_); rintro e w5 ⟨rfl, rfl⟩) | (go_at_call 104; (with_reducible refine (HL2.out _ hB3).mono ?_); rintro e w5 ⟨rfl, rfl⟩))
            clear q0 q1 q2 q3 q4 q5 q6 q7 q8 q9 t0 t1 t2 t3 t4 t5 t6 t7 t8 t9
            go_loopg [47] a.bn (fun gk i wr => ∃ j : Nat, j ≤ a.bn ∧ gk = a.bn - j ∧ i = .int .i64 j ∧ (∀ k, k < j → Fd.hasB a.pin a.pn (a.bar k) = false) ∧ w3 = wr)
            case atStart => exact ⟨0, by omega, rfl, rfl, fun k hk => by omega, rfl⟩
            case round =>
              try clear hbn' hbd
              obtain ⟨j, hj, rfl, rfl, hall, rfl⟩ := hrel
              have HALL := Lib.hid hall; clear hall
              have hIw := HI.out.keep hB3
              obtain ⟨z0, z1, z2, z3, z4, z5, z6, z7, z8, z9⟩ := (hP.keep hB3).ten
              by_cases hlt : j < a.bn
              · obtain ⟨b1, off, hba, hb1, hcell⟩ := hIw.bars (by omega)
                rw [hba]
                have c0 : w3.cell? ⟨b1, off + j, none⟩ = some (.int .i64 (a.bar j)) := hcell j hlt
                have HCO := Lib.hid (contains_is a.pa a.pn a.pc a.pin (a.bar j) w3 hIw.pins HF.out.pn)
                clear hcell hIw
                obtain ⟨hb, hhb⟩ : ∃ hb, Fd.hasB a.pin a.pn (a.bar j) = hb := ⟨_, rfl⟩
                rw [hhb] at HCO
                have HHB := Lib.hid hhb; clear hhb
                cases hb
                · go_wp2_with (go_at_call 105; refine HCO.out.mono ?_; rintro e w5 ⟨rfl, rfl⟩)
                  rw [← hba]
                  go_roundg (a.bn - (j + 1))
                  case rel => exact ⟨j + 1, by omega, rfl, by go_num, upto_one HALL.out HHB.out, rfl⟩
                  case measure => omega
                · have HTT : Hid (a.twice = true) := Lib.hid (Ev.anyB_yes j hlt HHB.out)
                  have HE := Lib.hid ((Alb.listE_c HP0.out HP1.out HTT.out).symm.trans HLE.out)
                  go_wp2_with (go_at_call 105; refine HCO.out.mono ?_; rintro e w5 ⟨rfl, rfl⟩)
                  go_ret
                  exact ⟨ret_int HE.out, below_up hB1 hB3⟩
              · obtain rfl : j = a.bn := by omega
                have HTF : Hid (a.twice = false) := Lib.hid (Ev.anyB_no HALL.out)
                clear hIw
                -- behind the loop: t is false; the world is w3
                by_cases k1 : 1000 < a.pn
                · have k1' : (1000 : Int) < (a.pn : Int) := by omega
                  have HE := Lib.hid ((Alb.listE_d HP0.out HP1.out HTF.out (.inl k1)).symm.trans HLE.out)
                  clear k1
                  go_wp2_with fail
                  go_ret
                  exact ⟨ret_int HE.out, below_up hB1 hB3⟩
                · have k1' : ¬ (1000 : Int) < (a.pn : Int) := by omega
                  by_cases k2 : 1000 < a.bn
                  · have k2' : (1000 : Int) < (a.bn : Int) := by omega
                    have HE := Lib.hid ((Alb.listE_d HP0.out HP1.out HTF.out (.inr k2)).symm.trans HLE.out)
                    clear k1 k2
                    go_wp2_with fail
                    go_ret
                    exact ⟨ret_int HE.out, below_up hB1 hB3⟩
                  · have k2' : ¬ (1000 : Int) < (a.bn : Int) := by omega
                    have HE := Lib.hid ((Alb.listE_e HP0.out HP1.out HTF.out (by rintro (h | h); exact k1 h; exact k2 h)).symm.trans HLE.out)
                    clear k1 k2
                    go_wp2_with fail
                    go_ret
                    exact ⟨ret_int HE.out, below_up hB1 hB3⟩
          · have h2 : (r != 0) = true := by simpa using h1
            have HE := Lib.hid ((Alb.listE_b HS.out HR.out h1).symm.trans HLE.out)
            clear h1
            go_enter Try.func74, Try.ntmps74
            go_wp2_with fail
            rw [HW1.out]
            go_wp2_with (first | (go_at_call 102; refine (HEM.out _ (by rfl)).mono ?_; rintro e w3 ⟨rfl, hB3⟩; obtain ⟨t0, t1, t2, t3, t4, t5, t6, t7, t8, t9⟩ := (hP.keep hB3).ten) | (go_at_call 104; (with_reducible refine (HL1.out _ hB3).mono ?_); rintro e w5 ⟨rfl, rfl⟩) | (go_at_call 104; (with_reducible refine (HL2.out _ hB3).mono ?_); rintro e w5 ⟨rfl, rfl⟩))
            go_ret
            exact ⟨ret_int HE.out, below_up hB1 hB3⟩
        · have h1 : (s != 0) = true := by simpa using h0
          have HE := Lib.hid ((Alb.listE_a HS.out h0).symm.trans HLE.out)
          clear h0
          go_enter Try.func74, Try.ntmps74
          go_wp2_with fail
          rw [HW1.out]
          go_wp2_with (first | (go_at_call 102; refine (HEM.out _ (by rfl)).mono ?_; rintro e w3 ⟨rfl, hB3⟩; obtain ⟨t0, t1, t2, t3, t4, t5, t6, t7, t8, t9⟩ := (hP.keep hB3).ten) | (go_at_call 104; (with_reducible refine (HL1.out _ hB3).mono ?_); rintro e w5 ⟨rfl, rfl⟩))
          go_ret
          exact ⟨ret_int HE.out, below_up hB1 hB3⟩
      · rw [if_neg (by rintro ⟨_, h⟩; exact hbn h)] at hq
        subst hq
        have hbn' : (0 : Int) < (a.bn : Int) := by omega
        clear hbn
        go_enter Try.func74, Try.ntmps74
        go_wp2_with fail
        rw [HW1.out]
        go_wp2_with (go_at_call 102; refine (HEM.out _ (by rfl)).mono ?_; rintro e w3 ⟨rfl, hB3⟩; obtain ⟨t0, t1, t2, t3, t4, t5, t6, t7, t8, t9⟩ := (hP.keep hB3).ten)
        go_ret
        exact ⟨rfl, below_up hB1 hB3⟩
  · rw [hsm, if_pos rfl] at hq
    rw [hsm] at hP q1 HW1
    have HCC := Lib.hid (condError_is a.rule W1 HI.out.rule hF.rule)
    obtain ⟨re, hre⟩ : ∃ re, a.rule.err = re := ⟨_, rfl⟩
    rw [hre] at hq HCC
    clear hI hF hre
    by_cases hr0 : re = 0
    · rw [if_pos hr0] at hq
      subst hr0
      have HLE := Lib.hid hq
      clear hq
      -- (go_at_call 103; refine HCC.out.mono ?_; rintro e w3 ⟨rfl, hB3⟩; obtain ⟨t0, t1, t2, t3, t4, t5, t6, t7, t8, t9⟩ := (hP.keep hB3).ten): the walk to the lists' checks
      obtain ⟨s, hs⟩ : ∃ s, Fd.scan (Fd.pbad a.pin) 0 a.pn = s := ⟨_, rfl⟩
      have HS := Lib.hid hs
      have HL1 := Lib.hid (fun W (hB : Below W1.heap.size W1 W) => listError_is a.pa a.pn a.pc a.pin W (HI.out.keep hB).pins HF.out.pn)
      rw [hs] at HL1
      clear hs
      by_cases h0 : s = 0
      · subst h0
        obtain ⟨r, hr⟩ : ∃ r, Fd.scan (Fd.pbad a.bar) 0 a.bn = r := ⟨_, rfl⟩
        have HR := Lib.hid hr
        have HL2 := Lib.hid (fun W (hB : Below W1.heap.size W1 W) => listError_is a.ba a.bn a.bc a.bar W (HI.out.keep hB).bars HF.out.bn)
        rw [hr] at HL2
        clear hr
        by_cases h1 : r = 0
        · subst h1
          have HP0 := HS; have HP1 := HR
          go_enter Try.func74, Try.ntmps74
          go_wp2_with fail
          rw [HW1.out]
          go_wp2_with (first | (go_at_call 103; refine HCC.out.mono ?_; rintro e w3 ⟨rfl, hB3⟩; obtain ⟨t0, t1, t2, t3, t4, t5, t6, t7, t8, t9⟩ := (hP.keep hB3).ten) | (go_at_call 104; (with_reducible refine (HL1.out _ hB3).mono ?_); rintro e w5 ⟨rfl, rfl⟩) | (go_at_call 104; (with_reducible refine (HL2.out _ hB3).mono ?_); rintro e w5 ⟨rfl, rfl⟩))
          clear q0 q1 q2 q3 q4 q5 q6 q7 q8 q9 t0 t1 t2 t3 t4 t5 t6 t7 t8 t9
          go_loopg [47] a.bn (fun gk i wr => ∃ j : Nat, j ≤ a.bn ∧ gk = a.bn - j ∧ i = .int .i64 j ∧ (∀ k, k < j → Fd.hasB a.pin a.pn (a.bar k) = false) ∧ w3 = wr)
          case atStart => exact ⟨0, by omega, rfl, rfl, fun k hk => by omega, rfl⟩
          case round =>
            try clear hbn' hbd
            obtain ⟨j, hj, rfl, rfl, hall, rfl⟩ := hrel
            have HALL := Lib.hid hall; clear hall
            have hIw := HI.out.keep hB3
            obtain ⟨z0, z1, z2, z3, z4, z5, z6, z7, z8, z9⟩ := (hP.keep hB3).ten
            by_cases hlt : j < a.bn
            · obtain ⟨b1, off, hba, hb1, hcell⟩ := hIw.bars (by omega)
              rw [hba]
              have c0 : w3.cell? ⟨b1, off + j, none⟩ = some (.int .i64 (a.bar j)) := hcell j hlt
              have HCO := Lib.hid (contains_is a.pa a.pn a.pc a.pin (a.bar j) w3 hIw.pins HF.out.pn)
              clear hcell hIw
              obtain ⟨hb, hhb⟩ : ∃ hb, Fd.hasB a.pin a.pn (a.bar j) = hb := ⟨_, rfl⟩
              rw [hhb] at HCO
              have HHB := Lib.hid hhb; clear hhb
              cases hb
              · go_wp2_with (go_at_call 105; refine HCO.out.mono ?_; rintro e w5 ⟨rfl, rfl⟩)
                rw [← hba]
                go_roundg (a.bn - (j + 1))
                case rel => exact ⟨j + 1, by omega, rfl, by go_num, upto_one HALL.out HHB.out, rfl⟩
                case measure => omega
              · have HTT : Hid (a.twice = true) := Lib.hid (Ev.anyB_yes j hlt HHB.out)
                have HE := Lib.hid ((Alb.listE_c HP0.out HP1.out HTT.out).symm.trans HLE.out)
                go_wp2_with (go_at_call 105; refine HCO.out.mono ?_; rintro e w5 ⟨rfl, rfl⟩)
                go_ret
                exact ⟨ret_int HE.out, below_up hB1 hB3⟩
            · obtain rfl : j = a.bn := by omega
              have HTF : Hid (a.twice = false) := Lib.hid (Ev.anyB_no HALL.out)
              clear hIw
              -- behind the loop: t is false; the world is w3
              by_cases k1 : 1000 < a.pn
              · have k1' : (1000 : Int) < (a.pn : Int) := by omega
                have HE := Lib.hid ((Alb.listE_d HP0.out HP1.out HTF.out (.inl k1)).symm.trans HLE.out)
                clear k1
                go_wp2_with fail
                go_ret
                exact ⟨ret_int HE.out, below_up hB1 hB3⟩
              · have k1' : ¬ (1000 : Int) < (a.pn : Int) := by omega
                by_cases k2 : 1000 < a.bn
                · have k2' : (1000 : Int) < (a.bn : Int) := by omega
                  have HE := Lib.hid ((Alb.listE_d HP0.out HP1.out HTF.out (.inr k2)).symm.trans HLE.out)
                  clear k1 k2
                  go_wp2_with fail
                  go_ret
                  exact ⟨ret_int HE.out, below_up hB1 hB3⟩
                · have k2' : ¬ (1000 : Int) < (a.bn : Int) := by omega
                  have HE := Lib.hid ((Alb.listE_e HP0.out HP1.out HTF.out (by rintro (h | h); exact k1 h; exact k2 h)).symm.trans HLE.out)
                  clear k1 k2
                  go_wp2_with fail
                  go_ret
                  exact ⟨ret_int HE.out, below_up hB1 hB3⟩
        · have h2 : (r != 0) = true := by simpa using h1
          have HE := Lib.hid ((Alb.listE_b HS.out HR.out h1).symm.trans HLE.out)
          clear h1
          go_enter Try.func74, Try.ntmps74
          go_wp2_with fail
          rw [HW1.out]
          go_wp2_with (first | (go_at_call 103; refine HCC.out.mono ?_; rintro e w3 ⟨rfl, hB3⟩; obtain ⟨t0, t1, t2, t3, t4, t5, t6, t7, t8, t9⟩ := (hP.keep hB3).ten) | (go_at_call 104; (with_reducible refine (HL1.out _ hB3).mono ?_); rintro e w5 ⟨rfl, rfl⟩) | (go_at_call 104; (with_reducible refine (HL2.out _ hB3).mono ?_); rintro e w5 ⟨rfl, rfl⟩))
          go_ret
          exact ⟨ret_int HE.out, below_up hB1 hB3⟩
      · have h1 : (s != 0) = true := by simpa using h0
        have HE := Lib.hid ((Alb.listE_a HS.out h0).symm.trans HLE.out)
        clear h0
        go_enter Try.func74, Try.ntmps74
        go_wp2_with fail
        rw [HW1.out]
        go_wp2_with (first | (go_at_call 103; refine HCC.out.mono ?_; rintro e w3 ⟨rfl, hB3⟩; obtain ⟨t0, t1, t2, t3, t4, t5, t6, t7, t8, t9⟩ := (hP.keep hB3).ten) | (go_at_call 104; (with_reducible refine (HL1.out _ hB3).mono ?_); rintro e w5 ⟨rfl, rfl⟩))
        go_ret
        exact ⟨ret_int HE.out, below_up hB1 hB3⟩
    · rw [if_neg hr0] at hq
      have hr1 : (re != 0) = true := by simpa using hr0
      have HQ := Lib.hid hq
      clear hr0 hq
      go_enter Try.func74, Try.ntmps74
      go_wp2_with fail
      rw [HW1.out]
      go_wp2_with (go_at_call 103; refine HCC.out.mono ?_; rintro e w3 ⟨rfl, hB3⟩)
      go_ret
      exact ⟨ret_int HQ.out, below_up hB1 hB3⟩
end Go.Proofs.Ytbbedepojogfmaa
