/- checkAlbum. -/
import Derived.Test.YtbbedepojogfmaaAlbEmp
import Derived.Test.YtbbedepojogfmaaCndErr
namespace Go.Proofs.Ytbbedepojogfmaa
open Go.RowKit Go.Sort Go.Shelf
set_option linter.unusedVariables false
theorem album1_eg : ∀ args w, (callFunc 100 args).run Try.prog w = .ok (.enter 100 args) w := enters_of Try.func100 (by kernel_rfl) rfl
set_option maxHeartbeats 2000000 in
theorem album1_is (a : Alb) (sm : Bool) (b : Nat) (x : Int) (w : World) (hP : Blk w b #[.string a.name, .bool sm, .int .i64 a.rule.op, .slice a.rule.ka a.rule.kn a.rule.kc, .string a.rule.text, .int .i64 a.rule.low, .int .i64 a.rule.high, .slice a.rule.aa a.rule.an a.rule.ac, .slice a.pa a.pn a.pc, .slice a.ba a.bn a.bc] 105) (hr : Row w a.pa a.pn (fun i => .int .i64 (a.pin i))) (hs : Fd.scan (Fd.pbad a.pin) 0 a.pn = 0) :
    Calls Try.prog 100 #[.int .i64 x, .pointer (some ⟨b, 0, none⟩)] w fun e w' => e = .returned (.bool (Fd.hasB a.pin a.pn x)) ∧ w = w' := by
  have HC := Lib.hid (containsF_is a.pa a.pn a.pc a.pin x w hr hs)
  obtain ⟨q0, q1, q2, q3, q4, q5, q6, q7, q8, q9⟩ := hP.ten
  clear hr hs hP
  go_enter Try.func100, Try.ntmps100
  go_wp2_with (go_at_call 101; refine HC.out.mono ?_; rintro e w2 ⟨rfl, rfl⟩)
  go_ret
  exact ⟨rfl, rfl⟩
theorem albTwice_is (a : Alb) (sm : Bool) (b : Nat) (w : World) (hP : Blk w b #[.string a.name, .bool sm, .int .i64 a.rule.op, .slice a.rule.ka a.rule.kn a.rule.kc, .string a.rule.text, .int .i64 a.rule.low, .int .i64 a.rule.high, .slice a.rule.aa a.rule.an a.rule.ac, .slice a.pa a.pn a.pc, .slice a.ba a.bn a.bc] 105) (hI : a.In w) (hF : a.Fits) (hs : Fd.scan (Fd.pbad a.pin) 0 a.pn = 0) :
    Calls Try.prog 82 #[.slice a.ba a.bn a.bc, .func (.func 100) #[] #[.pointer (some ⟨b, 0, none⟩)]] w fun e w' => e = .returned (.bool a.twice) ∧ w = w' :=
  containsFunc_any 100 #[.pointer (some ⟨b, 0, none⟩)] (fun x => Fd.hasB a.pin a.pn x) album1_eg a.ba a.bn a.bc a.bar w hF.bn hI.bars (fun i hi => album1_is a sm b (a.bar i) w hP hI.pins hs)
theorem Alb.listE_a {a : Alb} {q : Int} (h : Fd.scan (Fd.pbad a.pin) 0 a.pn = q) (h0 : q ≠ 0) : a.listE = q := by unfold Alb.listE; rw [h, if_neg h0]
theorem Alb.listE_b {a : Alb} {q : Int} (g : Fd.scan (Fd.pbad a.pin) 0 a.pn = 0) (h : Fd.scan (Fd.pbad a.bar) 0 a.bn = q) (h0 : q ≠ 0) : a.listE = q := by unfold Alb.listE; rw [if_pos g, h, if_neg h0]
theorem Alb.listE_c {a : Alb} (g : Fd.scan (Fd.pbad a.pin) 0 a.pn = 0) (h : Fd.scan (Fd.pbad a.bar) 0 a.bn = 0) (t : a.twice = true) : a.listE = 6 := by unfold Alb.listE; rw [if_pos g, if_pos h, if_pos t]
theorem Alb.listE_d {a : Alb} (g : Fd.scan (Fd.pbad a.pin) 0 a.pn = 0) (h : Fd.scan (Fd.pbad a.bar) 0 a.bn = 0) (t : a.twice = false) (k : 1000 < a.pn ∨ 1000 < a.bn) : a.listE = 4 := by unfold Alb.listE; rw [if_pos g, if_pos h, if_neg (by rw [t]; simp), if_pos k]
theorem Alb.listE_e {a : Alb} (g : Fd.scan (Fd.pbad a.pin) 0 a.pn = 0) (h : Fd.scan (Fd.pbad a.bar) 0 a.bn = 0) (t : a.twice = false) (k : ¬ (1000 < a.pn ∨ 1000 < a.bn)) : a.listE = 0 := by unfold Alb.listE; rw [if_pos g, if_pos h, if_neg (by rw [t]; simp), if_neg k]
set_option maxRecDepth 100000 in
set_option maxHeartbeats 16000000 in
theorem checkAlbum_is (a : Alb) (w : World) (hI : a.In w) (hF : a.Fits) : Calls Try.prog 73 #[.agg #[.string a.name, .bool a.smart, .int .i64 a.rule.op, .slice a.rule.ka a.rule.kn a.rule.kc, .string a.rule.text, .int .i64 a.rule.low, .int .i64 a.rule.high, .slice a.rule.aa a.rule.an a.rule.ac, .slice a.pa a.pn a.pc, .slice a.ba a.bn a.bc]] w fun e w' => e = .returned (.int .i64 a.err) ∧ Below w.heap.size w w' := by
  obtain ⟨q, hq⟩ : ∃ q, a.err = q := ⟨_, rfl⟩
  rw [hq]
  unfold Alb.err at hq
  obtain ⟨W1, hW1, hP, hz1, hB1⟩ := box w #[.string a.name, .bool a.smart, .int .i64 a.rule.op, .slice a.rule.ka a.rule.kn a.rule.kc, .string a.rule.text, .int .i64 a.rule.low, .int .i64 a.rule.high, .slice a.rule.aa a.rule.an a.rule.ac, .slice a.pa a.pn a.pc, .slice a.ba a.bn a.bc] 105
  have HW1 := Lib.hid hW1
  clear hW1 hz1
  obtain ⟨q0, q1, q2, q3, q4, q5, q6, q7, q8, q9⟩ := hP.ten
  have HI := Lib.hid (hI.keep hB1); have HF := Lib.hid hF
  obtain ⟨hkn, han, hts⟩ := hF.rule.size
  cases hsm : a.smart
  · rw [hsm, if_neg (by simp)] at hq
    obtain ⟨bl, hbl⟩ : ∃ bl, a.rule.blank = bl := ⟨_, rfl⟩
    rw [hbl] at hq
    have HEM := Lib.hid (fun W => empty_is a.rule.op a.rule.ka a.rule.kn a.rule.kc a.rule.text a.rule.low a.rule.high a.rule.aa a.rule.an a.rule.ac W hkn han bl hbl)
    rw [hsm] at hP q1 HW1
    clear hI hF hbl
    cases bl
    · rw [if_neg (by rintro ⟨h, _⟩; cases h)] at hq
      subst hq
      go_enter Try.func73, Try.ntmps73
      go_wp2_with fail
      rw [HW1.out]
      go_wp2_with (go_at_call 98; refine (HEM.out _).mono ?_; rintro e w3 ⟨rfl, hB3⟩)
      go_ret
      exact ⟨rfl, below_up hB1 hB3⟩
    · by_cases hbn : a.bn = 0
      · rw [if_pos ⟨rfl, hbn⟩] at hq
        have HLE := Lib.hid hq
        have hbn' : ¬ (0 : Int) < (a.bn : Int) := by omega
        have hbd : decide (0 < a.bn) = false := by simp; omega
        clear hq hbn
        go_enter Try.func73, Try.ntmps73
        go_wp2_with fail
        rw [HW1.out]
        go_wp2_with (go_at_call 98; refine (HEM.out _).mono ?_; rintro e w3 ⟨rfl, hB3⟩; obtain ⟨t0, t1, t2, t3, t4, t5, t6, t7, t8, t9⟩ := (hP.keep hB3).ten)
        clear q0 q1 q2 q3 q4 q5 q6 q7 q8 q9 t0 t1 t2 t3 t4 t5 t6 t7 t8 t9
        -- behind the rule's check: the world is w3, hB3 : Below W1.heap.size W1 w3; HLE: a.listE = q
        go_loopg [36] 2 (fun gk i wr => ∃ j : Nat, j ≤ 2 ∧ gk = 2 - j ∧ i = .int .i64 j ∧ (1 ≤ j → Fd.scan (Fd.pbad a.pin) 0 a.pn = 0) ∧ (2 ≤ j → Fd.scan (Fd.pbad a.bar) 0 a.bn = 0) ∧ w3.alloc (.cells #[.slice a.pa a.pn a.pc, .slice a.ba a.bn a.bc] 29) = wr)
        case atStart => exact ⟨0, by omega, rfl, rfl, fun h => by omega, fun h => by omega, rfl⟩
        case round =>
          obtain ⟨j, hj, rfl, rfl, r1, r2, rfl⟩ := hrel
          have R1 := Lib.hid r1; have R2 := Lib.hid r2
          clear r1 r2
          have hBa := below_allocs hB3 (.cells #[.slice a.pa a.pn a.pc, .slice a.ba a.bn a.bc] 29)
          have HBA := Lib.hid (below_up hB1 hBa)
          have hPa := (hP.keep hB3).alloc (.cells #[.slice a.pa a.pn a.pc, .slice a.ba a.bn a.bc] 29)
          obtain ⟨f0, f1⟩ := (Blk.new w3 #[.slice a.pa a.pn a.pc, .slice a.ba a.bn a.bc] 29).two
          have HPA := Lib.hid hPa
          obtain ⟨z0, z1, z2, z3, z4, z5, z6, z7, z8, z9⟩ := hPa.ten
          clear hPa
          have hIw := HI.out.keep hBa
          have hj3 : j = 0 ∨ j = 1 ∨ j = 2 := by omega
          rcases hj3 with rfl | rfl | rfl
          · have HCI := Lib.hid (checkIds_is a.pa a.pn a.pc a.pin _ hIw.pins HF.out.pn)
            clear hIw hBa
            obtain ⟨s, hs⟩ : ∃ s, Fd.scan (Fd.pbad a.pin) 0 a.pn = s := ⟨_, rfl⟩
            rw [hs] at HCI
            have HS := Lib.hid hs; clear hs
            by_cases h0 : s = 0
            · subst h0
              go_wp2_with (go_at_call 94; refine HCI.out.mono ?_; rintro e w5 ⟨rfl, rfl⟩)
              go_roundg 1
              case rel => exact ⟨1, by omega, rfl, by go_num, fun _ => HS.out, fun h => by omega, rfl⟩
              case measure => omega
            · have h1 : (s != 0) = true := by simpa using h0
              have HE := Lib.hid ((Alb.listE_a HS.out h0).symm.trans HLE.out)
              clear h0
              go_wp2_with (go_at_call 94; refine HCI.out.mono ?_; rintro e w5 ⟨rfl, rfl⟩)
              go_ret
              exact ⟨ret_int HE.out, HBA.out⟩
          · have HCI := Lib.hid (checkIds_is a.ba a.bn a.bc a.bar _ hIw.bars HF.out.bn)
            clear hIw hBa
            obtain ⟨s, hs⟩ : ∃ s, Fd.scan (Fd.pbad a.bar) 0 a.bn = s := ⟨_, rfl⟩
            rw [hs] at HCI
            have HS := Lib.hid hs; clear hs
            by_cases h0 : s = 0
            · subst h0
              go_wp2_with (go_at_call 94; refine HCI.out.mono ?_; rintro e w5 ⟨rfl, rfl⟩)
              go_roundg 0
              case rel => exact ⟨2, by omega, rfl, by go_num, fun _ => R1.out (by omega), fun _ => HS.out, rfl⟩
              case measure => omega
            · have h1 : (s != 0) = true := by simpa using h0
              have HE := Lib.hid ((Alb.listE_b (R1.out (by omega)) HS.out h0).symm.trans HLE.out)
              clear h0
              go_wp2_with (go_at_call 94; refine HCI.out.mono ?_; rintro e w5 ⟨rfl, rfl⟩)
              go_ret
              exact ⟨ret_int HE.out, HBA.out⟩
          · have HP0 := Lib.hid (R1.out (by omega)); have HP1 := Lib.hid (R2.out (by omega))
            have HCF := Lib.hid (albTwice_is a _ w.heap.size _ HPA.out hIw HF.out HP0.out)
            clear hIw hBa f0 f1
            obtain ⟨t, ht⟩ : ∃ t, a.twice = t := ⟨_, rfl⟩
            have HT := Lib.hid ht
            rw [ht] at HCF
            clear ht
            cases t
            · by_cases k1 : 1000 < a.pn
              · have k1' : (1000 : Int) < (a.pn : Int) := by omega
                have HE := Lib.hid ((Alb.listE_d HP0.out HP1.out HT.out (.inl k1)).symm.trans HLE.out)
                clear k1
                go_wp2_with (go_at_call 82; refine HCF.out.mono ?_; rintro e w5 ⟨rfl, rfl⟩)
                go_ret
                exact ⟨ret_int HE.out, HBA.out⟩
              · have k1' : ¬ (1000 : Int) < (a.pn : Int) := by omega
                by_cases k2 : 1000 < a.bn
                · have k2' : (1000 : Int) < (a.bn : Int) := by omega
                  have HE := Lib.hid ((Alb.listE_d HP0.out HP1.out HT.out (.inr k2)).symm.trans HLE.out)
                  clear k1 k2
                  first
                    | (exfalso; omega)
                    | (go_wp2_with (go_at_call 82; refine HCF.out.mono ?_; rintro e w5 ⟨rfl, rfl⟩); go_ret; exact ⟨ret_int HE.out, HBA.out⟩)
                · have k2' : ¬ (1000 : Int) < (a.bn : Int) := by omega
                  have HE := Lib.hid ((Alb.listE_e HP0.out HP1.out HT.out (by rintro (h | h); exact k1 h; exact k2 h)).symm.trans HLE.out)
                  clear k1 k2
                  go_wp2_with (go_at_call 82; refine HCF.out.mono ?_; rintro e w5 ⟨rfl, rfl⟩)
                  go_ret
                  exact ⟨ret_int HE.out, HBA.out⟩
            · have HE := Lib.hid ((Alb.listE_c HP0.out HP1.out HT.out).symm.trans HLE.out)
              go_wp2_with (go_at_call 82; refine HCF.out.mono ?_; rintro e w5 ⟨rfl, rfl⟩)
              go_ret
              exact ⟨ret_int HE.out, HBA.out⟩
      · rw [if_neg (by rintro ⟨_, h⟩; exact hbn h)] at hq
        subst hq
        have hbn' : (0 : Int) < (a.bn : Int) := by omega
        clear hbn
        go_enter Try.func73, Try.ntmps73
        go_wp2_with fail
        rw [HW1.out]
        go_wp2_with (go_at_call 98; refine (HEM.out _).mono ?_; rintro e w3 ⟨rfl, hB3⟩; obtain ⟨t0, t1, t2, t3, t4, t5, t6, t7, t8, t9⟩ := (hP.keep hB3).ten)
        go_ret
        exact ⟨rfl, below_up hB1 hB3⟩
  · rw [hsm, if_pos rfl] at hq
    rw [hsm] at hP q1 HW1
    have HCC := Lib.hid (checkCond_is a.rule W1 HI.out.rule hF.rule)
    obtain ⟨re, hre⟩ : ∃ re, a.rule.err = re := ⟨_, rfl⟩
    rw [hre] at hq HCC
    clear hI hF hre
    by_cases hr0 : re = 0
    · rw [if_pos hr0] at hq
      subst hr0
      have HLE := Lib.hid hq
      clear hq
      go_enter Try.func73, Try.ntmps73
      go_wp2_with fail
      rw [HW1.out]
      go_wp2_with (go_at_call 99; refine HCC.out.mono ?_; rintro e w3 ⟨rfl, hB3⟩; obtain ⟨t0, t1, t2, t3, t4, t5, t6, t7, t8, t9⟩ := (hP.keep hB3).ten)
      clear q0 q1 q2 q3 q4 q5 q6 q7 q8 q9 t0 t1 t2 t3 t4 t5 t6 t7 t8 t9
      -- behind the rule's check: the world is w3, hB3 : Below W1.heap.size W1 w3; HLE: a.listE = q
      go_loopg [36] 2 (fun gk i wr => ∃ j : Nat, j ≤ 2 ∧ gk = 2 - j ∧ i = .int .i64 j ∧ (1 ≤ j → Fd.scan (Fd.pbad a.pin) 0 a.pn = 0) ∧ (2 ≤ j → Fd.scan (Fd.pbad a.bar) 0 a.bn = 0) ∧ w3.alloc (.cells #[.slice a.pa a.pn a.pc, .slice a.ba a.bn a.bc] 29) = wr)
      case atStart => exact ⟨0, by omega, rfl, rfl, fun h => by omega, fun h => by omega, rfl⟩
      case round =>
        obtain ⟨j, hj, rfl, rfl, r1, r2, rfl⟩ := hrel
        have R1 := Lib.hid r1; have R2 := Lib.hid r2
        clear r1 r2
        have hBa := below_allocs hB3 (.cells #[.slice a.pa a.pn a.pc, .slice a.ba a.bn a.bc] 29)
        have HBA := Lib.hid (below_up hB1 hBa)
        have hPa := (hP.keep hB3).alloc (.cells #[.slice a.pa a.pn a.pc, .slice a.ba a.bn a.bc] 29)
        obtain ⟨f0, f1⟩ := (Blk.new w3 #[.slice a.pa a.pn a.pc, .slice a.ba a.bn a.bc] 29).two
        have HPA := Lib.hid hPa
        obtain ⟨z0, z1, z2, z3, z4, z5, z6, z7, z8, z9⟩ := hPa.ten
        clear hPa
        have hIw := HI.out.keep hBa
        have hj3 : j = 0 ∨ j = 1 ∨ j = 2 := by omega
        rcases hj3 with rfl | rfl | rfl
        · have HCI := Lib.hid (checkIds_is a.pa a.pn a.pc a.pin _ hIw.pins HF.out.pn)
          clear hIw hBa
          obtain ⟨s, hs⟩ : ∃ s, Fd.scan (Fd.pbad a.pin) 0 a.pn = s := ⟨_, rfl⟩
          rw [hs] at HCI
          have HS := Lib.hid hs; clear hs
          by_cases h0 : s = 0
          · subst h0
            go_wp2_with (go_at_call 94; refine HCI.out.mono ?_; rintro e w5 ⟨rfl, rfl⟩)
            go_roundg 1
            case rel => exact ⟨1, by omega, rfl, by go_num, fun _ => HS.out, fun h => by omega, rfl⟩
            case measure => omega
          · have h1 : (s != 0) = true := by simpa using h0
            have HE := Lib.hid ((Alb.listE_a HS.out h0).symm.trans HLE.out)
            clear h0
            go_wp2_with (go_at_call 94; refine HCI.out.mono ?_; rintro e w5 ⟨rfl, rfl⟩)
            go_ret
            exact ⟨ret_int HE.out, HBA.out⟩
        · have HCI := Lib.hid (checkIds_is a.ba a.bn a.bc a.bar _ hIw.bars HF.out.bn)
          clear hIw hBa
          obtain ⟨s, hs⟩ : ∃ s, Fd.scan (Fd.pbad a.bar) 0 a.bn = s := ⟨_, rfl⟩
          rw [hs] at HCI
          have HS := Lib.hid hs; clear hs
          by_cases h0 : s = 0
          · subst h0
            go_wp2_with (go_at_call 94; refine HCI.out.mono ?_; rintro e w5 ⟨rfl, rfl⟩)
            go_roundg 0
            case rel => exact ⟨2, by omega, rfl, by go_num, fun _ => R1.out (by omega), fun _ => HS.out, rfl⟩
            case measure => omega
          · have h1 : (s != 0) = true := by simpa using h0
            have HE := Lib.hid ((Alb.listE_b (R1.out (by omega)) HS.out h0).symm.trans HLE.out)
            clear h0
            go_wp2_with (go_at_call 94; refine HCI.out.mono ?_; rintro e w5 ⟨rfl, rfl⟩)
            go_ret
            exact ⟨ret_int HE.out, HBA.out⟩
        · have HP0 := Lib.hid (R1.out (by omega)); have HP1 := Lib.hid (R2.out (by omega))
          have HCF := Lib.hid (albTwice_is a _ w.heap.size _ HPA.out hIw HF.out HP0.out)
          clear hIw hBa f0 f1
          obtain ⟨t, ht⟩ : ∃ t, a.twice = t := ⟨_, rfl⟩
          have HT := Lib.hid ht
          rw [ht] at HCF
          clear ht
          cases t
          · by_cases k1 : 1000 < a.pn
            · have k1' : (1000 : Int) < (a.pn : Int) := by omega
              have HE := Lib.hid ((Alb.listE_d HP0.out HP1.out HT.out (.inl k1)).symm.trans HLE.out)
              clear k1
              go_wp2_with (go_at_call 82; refine HCF.out.mono ?_; rintro e w5 ⟨rfl, rfl⟩)
              go_ret
              exact ⟨ret_int HE.out, HBA.out⟩
            · have k1' : ¬ (1000 : Int) < (a.pn : Int) := by omega
              by_cases k2 : 1000 < a.bn
              · have k2' : (1000 : Int) < (a.bn : Int) := by omega
                have HE := Lib.hid ((Alb.listE_d HP0.out HP1.out HT.out (.inr k2)).symm.trans HLE.out)
                clear k1 k2
                first
                  | (exfalso; omega)
                  | (go_wp2_with (go_at_call 82; refine HCF.out.mono ?_; rintro e w5 ⟨rfl, rfl⟩); go_ret; exact ⟨ret_int HE.out, HBA.out⟩)
              · have k2' : ¬ (1000 : Int) < (a.bn : Int) := by omega
                have HE := Lib.hid ((Alb.listE_e HP0.out HP1.out HT.out (by rintro (h | h); exact k1 h; exact k2 h)).symm.trans HLE.out)
                clear k1 k2
                go_wp2_with (go_at_call 82; refine HCF.out.mono ?_; rintro e w5 ⟨rfl, rfl⟩)
                go_ret
                exact ⟨ret_int HE.out, HBA.out⟩
          · have HE := Lib.hid ((Alb.listE_c HP0.out HP1.out HT.out).symm.trans HLE.out)
            go_wp2_with (go_at_call 82; refine HCF.out.mono ?_; rintro e w5 ⟨rfl, rfl⟩)
            go_ret
            exact ⟨ret_int HE.out, HBA.out⟩
    · rw [if_neg hr0] at hq
      have hr1 : (re != 0) = true := by simpa using hr0
      have HQ := Lib.hid hq
      clear hr0 hq
      go_enter Try.func73, Try.ntmps73
      go_wp2_with fail
      rw [HW1.out]
      go_wp2_with (go_at_call 99; refine HCC.out.mono ?_; rintro e w3 ⟨rfl, hB3⟩)
      go_ret
      exact ⟨ret_int HQ.out, below_up hB1 hB3⟩
end Go.Proofs.Ytbbedepojogfmaa
