/- checkWhen, checkPlace, placed, checkIds: contracts. -/
import Derived.Test.YtngbaljmlbdfkaaGreatDoorFdPh
import Derived.Test.YtngbaljmlbdfkaaGreatDoorZone
namespace Go.Proofs.YtngbaljmlbdfkaaGreatDoor
open Go.RowKit Go.Sort Go.Shelf
set_option linter.unusedVariables false
set_option maxHeartbeats 2000000 in
theorem localP_is (p : Ph) (w : World) (hm : 0 ≤ p.mom ∧ p.mom ≤ 6311433599) (hz : -840 ≤ p.zone ∧ p.zone ≤ 840) : Calls Tryz.prog 54 #[.agg #[.int .i64 p.id, .string p.file, .int .i64 p.mom, .int .i64 p.zone, .slice p.wa p.wn p.wc, .int .i64 p.W, .int .i64 p.H, .int .i64 p.turn, .int .i64 p.stars, .slice p.ta p.tn p.tc, .string p.cap, .slice p.pa p.pn p.pc, .bool p.hid]] w fun e w' => e = .returned (.int .i64 (p.mom + 60 * p.zone)) ∧ Below w.heap.size w w' := by
  -- a photo's box: W1, its 13 cells
  obtain ⟨W1, hW1, hP, hz1, hB1⟩ := box w #[.int .i64 p.id, .string p.file, .int .i64 p.mom, .int .i64 p.zone, .slice p.wa p.wn p.wc, .int .i64 p.W, .int .i64 p.H, .int .i64 p.turn, .int .i64 p.stars, .slice p.ta p.tn p.tc, .string p.cap, .slice p.pa p.pn p.pc, .bool p.hid] 49
  have HW1 := Lib.hid hW1
  clear hW1 hz1
  obtain ⟨q0, q1, q2, q3, q4, q5, q6, q7, q8, q9, q10, q11, q12⟩ := hP.photo
  go_enter Tryz.func54, Tryz.ntmps54
  go_wp2_with fail
  rw [HW1.out]
  go_wp2_with fail
  go_ret
  exact ⟨rfl, hB1⟩
set_option maxHeartbeats 2000000 in
theorem checkWhen_is (p : Ph) (w : World) (b : Bool) (h : Fd.whenB p.mom p.zone = b) : Calls Tryz.prog 75 #[.agg #[.int .i64 p.id, .string p.file, .int .i64 p.mom, .int .i64 p.zone, .slice p.wa p.wn p.wc, .int .i64 p.W, .int .i64 p.H, .int .i64 p.turn, .int .i64 p.stars, .slice p.ta p.tn p.tc, .string p.cap, .slice p.pa p.pn p.pc, .bool p.hid]] w fun e w' => e = .returned (.int .i64 (if b = true then 0 else 2)) ∧ Below w.heap.size w w' := by
  -- a photo's box: W1, its 13 cells
  obtain ⟨W1, hW1, hP, hz1, hB1⟩ := box w #[.int .i64 p.id, .string p.file, .int .i64 p.mom, .int .i64 p.zone, .slice p.wa p.wn p.wc, .int .i64 p.W, .int .i64 p.H, .int .i64 p.turn, .int .i64 p.stars, .slice p.ta p.tn p.tc, .string p.cap, .slice p.pa p.pn p.pc, .bool p.hid] 49
  have HW1 := Lib.hid hW1
  clear hW1 hz1
  obtain ⟨q0, q1, q2, q3, q4, q5, q6, q7, q8, q9, q10, q11, q12⟩ := hP.photo
  by_cases h1 : -1 ≤ p.mom ∧ p.mom ≤ 6311433599
  · by_cases h2 : -840 ≤ p.zone ∧ p.zone ≤ 840
    · have z1 := h2.1
      have z2 := h2.2
      have m2 := h1.2
      by_cases h3 : 0 ≤ p.mom
      · by_cases h4 : 0 ≤ p.mom + 60 * p.zone ∧ p.mom + 60 * p.zone ≤ 6311433599
        · obtain rfl : b = true := by rw [← h]; exact decide_eq_true ⟨h1, h2, fun _ => h4⟩
          rw [if_pos rfl]
          have H1 := Lib.hid h1; have H2 := Lib.hid h2; have H4 := Lib.hid h4; have HH := Lib.hid h; clear h1 h2 h4 h
          -- outsideF_no H1.out: the contract of outside at the moment; outsideF_no H2.out: at the zone; ⟨h3, m2⟩ H2.out: at the local seconds
          go_enter Tryz.func75, Tryz.ntmps75
          go_wp2_with fail
          rw [HW1.out]
          go_wp2_with (first
            | (go_at_call 21; (with_reducible refine (outsideF_no p.mom (-1) 6311433599 _ H1.out).mono ?_); rintro e w2 ⟨rfl, rfl⟩)
            | (go_at_call 21; (with_reducible refine (outsideF_no p.zone (-840) 840 _ H2.out).mono ?_); rintro e w2 ⟨rfl, rfl⟩)
            | (go_at_call 54; refine (localP_is p _ ⟨h3, m2⟩ H2.out).mono ?_; rintro e w3 ⟨rfl, hB3⟩)
            | (go_at_call 21; (with_reducible refine (outsideF_no (p.mom + 60 * p.zone) 0 6311433599 _ H4.out).mono ?_); rintro e w2 ⟨rfl, rfl⟩))
          go_ret
          exact ⟨rfl, below_up hB1 hB3⟩
        · obtain rfl : b = false := by rw [← h]; exact decide_eq_false fun g => h4 (g.2.2 h3)
          rw [if_neg (by simp)]
          have h5 : p.mom + 60 * p.zone < 0 ∨ 6311433599 < p.mom + 60 * p.zone := by omega
          have H1 := Lib.hid h1; have H2 := Lib.hid h2; have H4 := Lib.hid h5; have HH := Lib.hid h; clear h1 h2 h4 h5 h
          -- outsideF_no H1.out: the contract of outside at the moment; outsideF_no H2.out: at the zone; ⟨h3, m2⟩ H2.out: at the local seconds
          go_enter Tryz.func75, Tryz.ntmps75
          go_wp2_with fail
          rw [HW1.out]
          go_wp2_with (first
            | (go_at_call 21; (with_reducible refine (outsideF_no p.mom (-1) 6311433599 _ H1.out).mono ?_); rintro e w2 ⟨rfl, rfl⟩)
            | (go_at_call 21; (with_reducible refine (outsideF_no p.zone (-840) 840 _ H2.out).mono ?_); rintro e w2 ⟨rfl, rfl⟩)
            | (go_at_call 54; refine (localP_is p _ ⟨h3, m2⟩ H2.out).mono ?_; rintro e w3 ⟨rfl, hB3⟩)
            | (go_at_call 21; (with_reducible refine (outsideF_yes (p.mom + 60 * p.zone) 0 6311433599 _ H4.out).mono ?_); rintro e w2 ⟨rfl, rfl⟩))
          go_ret
          exact ⟨rfl, below_up hB1 hB3⟩
      · obtain rfl : b = true := by rw [← h]; exact decide_eq_true ⟨h1, h2, fun g => absurd g h3⟩
        rw [if_pos rfl]
        have H1 := Lib.hid h1; have H2 := Lib.hid h2; have H4 := Lib.hid h1; have HH := Lib.hid h; clear h1 h2 h
        -- outsideF_no H1.out: the contract of outside at the moment; outsideF_no H2.out: at the zone; ⟨h3, m2⟩ H2.out: at the local seconds
        go_enter Tryz.func75, Tryz.ntmps75
        go_wp2_with fail
        rw [HW1.out]
        go_wp2_with (first
          | (go_at_call 21; (with_reducible refine (outsideF_no p.mom (-1) 6311433599 _ H1.out).mono ?_); rintro e w2 ⟨rfl, rfl⟩)
          | (go_at_call 21; (with_reducible refine (outsideF_no p.zone (-840) 840 _ H2.out).mono ?_); rintro e w2 ⟨rfl, rfl⟩)
          | (go_at_call 54; refine (localP_is p _ ⟨h3, m2⟩ H2.out).mono ?_; rintro e w3 ⟨rfl, hB3⟩)
          | (go_at_call 21; (with_reducible refine (outsideF_no (p.mom + 60 * p.zone) 0 6311433599 _ H4.out).mono ?_); rintro e w2 ⟨rfl, rfl⟩))
        go_ret
        exact ⟨rfl, hB1⟩
    · obtain rfl : b = false := by rw [← h]; exact decide_eq_false fun g => h2 g.2.1
      rw [if_neg (by simp)]
      have h5 : p.zone < -840 ∨ 840 < p.zone := by omega
      have H1 := Lib.hid h1; have H2 := Lib.hid h5; have H4 := Lib.hid h1; have HH := Lib.hid h; clear h1 h2 h5 h
      -- outsideF_no H1.out: the contract of outside at the moment; outsideF_yes H2.out: at the zone; H1.out H2.out: at the local seconds
      go_enter Tryz.func75, Tryz.ntmps75
      go_wp2_with fail
      rw [HW1.out]
      go_wp2_with (first
        | (go_at_call 21; (with_reducible refine (outsideF_no p.mom (-1) 6311433599 _ H1.out).mono ?_); rintro e w2 ⟨rfl, rfl⟩)
        | (go_at_call 21; (with_reducible refine (outsideF_yes p.zone (-840) 840 _ H2.out).mono ?_); rintro e w2 ⟨rfl, rfl⟩)
        | (go_at_call 54; refine (localP_is p _ H1.out H2.out).mono ?_; rintro e w3 ⟨rfl, hB3⟩)
        | (go_at_call 21; (with_reducible refine (outsideF_no (p.mom + 60 * p.zone) 0 6311433599 _ H4.out).mono ?_); rintro e w2 ⟨rfl, rfl⟩))
      go_ret
      exact ⟨rfl, hB1⟩
  · obtain rfl : b = false := by rw [← h]; exact decide_eq_false fun g => h1 g.1
    rw [if_neg (by simp)]
    have h5 : p.mom < -1 ∨ 6311433599 < p.mom := by omega
    have H1 := Lib.hid h5; have H2 := Lib.hid h5; have H4 := Lib.hid h1; have HH := Lib.hid h; clear h1 h5 h
    -- outsideF_yes H1.out: the contract of outside at the moment; outsideF_yes H2.out: at the zone; H1.out H2.out: at the local seconds
    go_enter Tryz.func75, Tryz.ntmps75
    go_wp2_with fail
    rw [HW1.out]
    go_wp2_with (first
      | (go_at_call 21; (with_reducible refine (outsideF_yes p.mom (-1) 6311433599 _ H1.out).mono ?_); rintro e w2 ⟨rfl, rfl⟩)
      | (go_at_call 21; (with_reducible refine (outsideF_yes p.zone (-840) 840 _ H2.out).mono ?_); rintro e w2 ⟨rfl, rfl⟩)
      | (go_at_call 54; refine (localP_is p _ H1.out H2.out).mono ?_; rintro e w3 ⟨rfl, hB3⟩)
      | (go_at_call 21; (with_reducible refine (outsideF_no (p.mom + 60 * p.zone) 0 6311433599 _ H4.out).mono ?_); rintro e w2 ⟨rfl, rfl⟩))
    go_ret
    exact ⟨rfl, hB1⟩
set_option maxHeartbeats 2000000 in
theorem checkPlace_is (a o : Int) (w : World) (b : Bool) (h : Fd.placeB a o = b) : Calls Tryz.prog 76 #[.agg #[.int .i64 a, .int .i64 o]] w fun e w' => e = .returned (.int .i64 (if b = true then 0 else 2)) ∧ Below w.heap.size w w' := by
  cases h1 : decide (-90000000 ≤ a ∧ a ≤ 90000000)
  · obtain rfl : b = false := by rw [← h]; exact decide_eq_false fun g => of_decide_eq_false h1 g.1
    rw [if_neg (by simp)]
    have H1 := Lib.hid h1; clear h1 h
    -- f.checkPlace: the function; f.outside: what asks; outsideF_is false H1.out: at the latitude; outsideF_is false H1.out: at the longitude
    obtain ⟨W1, hW1, hP, hz1, hB1⟩ := box w #[.int .i64 a, .int .i64 o] 112
    have HW1 := Lib.hid hW1
    clear hW1 hz1
    obtain ⟨q0, q1⟩ := hP.two
    go_enter Tryz.func76, Tryz.ntmps76
    go_wp2_with fail
    rw [HW1.out]
    go_wp2_with (first
      | (go_at_call 21; (with_reducible refine (outsideF_is a (-90000000) 90000000 false H1.out _).mono ?_); rintro e w2 ⟨rfl, rfl⟩)
      | (go_at_call 21; (with_reducible refine (outsideF_is o (-180000000) 179999999 false H1.out _).mono ?_); rintro e w2 ⟨rfl, rfl⟩))
    go_ret
    exact ⟨rfl, hB1⟩
  · cases h2 : decide (-180000000 ≤ o ∧ o ≤ 179999999)
    · obtain rfl : b = false := by rw [← h]; exact decide_eq_false fun g => of_decide_eq_false h2 g.2
      rw [if_neg (by simp)]
      have H1 := Lib.hid h1; have H2 := Lib.hid h2; clear h1 h2 h
      -- f.checkPlace: the function; f.outside: what asks; outsideF_is true H1.out: at the latitude; outsideF_is false H2.out: at the longitude
      obtain ⟨W1, hW1, hP, hz1, hB1⟩ := box w #[.int .i64 a, .int .i64 o] 112
      have HW1 := Lib.hid hW1
      clear hW1 hz1
      obtain ⟨q0, q1⟩ := hP.two
      go_enter Tryz.func76, Tryz.ntmps76
      go_wp2_with fail
      rw [HW1.out]
      go_wp2_with (first
        | (go_at_call 21; (with_reducible refine (outsideF_is a (-90000000) 90000000 true H1.out _).mono ?_); rintro e w2 ⟨rfl, rfl⟩)
        | (go_at_call 21; (with_reducible refine (outsideF_is o (-180000000) 179999999 false H2.out _).mono ?_); rintro e w2 ⟨rfl, rfl⟩))
      go_ret
      exact ⟨rfl, hB1⟩
    · obtain rfl : b = true := by rw [← h]; exact decide_eq_true ⟨of_decide_eq_true h1, of_decide_eq_true h2⟩
      rw [if_pos rfl]
      have H1 := Lib.hid h1; have H2 := Lib.hid h2; clear h1 h2 h
      -- f.checkPlace: the function; f.outside: what asks; outsideF_is true H1.out: at the latitude; outsideF_is true H2.out: at the longitude
      obtain ⟨W1, hW1, hP, hz1, hB1⟩ := box w #[.int .i64 a, .int .i64 o] 112
      have HW1 := Lib.hid hW1
      clear hW1 hz1
      obtain ⟨q0, q1⟩ := hP.two
      go_enter Tryz.func76, Tryz.ntmps76
      go_wp2_with fail
      rw [HW1.out]
      go_wp2_with (first
        | (go_at_call 21; (with_reducible refine (outsideF_is a (-90000000) 90000000 true H1.out _).mono ?_); rintro e w2 ⟨rfl, rfl⟩)
        | (go_at_call 21; (with_reducible refine (outsideF_is o (-180000000) 179999999 true H2.out _).mono ?_); rintro e w2 ⟨rfl, rfl⟩))
      go_ret
      exact ⟨rfl, hB1⟩
set_option maxHeartbeats 2000000 in
theorem placed_is (a o : Int) (w : World) (b : Bool) (h : Fd.placeB a o = b) : Calls Tryz.prog 64 #[.agg #[.int .i64 a, .int .i64 o]] w fun e w' => e = .returned (.bool b) ∧ Below w.heap.size w w' := by
  cases h1 : decide (-90000000 ≤ a ∧ a ≤ 90000000)
  · obtain rfl : b = false := by rw [← h]; exact decide_eq_false fun g => of_decide_eq_false h1 g.1
    have H1 := Lib.hid h1; clear h1 h
    -- R.placed: the function; R.in: what asks; in_is false H1.out: at the latitude; in_is false H1.out: at the longitude
    obtain ⟨W1, hW1, hP, hz1, hB1⟩ := box w #[.int .i64 a, .int .i64 o] 112
    have HW1 := Lib.hid hW1
    clear hW1 hz1
    obtain ⟨q0, q1⟩ := hP.two
    go_enter Tryz.func64, Tryz.ntmps64
    go_wp2_with fail
    rw [HW1.out]
    go_wp2_with (first
      | (go_at_call 33; (with_reducible refine (in_is a (-90000000) 90000000 false H1.out _).mono ?_); rintro e w2 ⟨rfl, rfl⟩)
      | (go_at_call 33; (with_reducible refine (in_is o (-180000000) 179999999 false H1.out _).mono ?_); rintro e w2 ⟨rfl, rfl⟩))
    go_ret
    exact ⟨rfl, hB1⟩
  · cases h2 : decide (-180000000 ≤ o ∧ o ≤ 179999999)
    · obtain rfl : b = false := by rw [← h]; exact decide_eq_false fun g => of_decide_eq_false h2 g.2
      have H1 := Lib.hid h1; have H2 := Lib.hid h2; clear h1 h2 h
      -- R.placed: the function; R.in: what asks; in_is true H1.out: at the latitude; in_is false H2.out: at the longitude
      obtain ⟨W1, hW1, hP, hz1, hB1⟩ := box w #[.int .i64 a, .int .i64 o] 112
      have HW1 := Lib.hid hW1
      clear hW1 hz1
      obtain ⟨q0, q1⟩ := hP.two
      go_enter Tryz.func64, Tryz.ntmps64
      go_wp2_with fail
      rw [HW1.out]
      go_wp2_with (first
        | (go_at_call 33; (with_reducible refine (in_is a (-90000000) 90000000 true H1.out _).mono ?_); rintro e w2 ⟨rfl, rfl⟩)
        | (go_at_call 33; (with_reducible refine (in_is o (-180000000) 179999999 false H2.out _).mono ?_); rintro e w2 ⟨rfl, rfl⟩))
      go_ret
      exact ⟨rfl, hB1⟩
    · obtain rfl : b = true := by rw [← h]; exact decide_eq_true ⟨of_decide_eq_true h1, of_decide_eq_true h2⟩
      have H1 := Lib.hid h1; have H2 := Lib.hid h2; clear h1 h2 h
      -- R.placed: the function; R.in: what asks; in_is true H1.out: at the latitude; in_is true H2.out: at the longitude
      obtain ⟨W1, hW1, hP, hz1, hB1⟩ := box w #[.int .i64 a, .int .i64 o] 112
      have HW1 := Lib.hid hW1
      clear hW1 hz1
      obtain ⟨q0, q1⟩ := hP.two
      go_enter Tryz.func64, Tryz.ntmps64
      go_wp2_with fail
      rw [HW1.out]
      go_wp2_with (first
        | (go_at_call 33; (with_reducible refine (in_is a (-90000000) 90000000 true H1.out _).mono ?_); rintro e w2 ⟨rfl, rfl⟩)
        | (go_at_call 33; (with_reducible refine (in_is o (-180000000) 179999999 true H2.out _).mono ?_); rintro e w2 ⟨rfl, rfl⟩))
      go_ret
      exact ⟨rfl, hB1⟩
end Go.Proofs.YtngbaljmlbdfkaaGreatDoor
namespace Go.Proofs.YtngbaljmlbdfkaaGreatDoor
open Go.RowKit Go.Sort Go.Shelf
set_option linter.unusedVariables false
set_option maxRecDepth 100000 in
set_option maxHeartbeats 2000000 in
theorem checkIds_is (a : Option Addr) (n ca : Nat) (who : Nat → Int) (w : World) (hr : Row w a n (fun i => .int .i64 (who i))) (hn : n ≤ 9223372036854775807) :
    Calls Tryz.prog 127 #[.slice a n ca] w fun e w' => e = .returned (.int .i64 (Fd.scan (Fd.pbad who) 0 n)) ∧ w = w' := by
  obtain ⟨q, hq⟩ : ∃ q, Fd.scan (Fd.pbad who) 0 n = q := ⟨_, rfl⟩
  rw [hq]
  have HR := Lib.hid hr; have HQ := Lib.hid hq; clear hr hq
  go_enter Tryz.func127, Tryz.ntmps127
  go_wp2_with fail
  go_loopg [7] n (fun gk i wr => ∃ j : Nat, j ≤ n ∧ gk = n - j ∧ i = .int .i64 j ∧ Fd.scan (Fd.pbad who) j (n - j) = q ∧ w = wr)
  case atStart => exact ⟨0, by omega, rfl, rfl, HQ.out, rfl⟩
  case round =>
    obtain ⟨j, hj, rfl, rfl, hsc, rfl⟩ := hrel
    have HSC := Lib.hid hsc; clear hsc
    by_cases hlt : j < n
    · obtain ⟨b, off, rfl, hb, hcell⟩ := HR.out (by omega)
      have c0 : w.cell? ⟨b, off + j, none⟩ = some (.int .i64 (who j)) := hcell j hlt
      have hcell : ∀ i, i < n → w.cell? ⟨b, off + i, none⟩ = some (.int .i64 (who i)) := hcell
      have HC := Lib.hid hcell
      clear hcell
      have hcell := HC.out
      -- a round over the people; f.outside: the function that asks; outsideF_is: its contract; rfl: the world's fact at the end
      cases hin : decide (1 ≤ who j ∧ who j ≤ 1000000)
      · have HIN := Lib.hid hin
        have HBAD := Lib.hid (id (Fd.scan_here HSC.out hlt (Fd.pbad_out hin) (by omega)))
        clear hin
        go_wp2_with (go_at_call 21; (with_reducible refine (outsideF_is (who j) 1 1000000 false HIN.out _).mono ?_); rintro e w2 ⟨rfl, rfl⟩)
        go_ret
        exact ⟨ret_int HBAD.out, rfl⟩
      · have HIN := Lib.hid hin
        by_cases hj0 : j = 0
        · have hj0' : decide ((0 : Int) < (j : Int)) = false := by simpa using hj0
          have hj0'' : ((0 : Int) < (j : Int)) = False := by simpa using hj0
          have hj0n : (0 < j) = False := by simpa using hj0
          have HBAD := Lib.hid (Fd.scan_next HSC.out hlt (Fd.pbad_first hin hj0))
          clear hin hj0
          go_wp2_with (go_at_call 21; (with_reducible refine (outsideF_is (who j) 1 1000000 true HIN.out _).mono ?_); rintro e w2 ⟨rfl, rfl⟩)
          go_roundg (n - (j + 1))
          case rel => exact ⟨j + 1, by omega, rfl, by go_num, HBAD.out, rfl⟩
          case measure => omega
        · have hj1 : 1 ≤ j := by omega
          have hj0' : decide ((0 : Int) < (j : Int)) = true := by simp; omega
          have hj0n : 0 < j := by omega
          have d0 := hcell (j - 1) (by omega)
          have hi0 : (0 : Int) ≤ (j : Int) - 1 := by omega
          have hi1 : (j : Int) - 1 < (n : Int) := by omega
          by_cases ho : who j ≤ who (j - 1)
          · have HBAD := Lib.hid (id (Fd.scan_here HSC.out hlt (Fd.pbad_ord hin hj0 ho) (by omega)))
            clear hin hj0
            go_wp2_with (go_at_call 21; (with_reducible refine (outsideF_is (who j) 1 1000000 true HIN.out _).mono ?_); rintro e w2 ⟨rfl, rfl⟩)
            go_ret
            exact ⟨ret_int HBAD.out, rfl⟩
          · have HBAD := Lib.hid (Fd.scan_next HSC.out hlt (Fd.pbad_ok hin hj0 ho))
            have ho' : who (j - 1) < who j := by omega
            clear hin hj0 ho
            go_wp2_with (go_at_call 21; (with_reducible refine (outsideF_is (who j) 1 1000000 true HIN.out _).mono ?_); rintro e w2 ⟨rfl, rfl⟩)
            go_roundg (n - (j + 1))
            case rel => exact ⟨j + 1, by omega, rfl, by go_num, HBAD.out, rfl⟩
            case measure => omega
    · obtain rfl : j = n := by omega
      go_wp2_with fail
      go_ret
      exact ⟨ret_int (Fd.scan_end HSC.out).symm, rfl⟩
set_option maxRecDepth 100000 in
set_option maxHeartbeats 4000000 in
theorem checkWords_is (p : Ph) (w : World) (hI : p.In w) (hF : p.Fits) : Calls Tryz.prog 77 #[.agg #[.int .i64 p.id, .string p.file, .int .i64 p.mom, .int .i64 p.zone, .slice p.wa p.wn p.wc, .int .i64 p.W, .int .i64 p.H, .int .i64 p.turn, .int .i64 p.stars, .slice p.ta p.tn p.tc, .string p.cap, .slice p.pa p.pn p.pc, .bool p.hid]] w fun e w' => e = .returned (.int .i64 p.words) ∧ Below w.heap.size w w' := by
  -- a photo's box: W1, its 13 cells
  obtain ⟨W1, hW1, hP, hz1, hB1⟩ := box w #[.int .i64 p.id, .string p.file, .int .i64 p.mom, .int .i64 p.zone, .slice p.wa p.wn p.wc, .int .i64 p.W, .int .i64 p.H, .int .i64 p.turn, .int .i64 p.stars, .slice p.ta p.tn p.tc, .string p.cap, .slice p.pa p.pn p.pc, .bool p.hid] 49
  have HW1 := Lib.hid hW1
  clear hW1 hz1
  obtain ⟨q0, q1, q2, q3, q4, q5, q6, q7, q8, q9, q10, q11, q12⟩ := hP.photo
  have hI := hI.keep hB1
  have HTG := Lib.hid hI.tags
  have HTS := Lib.hid hF.tag
  have HID := Lib.hid (fun W (hB : Below W1.heap.size W1 W) => checkIds_is p.pa p.pn p.pc p.who W (hI.keep hB).people hF.pn)
  have hbt := hF.tn; have hbp := hF.pn; have hbc := hF.cap
  obtain ⟨b, hb⟩ : ∃ b, Fd.plainB p.cap = b := ⟨_, rfl⟩
  have HLOW := Lib.hid (fun W => low_is p.cap hF.cap b hb W)
  obtain ⟨q, hq⟩ : ∃ q, p.words = q := ⟨_, rfl⟩
  rw [hq]
  unfold Ph.words at hq
  rw [hb] at hq
  clear hI hF hb
  generalize p.ta = ta at *
  by_cases ht : 20 < p.tn
  · rw [if_pos ht] at hq
    subst hq
    have ht' : (20 : Int) < (p.tn : Int) := by omega
    go_enter Tryz.func77, Tryz.ntmps77
    go_wp2_with fail
    rw [HW1.out]
    go_wp2_with fail
    go_ret
    exact ⟨rfl, hB1⟩
  · rw [if_neg ht] at hq
    have ht' : ¬ (20 : Int) < (p.tn : Int) := by omega
    obtain ⟨s, hs⟩ : ∃ s, Fd.scan (Fd.tbad p.tag) 0 p.tn = s := ⟨_, rfl⟩
    rw [hs] at hq
    have HTO : Hid (∀ e : Int, e ≠ 0 → e = s → e = q) := by
      intro e h0 he
      subst he
      rw [if_neg h0] at hq
      exact hq
    have HS := Lib.hid hs; have HQ := Lib.hid hq; clear hs hq
    go_enter Tryz.func77, Tryz.ntmps77
    go_wp2_with fail
    rw [HW1.out]
    go_wp2_with fail
    go_loopg [12] p.tn (fun gk i wr => ∃ j : Nat, j ≤ p.tn ∧ gk = p.tn - j ∧ i = .int .i64 j ∧ Fd.scan (Fd.tbad p.tag) j (p.tn - j) = s ∧ W1 = wr)
    case atStart => exact ⟨0, by omega, rfl, rfl, HS.out, rfl⟩
    case round =>
      obtain ⟨j, hj, rfl, rfl, hsc, rfl⟩ := hrel
      have HSC := Lib.hid hsc; clear hsc
      by_cases hlt : j < p.tn
      · obtain ⟨b1, off, rfl, hb1, hcell⟩ := HTG.out (by omega)
        have hcell : ∀ i, i < p.tn → W1.cell? ⟨b1, off + i, none⟩ = some (.string (p.tag i)) := hcell
        have c0 := hcell j hlt
        have HC := Lib.hid hcell
        clear hcell
        have hcell := HC.out
        -- a round over the tags; tintype/where.IsName: the function that asks; isNameW_is: its contract; hB1: the world's fact at the end; p.tag, n, j
        cases hin : Fd.nameB (p.tag j)
        · have HIN := Lib.hid hin
          have HBAD := Lib.hid (HTO.out _ (by omega) (Fd.scan_here HSC.out hlt (Fd.tbad_name hin) (by omega)))
          clear hin
          go_wp2_with (go_at_call 125; (with_reducible refine (isNameW_is (p.tag j) (HTS.out j hlt) false HIN.out _).mono ?_); rintro e w2 ⟨rfl, rfl⟩)
          go_ret
          exact ⟨ret_int HBAD.out, hB1⟩
        · have HIN := Lib.hid hin
          by_cases hj0 : j = 0
          · have hj0' : decide ((0 : Int) < (j : Int)) = false := by simpa using hj0
            have hj0'' : ((0 : Int) < (j : Int)) = False := by simpa using hj0
            have hj0n : (0 < j) = False := by simpa using hj0
            have HBAD := Lib.hid (Fd.scan_next HSC.out hlt (Fd.tbad_first hin hj0))
            clear hin hj0
            go_wp2_with (go_at_call 125; (with_reducible refine (isNameW_is (p.tag j) (HTS.out j hlt) true HIN.out _).mono ?_); rintro e w2 ⟨rfl, rfl⟩)
            go_roundg (p.tn - (j + 1))
            case rel => exact ⟨j + 1, by omega, rfl, by go_num, HBAD.out, rfl⟩
            case measure => omega
          · have hj1 : 1 ≤ j := by omega
            have hj0' : decide ((0 : Int) < (j : Int)) = true := by simp; omega
            have hj0n : 0 < j := by omega
            have d0 := hcell (j - 1) (by omega)
            have hi0 : (0 : Int) ≤ (j : Int) - 1 := by omega
            have hi1 : (j : Int) - 1 < (p.tn : Int) := by omega
            cases ho : Fd.leS (p.tag j) (p.tag (j - 1))
            · have HBAD := Lib.hid (Fd.scan_next HSC.out hlt (Fd.tbad_ok hin hj0 ho))
              unfold Fd.leS at ho
              clear hin hj0
              go_wp2_with (go_at_call 125; (with_reducible refine (isNameW_is (p.tag j) (HTS.out j hlt) true HIN.out _).mono ?_); rintro e w2 ⟨rfl, rfl⟩)
              go_roundg (p.tn - (j + 1))
              case rel => exact ⟨j + 1, by omega, rfl, by go_num, HBAD.out, rfl⟩
              case measure => omega
            · have HBAD := Lib.hid (HTO.out _ (by omega) (Fd.scan_here HSC.out hlt (Fd.tbad_ord hin hj0 ho) (by omega)))
              unfold Fd.leS at ho
              clear hin hj0
              go_wp2_with (go_at_call 125; (with_reducible refine (isNameW_is (p.tag j) (HTS.out j hlt) true HIN.out _).mono ?_); rintro e w2 ⟨rfl, rfl⟩)
              go_ret
              exact ⟨ret_int HBAD.out, hB1⟩
      · obtain rfl : j = p.tn := by omega
        have hs0 := Fd.scan_end HSC.out
        have hq := HQ.out
        rw [if_pos hs0] at hq
        clear hs0
        by_cases hc : 200 < p.cap.size
        · rw [if_pos hc] at hq
          have hc' : (200 : Int) < (p.cap.size : Int) := by omega
          subst hq
          go_wp2_with fail
          go_ret
          exact ⟨rfl, hB1⟩
        · rw [if_neg hc] at hq
          have hc' : ¬ (200 : Int) < (p.cap.size : Int) := by omega
          cases b
          · rw [if_neg (by simp)] at hq
            subst hq
            go_wp2_with (go_at_call 126; refine (HLOW.out _).mono ?_; rintro e w3 ⟨rfl, hB3⟩)
            go_ret
            exact ⟨rfl, below_up hB1 hB3⟩
          · rw [if_pos rfl] at hq
            by_cases hn : 20 < p.pn
            · rw [if_pos hn] at hq
              have hn' : (20 : Int) < (p.pn : Int) := by omega
              subst hq
              go_wp2_with (go_at_call 126; refine (HLOW.out _).mono ?_; rintro e w3 ⟨rfl, hB3⟩; obtain ⟨t0, t1, t2, t3, t4, t5, t6, t7, t8, t9, t10, t11, t12⟩ := (hP.keep hB3).photo)
              go_ret
              exact ⟨rfl, below_up hB1 hB3⟩
            · rw [if_neg hn] at hq
              have hn' : ¬ (20 : Int) < (p.pn : Int) := by omega
              have HQ2 := Lib.hid hq; clear hq
              go_wp2_with (first
                | (go_at_call 126; refine (HLOW.out _).mono ?_; rintro e w3 ⟨rfl, hB3⟩; obtain ⟨t0, t1, t2, t3, t4, t5, t6, t7, t8, t9, t10, t11, t12⟩ := (hP.keep hB3).photo)
                | (go_at_call 127; refine (HID.out _ hB3).mono ?_; rintro e w4 ⟨rfl, rfl⟩))
              go_ret
              exact ⟨ret_int HQ2.out, below_up hB1 hB3⟩
end Go.Proofs.YtngbaljmlbdfkaaGreatDoor
