/- checkWhen, checkPlace, placed, checkIds: contracts. -/
import Derived.Test.YtbbedepojogfmaaFdPh
import Derived.Test.YtbbedepojogfmaaZone
namespace Go.Proofs.Ytbbedepojogfmaa
open Go.RowKit Go.Sort Go.Shelf
set_option linter.unusedVariables false
set_option maxHeartbeats 2000000 in
theorem localP_is (p : Ph) (w : World) (hm : 0 ≤ p.mom ∧ p.mom ≤ 6311433599) (hz : -840 ≤ p.zone ∧ p.zone ≤ 840) : Calls Try.prog 92 #[.agg #[.int .i64 p.id, .string p.file, .int .i64 p.mom, .int .i64 p.zone, .slice p.wa p.wn p.wc, .int .i64 p.W, .int .i64 p.H, .int .i64 p.turn, .int .i64 p.stars, .slice p.ta p.tn p.tc, .string p.cap, .slice p.pa p.pn p.pc, .bool p.hid]] w fun e w' => e = .returned (.int .i64 (p.mom + 60 * p.zone)) ∧ Below w.heap.size w w' := by
  -- a photo's box: W1, its 13 cells
  obtain ⟨W1, hW1, hP, hz1, hB1⟩ := box w #[.int .i64 p.id, .string p.file, .int .i64 p.mom, .int .i64 p.zone, .slice p.wa p.wn p.wc, .int .i64 p.W, .int .i64 p.H, .int .i64 p.turn, .int .i64 p.stars, .slice p.ta p.tn p.tc, .string p.cap, .slice p.pa p.pn p.pc, .bool p.hid] 40
  have HW1 := Lib.hid hW1
  clear hW1 hz1
  obtain ⟨q0, q1, q2, q3, q4, q5, q6, q7, q8, q9, q10, q11, q12⟩ := hP.photo
  go_enter Try.func92, Try.ntmps92
  go_wp2_with fail
  rw [HW1.out]
  go_wp2_with fail
  go_ret
  exact ⟨rfl, hB1⟩
set_option maxHeartbeats 2000000 in
theorem checkWhen_is (p : Ph) (w : World) (b : Bool) (h : Fd.whenB p.mom p.zone = b) : Calls Try.prog 61 #[.agg #[.int .i64 p.id, .string p.file, .int .i64 p.mom, .int .i64 p.zone, .slice p.wa p.wn p.wc, .int .i64 p.W, .int .i64 p.H, .int .i64 p.turn, .int .i64 p.stars, .slice p.ta p.tn p.tc, .string p.cap, .slice p.pa p.pn p.pc, .bool p.hid]] w fun e w' => e = .returned (.int .i64 (if b = true then 0 else 2)) ∧ Below w.heap.size w w' := by
  -- a photo's box: W1, its 13 cells
  obtain ⟨W1, hW1, hP, hz1, hB1⟩ := box w #[.int .i64 p.id, .string p.file, .int .i64 p.mom, .int .i64 p.zone, .slice p.wa p.wn p.wc, .int .i64 p.W, .int .i64 p.H, .int .i64 p.turn, .int .i64 p.stars, .slice p.ta p.tn p.tc, .string p.cap, .slice p.pa p.pn p.pc, .bool p.hid] 40
  have HW1 := Lib.hid hW1
  clear hW1 hz1
  obtain ⟨q0, q1, q2, q3, q4, q5, q6, q7, q8, q9, q10, q11, q12⟩ := hP.photo
  by_cases h1 : -1 ≤ p.mom ∧ p.mom ≤ 6311433599
  · by_cases h2 : -840 ≤ p.zone ∧ p.zone ≤ 840
    · have z1 := h2.1
      have z2 := h2.2
      have m2 := h1.2
      by_cases h3 : 0 ≤ p.mom
      · by_cases h4 : 0 ≤ p.mom + 60 * p.zone ∧ p.mom + 60 * p.zone ≤ 6311433599
        · obtain rfl : b = true := by rw [← h]; exact decide_eq_true ⟨h1, h2, fun _ => h4⟩
          rw [if_pos rfl]
          have H1 := Lib.hid h1; have H2 := Lib.hid h2; have H4 := Lib.hid h4; have HH := Lib.hid h; clear h1 h2 h4 h
          -- outsideF_no H1.out: the contract of outside at the moment; outsideF_no H2.out: at the zone; ⟨h3, m2⟩ H2.out: at the local seconds
          go_enter Try.func61, Try.ntmps61
          go_wp2_with fail
          rw [HW1.out]
          go_wp2_with (first
            | (go_at_call 59; (with_reducible refine (outsideF_no p.mom (-1) 6311433599 _ H1.out).mono ?_); rintro e w2 ⟨rfl, rfl⟩)
            | (go_at_call 59; (with_reducible refine (outsideF_no p.zone (-840) 840 _ H2.out).mono ?_); rintro e w2 ⟨rfl, rfl⟩)
            | (go_at_call 92; refine (localP_is p _ ⟨h3, m2⟩ H2.out).mono ?_; rintro e w3 ⟨rfl, hB3⟩)
            | (go_at_call 59; (with_reducible refine (outsideF_no (p.mom + 60 * p.zone) 0 6311433599 _ H4.out).mono ?_); rintro e w2 ⟨rfl, rfl⟩))
          go_ret
          exact ⟨rfl, below_up hB1 hB3⟩
        · obtain rfl : b = false := by rw [← h]; exact decide_eq_false fun g => h4 (g.2.2 h3)
          rw [if_neg (by simp)]
          have h5 : p.mom + 60 * p.zone < 0 ∨ 6311433599 < p.mom + 60 * p.zone := by omega
          have H1 := Lib.hid h1; have H2 := Lib.hid h2; have H4 := Lib.hid h5; have HH := Lib.hid h; clear h1 h2 h4 h5 h
          -- outsideF_no H1.out: the contract of outside at the moment; outsideF_no H2.out: at the zone; ⟨h3, m2⟩ H2.out: at the local seconds
          go_enter Try.func61, Try.ntmps61
          go_wp2_with fail
          rw [HW1.out]
          go_wp2_with (first
            | (go_at_call 59; (with_reducible refine (outsideF_no p.mom (-1) 6311433599 _ H1.out).mono ?_); rintro e w2 ⟨rfl, rfl⟩)
            | (go_at_call 59; (with_reducible refine (outsideF_no p.zone (-840) 840 _ H2.out).mono ?_); rintro e w2 ⟨rfl, rfl⟩)
            | (go_at_call 92; refine (localP_is p _ ⟨h3, m2⟩ H2.out).mono ?_; rintro e w3 ⟨rfl, hB3⟩)
            | (go_at_call 59; (with_reducible refine (outsideF_yes (p.mom + 60 * p.zone) 0 6311433599 _ H4.out).mono ?_); rintro e w2 ⟨rfl, rfl⟩))
          go_ret
          exact ⟨rfl, below_up hB1 hB3⟩
      · obtain rfl : b = true := by rw [← h]; exact decide_eq_true ⟨h1, h2, fun g => absurd g h3⟩
        rw [if_pos rfl]
        have H1 := Lib.hid h1; have H2 := Lib.hid h2; have H4 := Lib.hid h1; have HH := Lib.hid h; clear h1 h2 h
        -- outsideF_no H1.out: the contract of outside at the moment; outsideF_no H2.out: at the zone; ⟨h3, m2⟩ H2.out: at the local seconds
        go_enter Try.func61, Try.ntmps61
        go_wp2_with fail
        rw [HW1.out]
        go_wp2_with (first
          | (go_at_call 59; (with_reducible refine (outsideF_no p.mom (-1) 6311433599 _ H1.out).mono ?_); rintro e w2 ⟨rfl, rfl⟩)
          | (go_at_call 59; (with_reducible refine (outsideF_no p.zone (-840) 840 _ H2.out).mono ?_); rintro e w2 ⟨rfl, rfl⟩)
          | (go_at_call 92; refine (localP_is p _ ⟨h3, m2⟩ H2.out).mono ?_; rintro e w3 ⟨rfl, hB3⟩)
          | (go_at_call 59; (with_reducible refine (outsideF_no (p.mom + 60 * p.zone) 0 6311433599 _ H4.out).mono ?_); rintro e w2 ⟨rfl, rfl⟩))
        go_ret
        exact ⟨rfl, hB1⟩
    · obtain rfl : b = false := by rw [← h]; exact decide_eq_false fun g => h2 g.2.1
      rw [if_neg (by simp)]
      have h5 : p.zone < -840 ∨ 840 < p.zone := by omega
      have H1 := Lib.hid h1; have H2 := Lib.hid h5; have H4 := Lib.hid h1; have HH := Lib.hid h; clear h1 h2 h5 h
      -- outsideF_no H1.out: the contract of outside at the moment; outsideF_yes H2.out: at the zone; H1.out H2.out: at the local seconds
      go_enter Try.func61, Try.ntmps61
      go_wp2_with fail
      rw [HW1.out]
      go_wp2_with (first
        | (go_at_call 59; (with_reducible refine (outsideF_no p.mom (-1) 6311433599 _ H1.out).mono ?_); rintro e w2 ⟨rfl, rfl⟩)
        | (go_at_call 59; (with_reducible refine (outsideF_yes p.zone (-840) 840 _ H2.out).mono ?_); rintro e w2 ⟨rfl, rfl⟩)
        | (go_at_call 92; refine (localP_is p _ H1.out H2.out).mono ?_; rintro e w3 ⟨rfl, hB3⟩)
        | (go_at_call 59; (with_reducible refine (outsideF_no (p.mom + 60 * p.zone) 0 6311433599 _ H4.out).mono ?_); rintro e w2 ⟨rfl, rfl⟩))
      go_ret
      exact ⟨rfl, hB1⟩
  · obtain rfl : b = false := by rw [← h]; exact decide_eq_false fun g => h1 g.1
    rw [if_neg (by simp)]
    have h5 : p.mom < -1 ∨ 6311433599 < p.mom := by omega
    have H1 := Lib.hid h5; have H2 := Lib.hid h5; have H4 := Lib.hid h1; have HH := Lib.hid h; clear h1 h5 h
    -- outsideF_yes H1.out: the contract of outside at the moment; outsideF_yes H2.out: at the zone; H1.out H2.out: at the local seconds
    go_enter Try.func61, Try.ntmps61
    go_wp2_with fail
    rw [HW1.out]
    go_wp2_with (first
      | (go_at_call 59; (with_reducible refine (outsideF_yes p.mom (-1) 6311433599 _ H1.out).mono ?_); rintro e w2 ⟨rfl, rfl⟩)
      | (go_at_call 59; (with_reducible refine (outsideF_yes p.zone (-840) 840 _ H2.out).mono ?_); rintro e w2 ⟨rfl, rfl⟩)
      | (go_at_call 92; refine (localP_is p _ H1.out H2.out).mono ?_; rintro e w3 ⟨rfl, hB3⟩)
      | (go_at_call 59; (with_reducible refine (outsideF_no (p.mom + 60 * p.zone) 0 6311433599 _ H4.out).mono ?_); rintro e w2 ⟨rfl, rfl⟩))
    go_ret
    exact ⟨rfl, hB1⟩
set_option maxHeartbeats 2000000 in
theorem checkPlace_is (a o : Int) (w : World) (b : Bool) (h : Fd.placeB a o = b) : Calls Try.prog 62 #[.agg #[.int .i64 a, .int .i64 o]] w fun e w' => e = .returned (.int .i64 (if b = true then 0 else 2)) ∧ Below w.heap.size w w' := by
  cases h1 : decide (-90000000 ≤ a ∧ a ≤ 90000000)
  · obtain rfl : b = false := by rw [← h]; exact decide_eq_false fun g => of_decide_eq_false h1 g.1
    rw [if_neg (by simp)]
    have H1 := Lib.hid h1; clear h1 h
    -- f.checkPlace: the function; f.outside: what asks; outsideF_is false H1.out: at the latitude; outsideF_is false H1.out: at the longitude
    obtain ⟨W1, hW1, hP, hz1, hB1⟩ := box w #[.int .i64 a, .int .i64 o] 96
    have HW1 := Lib.hid hW1
    clear hW1 hz1
    obtain ⟨q0, q1⟩ := hP.two
    go_enter Try.func62, Try.ntmps62
    go_wp2_with fail
    rw [HW1.out]
    go_wp2_with (first
      | (go_at_call 59; (with_reducible refine (outsideF_is a (-90000000) 90000000 false H1.out _).mono ?_); rintro e w2 ⟨rfl, rfl⟩)
      | (go_at_call 59; (with_reducible refine (outsideF_is o (-180000000) 179999999 false H1.out _).mono ?_); rintro e w2 ⟨rfl, rfl⟩))
    go_ret
    exact ⟨rfl, hB1⟩
  · cases h2 : decide (-180000000 ≤ o ∧ o ≤ 179999999)
    · obtain rfl : b = false := by rw [← h]; exact decide_eq_false fun g => of_decide_eq_false h2 g.2
      rw [if_neg (by simp)]
      have H1 := Lib.hid h1; have H2 := Lib.hid h2; clear h1 h2 h
      -- f.checkPlace: the function; f.outside: what asks; outsideF_is true H1.out: at the latitude; outsideF_is false H2.out: at the longitude
      obtain ⟨W1, hW1, hP, hz1, hB1⟩ := box w #[.int .i64 a, .int .i64 o] 96
      have HW1 := Lib.hid hW1
      clear hW1 hz1
      obtain ⟨q0, q1⟩ := hP.two
      go_enter Try.func62, Try.ntmps62
      go_wp2_with fail
      rw [HW1.out]
      go_wp2_with (first
        | (go_at_call 59; (with_reducible refine (outsideF_is a (-90000000) 90000000 true H1.out _).mono ?_); rintro e w2 ⟨rfl, rfl⟩)
        | (go_at_call 59; (with_reducible refine (outsideF_is o (-180000000) 179999999 false H2.out _).mono ?_); rintro e w2 ⟨rfl, rfl⟩))
      go_ret
      exact ⟨rfl, hB1⟩
    · obtain rfl : b = true := by rw [← h]; exact decide_eq_true ⟨of_decide_eq_true h1, of_decide_eq_true h2⟩
      rw [if_pos rfl]
      have H1 := Lib.hid h1; have H2 := Lib.hid h2; clear h1 h2 h
      -- f.checkPlace: the function; f.outside: what asks; outsideF_is true H1.out: at the latitude; outsideF_is true H2.out: at the longitude
      obtain ⟨W1, hW1, hP, hz1, hB1⟩ := box w #[.int .i64 a, .int .i64 o] 96
      have HW1 := Lib.hid hW1
      clear hW1 hz1
      obtain ⟨q0, q1⟩ := hP.two
      go_enter Try.func62, Try.ntmps62
      go_wp2_with fail
      rw [HW1.out]
      go_wp2_with (first
        | (go_at_call 59; (with_reducible refine (outsideF_is a (-90000000) 90000000 true H1.out _).mono ?_); rintro e w2 ⟨rfl, rfl⟩)
        | (go_at_call 59; (with_reducible refine (outsideF_is o (-180000000) 179999999 true H2.out _).mono ?_); rintro e w2 ⟨rfl, rfl⟩))
      go_ret
      exact ⟨rfl, hB1⟩
set_option maxHeartbeats 2000000 in
theorem placed_is (a o : Int) (w : World) (b : Bool) (h : Fd.placeB a o = b) : Calls Try.prog 66 #[.agg #[.int .i64 a, .int .i64 o]] w fun e w' => e = .returned (.bool b) ∧ Below w.heap.size w w' := by
  cases h1 : decide (-90000000 ≤ a ∧ a ≤ 90000000)
  · obtain rfl : b = false := by rw [← h]; exact decide_eq_false fun g => of_decide_eq_false h1 g.1
    have H1 := Lib.hid h1; clear h1 h
    -- R.placed: the function; R.in: what asks; in_is false H1.out: at the latitude; in_is false H1.out: at the longitude
    obtain ⟨W1, hW1, hP, hz1, hB1⟩ := box w #[.int .i64 a, .int .i64 o] 96
    have HW1 := Lib.hid hW1
    clear hW1 hz1
    obtain ⟨q0, q1⟩ := hP.two
    go_enter Try.func66, Try.ntmps66
    go_wp2_with fail
    rw [HW1.out]
    go_wp2_with (first
      | (go_at_call 64; (with_reducible refine (in_is a (-90000000) 90000000 false H1.out _).mono ?_); rintro e w2 ⟨rfl, rfl⟩)
      | (go_at_call 64; (with_reducible refine (in_is o (-180000000) 179999999 false H1.out _).mono ?_); rintro e w2 ⟨rfl, rfl⟩))
    go_ret
    exact ⟨rfl, hB1⟩
  · cases h2 : decide (-180000000 ≤ o ∧ o ≤ 179999999)
    · obtain rfl : b = false := by rw [← h]; exact decide_eq_false fun g => of_decide_eq_false h2 g.2
      have H1 := Lib.hid h1; have H2 := Lib.hid h2; clear h1 h2 h
      -- R.placed: the function; R.in: what asks; in_is true H1.out: at the latitude; in_is false H2.out: at the longitude
      obtain ⟨W1, hW1, hP, hz1, hB1⟩ := box w #[.int .i64 a, .int .i64 o] 96
      have HW1 := Lib.hid hW1
      clear hW1 hz1
      obtain ⟨q0, q1⟩ := hP.two
      go_enter Try.func66, Try.ntmps66
      go_wp2_with fail
      rw [HW1.out]
      go_wp2_with (first
        | (go_at_call 64; (with_reducible refine (in_is a (-90000000) 90000000 true H1.out _).mono ?_); rintro e w2 ⟨rfl, rfl⟩)
        | (go_at_call 64; (with_reducible refine (in_is o (-180000000) 179999999 false H2.out _).mono ?_); rintro e w2 ⟨rfl, rfl⟩))
      go_ret
      exact ⟨rfl, hB1⟩
    · obtain rfl : b = true := by rw [← h]; exact decide_eq_true ⟨of_decide_eq_true h1, of_decide_eq_true h2⟩
      have H1 := Lib.hid h1; have H2 := Lib.hid h2; clear h1 h2 h
      -- R.placed: the function; R.in: what asks; in_is true H1.out: at the latitude; in_is true H2.out: at the longitude
      obtain ⟨W1, hW1, hP, hz1, hB1⟩ := box w #[.int .i64 a, .int .i64 o] 96
      have HW1 := Lib.hid hW1
      clear hW1 hz1
      obtain ⟨q0, q1⟩ := hP.two
      go_enter Try.func66, Try.ntmps66
      go_wp2_with fail
      rw [HW1.out]
      go_wp2_with (first
        | (go_at_call 64; (with_reducible refine (in_is a (-90000000) 90000000 true H1.out _).mono ?_); rintro e w2 ⟨rfl, rfl⟩)
        | (go_at_call 64; (with_reducible refine (in_is o (-180000000) 179999999 true H2.out _).mono ?_); rintro e w2 ⟨rfl, rfl⟩))
      go_ret
      exact ⟨rfl, hB1⟩
end Go.Proofs.Ytbbedepojogfmaa
