/- desk.Clean. -/
import Derived.Test.YtipmegkmkbbklaaDcTop
import Derived.Test.YtipmegkmkbbklaaDcCleanE
namespace Go.Proofs.Ytipmegkmkbbklaa
open Go.RowKit Go.Sort Go.Shelf
set_option linter.unusedVariables false
set_option maxRecDepth 100000 in
set_option maxHeartbeats 4000000 in
theorem cleanW_err (p : Ph) (hF : p.Fits) (key album : ByteArray) (hk : key.size ≤ 9223372036854775807) (pl pe wo : Bool) (F T : Int) (ha : Option Addr) (hn hc : Nat) (la lo ra : Nat → Int) (w : World) (hI : p.In w) (hA : Ars w ha hn la lo ra) (hnle : hn ≤ 9223372036854775807) (q : Int) (hq : Dc.err p key F T (Dc.homes la lo ra hn) = q) (hne : q ≠ 0) :
    Calls Try.prog 6 #[.agg #[.int .i64 p.id, .string p.file, .int .i64 p.mom, .int .i64 p.zone, .slice p.wa p.wn p.wc, .int .i64 p.W, .int .i64 p.H, .int .i64 p.turn, .int .i64 p.stars, .slice p.ta p.tn p.tc, .string p.cap, .slice p.pa p.pn p.pc, .bool p.hid], .agg #[.string key, .string album, .bool pl, .bool pe, .bool wo, .int .i64 F, .int .i64 T], .slice ha hn hc] w fun e w' => e = .returned (.tuple #[.agg #[.int .i64 0, .string ⟨#[]⟩, .int .i64 0, .int .i64 0, .slice none 0 0, .int .i64 0, .int .i64 0, .int .i64 0, .int .i64 0, .slice none 0 0, .string ⟨#[]⟩, .slice none 0 0, .bool false], .int .i64 q]) ∧ Below w.heap.size w w' := by
  obtain ⟨W1, hW1, hP, hz1, hB1⟩ := box w #[.int .i64 p.id, .string p.file, .int .i64 p.mom, .int .i64 p.zone, .slice p.wa p.wn p.wc, .int .i64 p.W, .int .i64 p.H, .int .i64 p.turn, .int .i64 p.stars, .slice p.ta p.tn p.tc, .string p.cap, .slice p.pa p.pn p.pc, .bool p.hid] 26
  obtain ⟨W2, hW2, hL, hz2, hB2⟩ := box W1 #[.string key, .string album, .bool pl, .bool pe, .bool wo, .int .i64 F, .int .i64 T] 28
  obtain ⟨W3, hW3, hQ, hz3, hB3⟩ := box W2 #[.int .i64 0, .string ⟨#[]⟩, .int .i64 0, .int .i64 0, .slice none 0 0, .int .i64 0, .int .i64 0, .int .i64 0, .int .i64 0, .slice none 0 0, .string ⟨#[]⟩, .slice none 0 0, .bool false] 26
  have HW1 := Lib.hid hW1; have HW2 := Lib.hid hW2; have HW3 := Lib.hid hW3
  have hB23 := below_up hB2 hB3
  have hP := hP.keep hB23
  have hL := hL.keep hB3
  rw [hz1] at hL hz2
  rw [hz2] at hQ
  have hB := below_up hB1 hB23
  obtain ⟨q0, q1, q2, q3, q4, q5, q6, q7, q8, q9, q10, q11, q12⟩ := hP.photo
  have HPE := Lib.hid (checkPhoto_is p W3 (hI.keep hB) hF)
  have HCT := Lib.hid (fun V => checkTimes_is key album pl pe wo F T V (Dc.times F T) rfl)
  have HHR := Lib.hid (fun V hV => checkHomes_is ha hn hc la lo ra V (hA.keep hV) hnle)
  clear hW1 hW2 hW3 hz1 hz2 hz3
  unfold Dc.err at hq
  by_cases h0 : p.err = 0
  · rw [if_pos h0] at hq
    rw [h0] at HPE
    clear h0
    cases hnm : Fd.nameB key
    · have HNM := Lib.hid (fun V => isNameW_is key hk false hnm V)
      have hq3 : q = 3 := by rw [← hq, if_neg (by rw [hnm]; simp)]
      subst hq3
      clear hq hnm hne
      go_enter Try.func6, Try.ntmps6
      go_wp2_with fail
      rw [HW1.out, HW2.out, HW3.out]
      go_wp2_with (first
        | (go_at_call 26; (with_reducible refine HPE.out.mono ?_); rintro e w4 ⟨rfl, hB4⟩; have hP4 := hP.keep hB4; have hL4 := hL.keep hB4; have hQ4 := hQ.keep hB4; have hB04 := below_up hB hB4; obtain ⟨l0, l1, l2, l3, l4, l5, l6⟩ := hL4.link)
        | (go_at_call 27; (with_reducible refine (HNM.out _).mono ?_); rintro e w5 ⟨rfl, rfl⟩)
        | (go_at_call 28; (with_reducible refine (HCT.out _).mono ?_); rintro e w6 ⟨rfl, hB6⟩; have hP4 := hP4.keep hB6; have hL4 := hL4.keep hB6; have hQ4 := hQ4.keep hB6; have hB04 := below_up hB04 hB6; obtain ⟨q0, q1, q2, q3, q4, q5, q6, q7, q8, q9, q10, q11, q12⟩ := hP4.photo; obtain ⟨l0, l1, l2, l3, l4, l5, l6⟩ := hL4.link)
        | (go_at_call 29; (with_reducible refine (HHR.out _ hB04).mono ?_); rintro e w7 ⟨rfl, hB7⟩; have hP4 := hP4.keep hB7; have hL4 := hL4.keep hB7; have hQ4 := hQ4.keep hB7; have hB04 := below_up hB04 hB7; obtain ⟨q0, q1, q2, q3, q4, q5, q6, q7, q8, q9, q10, q11, q12⟩ := hP4.photo; obtain ⟨l0, l1, l2, l3, l4, l5, l6⟩ := hL4.link)
        | (refine wpList_store_row rfl 26 _ _ rfl (w.heap.size + 1 + 1) #[.int .i64 0, .string ⟨#[]⟩, .int .i64 0, .int .i64 0, .slice none 0 0, .int .i64 0, .int .i64 0, .int .i64 0, .int .i64 0, .slice none 0 0, .string ⟨#[]⟩, .slice none 0 0, .bool false] rfl rfl 26 _ hQ4 infoPh rfl (by simp [Value.oneCell']) ?_))
      obtain ⟨z0, z1, z2, z3, z4, z5, z6, z7, z8, z9, z10, z11, z12⟩ := (blk_setRow_same (cs := #[.int .i64 0, .string ⟨#[]⟩, .int .i64 0, .int .i64 0, .slice none 0 0, .int .i64 0, .int .i64 0, .int .i64 0, .int .i64 0, .slice none 0 0, .string ⟨#[]⟩, .slice none 0 0, .bool false]) hQ4).photo
      exact bodyPost_ret (v := .tuple #[.agg #[.int .i64 0, .string ⟨#[]⟩, .int .i64 0, .int .i64 0, .slice none 0 0, .int .i64 0, .int .i64 0, .int .i64 0, .int .i64 0, .slice none 0 0, .string ⟨#[]⟩, .slice none 0 0, .bool false], .int .i64 3]) (by simp [results, Try.results6, go_sem, z0, z1, z2, z3, z4, z5, z6, z7, z8, z9, z10, z11, z12]) rfl ⟨rfl, below_setRow hB04 (by omega) _⟩
    · have HNM := Lib.hid (fun V => isNameW_is key hk true hnm V)
      rw [if_pos hnm] at hq
      clear hnm
      by_cases ht : Dc.times F T = 0
      · rw [if_pos ht] at hq
        rw [ht] at HCT
        rw [hq] at HHR
        have hq1 : (q == 0) = false := by simpa using hne
        have hq2 : (q != 0) = true := by simpa using hne
        clear hq ht
        go_enter Try.func6, Try.ntmps6
        go_wp2_with fail
        rw [HW1.out, HW2.out, HW3.out]
        go_wp2_with (first
          | (go_at_call 26; (with_reducible refine HPE.out.mono ?_); rintro e w4 ⟨rfl, hB4⟩; have hP4 := hP.keep hB4; have hL4 := hL.keep hB4; have hQ4 := hQ.keep hB4; have hB04 := below_up hB hB4; obtain ⟨l0, l1, l2, l3, l4, l5, l6⟩ := hL4.link)
          | (go_at_call 27; (with_reducible refine (HNM.out _).mono ?_); rintro e w5 ⟨rfl, rfl⟩)
          | (go_at_call 28; (with_reducible refine (HCT.out _).mono ?_); rintro e w6 ⟨rfl, hB6⟩; have hP4 := hP4.keep hB6; have hL4 := hL4.keep hB6; have hQ4 := hQ4.keep hB6; have hB04 := below_up hB04 hB6; obtain ⟨q0, q1, q2, q3, q4, q5, q6, q7, q8, q9, q10, q11, q12⟩ := hP4.photo; obtain ⟨l0, l1, l2, l3, l4, l5, l6⟩ := hL4.link)
          | (go_at_call 29; (with_reducible refine (HHR.out _ hB04).mono ?_); rintro e w7 ⟨rfl, hB7⟩; have hP4 := hP4.keep hB7; have hL4 := hL4.keep hB7; have hQ4 := hQ4.keep hB7; have hB04 := below_up hB04 hB7; obtain ⟨q0, q1, q2, q3, q4, q5, q6, q7, q8, q9, q10, q11, q12⟩ := hP4.photo; obtain ⟨l0, l1, l2, l3, l4, l5, l6⟩ := hL4.link)
          | (refine wpList_store_row rfl 26 _ _ rfl (w.heap.size + 1 + 1) #[.int .i64 0, .string ⟨#[]⟩, .int .i64 0, .int .i64 0, .slice none 0 0, .int .i64 0, .int .i64 0, .int .i64 0, .int .i64 0, .slice none 0 0, .string ⟨#[]⟩, .slice none 0 0, .bool false] rfl rfl 26 _ hQ4 infoPh rfl (by simp [Value.oneCell']) ?_))
        obtain ⟨z0, z1, z2, z3, z4, z5, z6, z7, z8, z9, z10, z11, z12⟩ := (blk_setRow_same (cs := #[.int .i64 0, .string ⟨#[]⟩, .int .i64 0, .int .i64 0, .slice none 0 0, .int .i64 0, .int .i64 0, .int .i64 0, .int .i64 0, .slice none 0 0, .string ⟨#[]⟩, .slice none 0 0, .bool false]) hQ4).photo
        exact bodyPost_ret (v := .tuple #[.agg #[.int .i64 0, .string ⟨#[]⟩, .int .i64 0, .int .i64 0, .slice none 0 0, .int .i64 0, .int .i64 0, .int .i64 0, .int .i64 0, .slice none 0 0, .string ⟨#[]⟩, .slice none 0 0, .bool false], .int .i64 q]) (by simp [results, Try.results6, go_sem, z0, z1, z2, z3, z4, z5, z6, z7, z8, z9, z10, z11, z12]) rfl ⟨rfl, below_setRow hB04 (by omega) _⟩
      · rw [if_neg ht] at hq
        rw [hq] at HCT
        have hq1 : (q == 0) = false := by simpa using hne
        have hq2 : (q != 0) = true := by simpa using hne
        clear hq ht
        go_enter Try.func6, Try.ntmps6
        go_wp2_with fail
        rw [HW1.out, HW2.out, HW3.out]
        go_wp2_with (first
          | (go_at_call 26; (with_reducible refine HPE.out.mono ?_); rintro e w4 ⟨rfl, hB4⟩; have hP4 := hP.keep hB4; have hL4 := hL.keep hB4; have hQ4 := hQ.keep hB4; have hB04 := below_up hB hB4; obtain ⟨l0, l1, l2, l3, l4, l5, l6⟩ := hL4.link)
          | (go_at_call 27; (with_reducible refine (HNM.out _).mono ?_); rintro e w5 ⟨rfl, rfl⟩)
          | (go_at_call 28; (with_reducible refine (HCT.out _).mono ?_); rintro e w6 ⟨rfl, hB6⟩; have hP4 := hP4.keep hB6; have hL4 := hL4.keep hB6; have hQ4 := hQ4.keep hB6; have hB04 := below_up hB04 hB6; obtain ⟨q0, q1, q2, q3, q4, q5, q6, q7, q8, q9, q10, q11, q12⟩ := hP4.photo; obtain ⟨l0, l1, l2, l3, l4, l5, l6⟩ := hL4.link)
          | (go_at_call 29; (with_reducible refine (HHR.out _ hB04).mono ?_); rintro e w7 ⟨rfl, hB7⟩; have hP4 := hP4.keep hB7; have hL4 := hL4.keep hB7; have hQ4 := hQ4.keep hB7; have hB04 := below_up hB04 hB7; obtain ⟨q0, q1, q2, q3, q4, q5, q6, q7, q8, q9, q10, q11, q12⟩ := hP4.photo; obtain ⟨l0, l1, l2, l3, l4, l5, l6⟩ := hL4.link)
          | (refine wpList_store_row rfl 26 _ _ rfl (w.heap.size + 1 + 1) #[.int .i64 0, .string ⟨#[]⟩, .int .i64 0, .int .i64 0, .slice none 0 0, .int .i64 0, .int .i64 0, .int .i64 0, .int .i64 0, .slice none 0 0, .string ⟨#[]⟩, .slice none 0 0, .bool false] rfl rfl 26 _ hQ4 infoPh rfl (by simp [Value.oneCell']) ?_))
        obtain ⟨z0, z1, z2, z3, z4, z5, z6, z7, z8, z9, z10, z11, z12⟩ := (blk_setRow_same (cs := #[.int .i64 0, .string ⟨#[]⟩, .int .i64 0, .int .i64 0, .slice none 0 0, .int .i64 0, .int .i64 0, .int .i64 0, .int .i64 0, .slice none 0 0, .string ⟨#[]⟩, .slice none 0 0, .bool false]) hQ4).photo
        exact bodyPost_ret (v := .tuple #[.agg #[.int .i64 0, .string ⟨#[]⟩, .int .i64 0, .int .i64 0, .slice none 0 0, .int .i64 0, .int .i64 0, .int .i64 0, .int .i64 0, .slice none 0 0, .string ⟨#[]⟩, .slice none 0 0, .bool false], .int .i64 q]) (by simp [results, Try.results6, go_sem, z0, z1, z2, z3, z4, z5, z6, z7, z8, z9, z10, z11, z12]) rfl ⟨rfl, below_setRow hB04 (by omega) _⟩
  · rw [if_neg h0] at hq
    rw [hq] at HPE
    have hq1 : (q == 0) = false := by simpa using hne
    have hq2 : (q != 0) = true := by simpa using hne
    have HNM : Hid True := trivial
    clear hq h0
    go_enter Try.func6, Try.ntmps6
    go_wp2_with fail
    rw [HW1.out, HW2.out, HW3.out]
    go_wp2_with (first
      | (go_at_call 26; (with_reducible refine HPE.out.mono ?_); rintro e w4 ⟨rfl, hB4⟩; have hP4 := hP.keep hB4; have hL4 := hL.keep hB4; have hQ4 := hQ.keep hB4; have hB04 := below_up hB hB4; obtain ⟨l0, l1, l2, l3, l4, l5, l6⟩ := hL4.link)
      | (go_at_call 27; (with_reducible refine (HNM.out _).mono ?_); rintro e w5 ⟨rfl, rfl⟩)
      | (go_at_call 28; (with_reducible refine (HCT.out _).mono ?_); rintro e w6 ⟨rfl, hB6⟩; have hP4 := hP4.keep hB6; have hL4 := hL4.keep hB6; have hQ4 := hQ4.keep hB6; have hB04 := below_up hB04 hB6; obtain ⟨q0, q1, q2, q3, q4, q5, q6, q7, q8, q9, q10, q11, q12⟩ := hP4.photo; obtain ⟨l0, l1, l2, l3, l4, l5, l6⟩ := hL4.link)
      | (go_at_call 29; (with_reducible refine (HHR.out _ hB04).mono ?_); rintro e w7 ⟨rfl, hB7⟩; have hP4 := hP4.keep hB7; have hL4 := hL4.keep hB7; have hQ4 := hQ4.keep hB7; have hB04 := below_up hB04 hB7; obtain ⟨q0, q1, q2, q3, q4, q5, q6, q7, q8, q9, q10, q11, q12⟩ := hP4.photo; obtain ⟨l0, l1, l2, l3, l4, l5, l6⟩ := hL4.link)
      | (refine wpList_store_row rfl 26 _ _ rfl (w.heap.size + 1 + 1) #[.int .i64 0, .string ⟨#[]⟩, .int .i64 0, .int .i64 0, .slice none 0 0, .int .i64 0, .int .i64 0, .int .i64 0, .int .i64 0, .slice none 0 0, .string ⟨#[]⟩, .slice none 0 0, .bool false] rfl rfl 26 _ hQ4 infoPh rfl (by simp [Value.oneCell']) ?_))
    obtain ⟨z0, z1, z2, z3, z4, z5, z6, z7, z8, z9, z10, z11, z12⟩ := (blk_setRow_same (cs := #[.int .i64 0, .string ⟨#[]⟩, .int .i64 0, .int .i64 0, .slice none 0 0, .int .i64 0, .int .i64 0, .int .i64 0, .int .i64 0, .slice none 0 0, .string ⟨#[]⟩, .slice none 0 0, .bool false]) hQ4).photo
    exact bodyPost_ret (v := .tuple #[.agg #[.int .i64 0, .string ⟨#[]⟩, .int .i64 0, .int .i64 0, .slice none 0 0, .int .i64 0, .int .i64 0, .int .i64 0, .int .i64 0, .slice none 0 0, .string ⟨#[]⟩, .slice none 0 0, .bool false], .int .i64 q]) (by simp [results, Try.results6, go_sem, z0, z1, z2, z3, z4, z5, z6, z7, z8, z9, z10, z11, z12]) rfl ⟨rfl, below_setRow hB04 (by omega) _⟩
set_option maxRecDepth 100000 in
set_option maxHeartbeats 4000000 in
theorem cleanW_ok (p : Ph) (hF : p.Fits) (key album : ByteArray) (hk : key.size ≤ 9223372036854775807) (pl pe wo : Bool) (F T : Int) (ha : Option Addr) (hn hc : Nat) (la lo ra : Nat → Int) (near : Nat → Bool) (w : World) (hI : p.In w) (hA : Ars w ha hn la lo ra) (hnle : hn ≤ 9223372036854775807) (hq : Dc.err p key F T (Dc.homes la lo ra hn) = 0)
    (hnear : ∀ i, i < hn → ∃ d e : Int, (∀ w : World, Calls Try.prog 80 #[.agg #[.int .i64 (p.lat 0), .int .i64 (p.lon 0)], .agg #[.int .i64 (la i), .int .i64 (lo i)]] w fun r w' => r = .returned (.tuple #[.int .i64 d, .int .i64 e]) ∧ Below w.heap.size w w') ∧ near i = decide (d ≤ ra i)) :
    Calls Try.prog 6 #[.agg #[.int .i64 p.id, .string p.file, .int .i64 p.mom, .int .i64 p.zone, .slice p.wa p.wn p.wc, .int .i64 p.W, .int .i64 p.H, .int .i64 p.turn, .int .i64 p.stars, .slice p.ta p.tn p.tc, .string p.cap, .slice p.pa p.pn p.pc, .bool p.hid], .agg #[.string key, .string album, .bool pl, .bool pe, .bool wo, .int .i64 F, .int .i64 T], .slice ha hn hc] w fun e w' => ∃ r : Ph, e = .returned (.tuple #[.agg #[.int .i64 r.id, .string r.file, .int .i64 r.mom, .int .i64 r.zone, .slice r.wa r.wn r.wc, .int .i64 r.W, .int .i64 r.H, .int .i64 r.turn, .int .i64 r.stars, .slice r.ta r.tn r.tc, .string r.cap, .slice r.pa r.pn r.pc, .bool r.hid], .int .i64 0]) ∧ r.In w' ∧ p.Like r (pl && !Fd.hit near hn) pe wo ∧ Below w.heap.size w w' := by
  unfold Dc.err at hq
  have h0 : p.err = 0 := by by_cases h : p.err = 0; exact h; rw [if_neg h] at hq; exact hq
  rw [if_pos h0] at hq
  have hnm : Fd.nameB key = true := by by_cases h : Fd.nameB key = true; exact h; rw [if_neg h] at hq; omega
  rw [if_pos hnm] at hq
  have ht : Dc.times F T = 0 := by by_cases h : Dc.times F T = 0; exact h; rw [if_neg h] at hq; exact hq
  rw [if_pos ht] at hq
  have HNM := Lib.hid (fun V => isNameW_is key hk true hnm V)
  have HCL := Lib.hid (fun V hV hA' => clean_is p (Ph.few_of h0) key album pl pe wo F T ha hn hc la lo ra near V hV hA' hnle hnear)
  have HIw := Lib.hid hI
  have HAw := Lib.hid hA
  obtain ⟨W1, hW1, hP, hz1, hB1⟩ := box w #[.int .i64 p.id, .string p.file, .int .i64 p.mom, .int .i64 p.zone, .slice p.wa p.wn p.wc, .int .i64 p.W, .int .i64 p.H, .int .i64 p.turn, .int .i64 p.stars, .slice p.ta p.tn p.tc, .string p.cap, .slice p.pa p.pn p.pc, .bool p.hid] 26
  obtain ⟨W2, hW2, hL, hz2, hB2⟩ := box W1 #[.string key, .string album, .bool pl, .bool pe, .bool wo, .int .i64 F, .int .i64 T] 28
  obtain ⟨W3, hW3, hQ, hz3, hB3⟩ := box W2 #[.int .i64 0, .string ⟨#[]⟩, .int .i64 0, .int .i64 0, .slice none 0 0, .int .i64 0, .int .i64 0, .int .i64 0, .int .i64 0, .slice none 0 0, .string ⟨#[]⟩, .slice none 0 0, .bool false] 26
  have HW1 := Lib.hid hW1; have HW2 := Lib.hid hW2; have HW3 := Lib.hid hW3
  have hB23 := below_up hB2 hB3
  have hP := hP.keep hB23
  have hL := hL.keep hB3
  rw [hz1] at hL hz2
  rw [hz2] at hQ
  have hB := below_up hB1 hB23
  obtain ⟨q0, q1, q2, q3, q4, q5, q6, q7, q8, q9, q10, q11, q12⟩ := hP.photo
  have HPE := Lib.hid (checkPhoto_is p W3 (hI.keep hB) hF)
  have HCT := Lib.hid (fun V => checkTimes_is key album pl pe wo F T V (Dc.times F T) rfl)
  have HHR := Lib.hid (fun V hV => checkHomes_is ha hn hc la lo ra V (hA.keep hV) hnle)
  clear hW1 hW2 hW3 hz1 hz2 hz3
  rw [h0] at HPE
  rw [ht] at HCT
  rw [hq] at HHR
  clear h0 hnm ht hq hnear hI hA hF
  go_enter Try.func6, Try.ntmps6
  go_wp2_with fail
  rw [HW1.out, HW2.out, HW3.out]
  go_wp2_with (first
    | (go_at_call 26; (with_reducible refine HPE.out.mono ?_); rintro e w4 ⟨rfl, hB4⟩; have hP4 := hP.keep hB4; have hL4 := hL.keep hB4; have hQ4 := hQ.keep hB4; have hB04 := below_up hB hB4; obtain ⟨l0, l1, l2, l3, l4, l5, l6⟩ := hL4.link)
    | (go_at_call 27; (with_reducible refine (HNM.out _).mono ?_); rintro e w5 ⟨rfl, rfl⟩)
    | (go_at_call 28; (with_reducible refine (HCT.out _).mono ?_); rintro e w6 ⟨rfl, hB6⟩; have hP4 := hP4.keep hB6; have hL4 := hL4.keep hB6; have hQ4 := hQ4.keep hB6; have hB04 := below_up hB04 hB6; obtain ⟨q0, q1, q2, q3, q4, q5, q6, q7, q8, q9, q10, q11, q12⟩ := hP4.photo; obtain ⟨l0, l1, l2, l3, l4, l5, l6⟩ := hL4.link)
    | (go_at_call 29; (with_reducible refine (HHR.out _ hB04).mono ?_); rintro e w7 ⟨rfl, hB7⟩; have hP4 := hP4.keep hB7; have hL4 := hL4.keep hB7; have hQ4 := hQ4.keep hB7; have hB04 := below_up hB04 hB7; obtain ⟨q0, q1, q2, q3, q4, q5, q6, q7, q8, q9, q10, q11, q12⟩ := hP4.photo; obtain ⟨l0, l1, l2, l3, l4, l5, l6⟩ := hL4.link))
  go_at_call 30
  refine (HCL.out _ (HIw.out.keep hB04) (HAw.out.keep hB04)).mono ?_
  rintro e w8 ⟨r, rfl, hIr, hLk, hNr, hB8⟩
  have hlt4 := hQ4.lt
  have hQ8 := hQ4.keep hB8
  have hB08 := below_up hB04 hB8
  go_wp2_with (refine wpList_store_row rfl 26 _ _ rfl (w.heap.size + 1 + 1) #[.int .i64 r.id, .string r.file, .int .i64 r.mom, .int .i64 r.zone, .slice r.wa r.wn r.wc, .int .i64 r.W, .int .i64 r.H, .int .i64 r.turn, .int .i64 r.stars, .slice r.ta r.tn r.tc, .string r.cap, .slice r.pa r.pn r.pc, .bool r.hid] rfl rfl 26 _ hQ8 infoPh rfl (by simp [Value.oneCell']) ?_)
  obtain ⟨z0, z1, z2, z3, z4, z5, z6, z7, z8, z9, z10, z11, z12⟩ := (blk_setRow_same (cs := #[.int .i64 r.id, .string r.file, .int .i64 r.mom, .int .i64 r.zone, .slice r.wa r.wn r.wc, .int .i64 r.W, .int .i64 r.H, .int .i64 r.turn, .int .i64 r.stars, .slice r.ta r.tn r.tc, .string r.cap, .slice r.pa r.pn r.pc, .bool r.hid]) hQ8).photo
  exact bodyPost_ret (v := .tuple #[.agg #[.int .i64 r.id, .string r.file, .int .i64 r.mom, .int .i64 r.zone, .slice r.wa r.wn r.wc, .int .i64 r.W, .int .i64 r.H, .int .i64 r.turn, .int .i64 r.stars, .slice r.ta r.tn r.tc, .string r.cap, .slice r.pa r.pn r.pc, .bool r.hid], .int .i64 0]) (by simp [results, Try.results6, go_sem, z0, z1, z2, z3, z4, z5, z6, z7, z8, z9, z10, z11, z12]) rfl ⟨r, rfl, hIr.setRow hNr hlt4 _, hLk, below_setRow hB08 (by omega) _⟩
end Go.Proofs.Ytipmegkmkbbklaa
