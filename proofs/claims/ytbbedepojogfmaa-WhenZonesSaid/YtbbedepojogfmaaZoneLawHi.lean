/- The law WhenZones, walked: t is a moment. -/
import Derived.Test.YtbbedepojogfmaaZoneLaw
namespace Go.Proofs.Ytbbedepojogfmaa
open Go.RowKit Go.Sort Go.Shelf
set_option linter.unusedVariables false
set_option maxRecDepth 100000 in
set_option maxHeartbeats 16000000 in
theorem zones_in_hi (f : Int) (a : Option Addr) (n ca : Nat) (F O : Nat → Int) (w : World) (hr : Row2 w a n (fun i => .int .i64 (F i)) (fun i => .int .i64 (O i))) (t l b : Int) (hn : n ≤ 9223372036854775807) (h0 : Zn.err f F O n = 0) (ht : 0 ≤ t ∧ t ≤ 6311433599) (hl : 6311433599 < l) :
    Calls Try.prog 3 #[.agg #[.int .i64 f, .slice a n ca], .int .i64 t, .int .i64 l, .int .i64 b] w fun e w' => e = .returned (.bool true) ∧ Below w.heap.size w w' := by
  have hR := Zn.right_of h0
  obtain ⟨W1, hW1, hP, hz1, hB1⟩ := box w #[.int .i64 f, .slice a n ca] 24
  have HW1 := Lib.hid hW1
  have HALL := Lib.hid (fun V (hC : Below W1.heap.size W1 V) => (hP.keep hC).two)
  have hPn := hP.two
  have HE := Lib.hid (fun V (hC : Below W1.heap.size W1 V) => zoneError_is f a n ca F O V (hr.keep (below_up hB1 hC)) hn)
  have HCk := Lib.hid (fun V (hC : Below W1.heap.size W1 V) => checkZone_is f a n ca F O V (hr.keep (below_up hB1 hC)) hn)
  have HOf := Lib.hid (fun V (hC : Below W1.heap.size W1 V) => offsetE_is f a n ca F O V (hr.keep (below_up hB1 hC)) t hn)
  have HLo := Lib.hid (fun V (hC : Below W1.heap.size W1 V) => local_is f a n ca F O V (hr.keep (below_up hB1 hC)) t hn)
  have HLF := Lib.hid (fun V (hC : Below W1.heap.size W1 V) => localOf_is f a n ca F O V (hr.keep (below_up hB1 hC)) t hn)
  have HDa := Lib.hid (fun V (hC : Below W1.heap.size W1 V) => localDay_is f a n ca F O V (hr.keep (below_up hB1 hC)) t b hn)
  have HOA := Lib.hid (fun V (hC : Below W1.heap.size W1 V) => offsetAt_is f a n ca F O V (hr.keep (below_up hB1 hC)) t hn)
  have el : Zn.errAt f F O n l = 2 := by unfold Zn.errAt; rw [if_pos h0, if_neg (by rw [(Ev.mom_no _).2 (.inr hl)]; simp)]
  have HMo := Lib.hid (fun V (hC : Below W1.heap.size W1 V) => moments_err f a n ca F O V (hr.keep (below_up hB1 hC)) l hn 2 el (by omega))
  -- t is a moment
  have et : Zn.errAt f F O n t = 0 := by unfold Zn.errAt; rw [if_pos h0, if_pos ((Ev.mom_iff _).2 ht)]
  rw [et, if_pos rfl] at HOf
  rw [h0] at HE HCk
  have hbd := Zn.loc_bd f F O n t
  generalize Zn.loc f F O n t = r at *
  obtain ⟨r1, r2⟩ := r
  simp only [] at HLo HLF HDa hbd
  generalize Zn.at_ f F O t n = z at *
  clear hW1 hr hP hR h0 el et
  -- rintro e w4 ⟨rfl, hB4⟩ have hno := as in ZLGO
  by_cases r0 : r2 = 0
  · subst r0
    by_cases hb : b < 0
    · rw [Zn.day_out (.inl hb)] at HDa
      go_enter Try.func3, Try.ntmps3
      go_wp2_with fail
      rw [HW1.out]
      go_wp2_with (first
        | (go_at_call 10; refine (HE.out _ (Below.refl _ _)).mono ?_; rintro e w1 ⟨rfl, hC⟩; have hPn := HALL.out _ hC)
        | (go_at_call 11; refine (HOf.out _ hC).mono ?_; rintro e w2 ⟨rfl, hB2⟩; have hC := below_up hC hB2; have hPn := HALL.out _ hC)
        | (go_at_call 12; refine (HLo.out _ hC).mono ?_; rintro e w3 ⟨rfl, hB3⟩; have hC := below_up hC hB3; have hPn := HALL.out _ hC)
        | (go_at_call 13; refine (HMo.out _ hC).mono ?_; rintro e w4 ⟨rfl, hB4⟩; have hC := below_up hC hB4; have hPn := HALL.out _ hC)
        | (go_at_call 14; refine (HDa.out _ hC).mono ?_; rintro e w5 ⟨rfl, hB5⟩; have hC := below_up hC hB5; have hPn := HALL.out _ hC; have hno := hB5)
        | (go_at_call 15; refine (HCk.out _ hC).mono ?_; rintro e w6 ⟨rfl, hB6⟩; have hC := below_up hC hB6; have hPn := HALL.out _ hC; have hno := hB6)
        | (go_at_call 16; refine (HOA.out _ hC).mono ?_; rintro e w7 ⟨rfl, hB7⟩; have hC := below_up hC hB7; have hPn := HALL.out _ hC; have hno := hB7)
        | (go_at_call 18; refine (HMR.out _ hC).mono ?_; rintro e w8 ⟨a8, ca8, rfl, hrow8, hB8⟩; have hC := below_up hC hB8; have hPn := HALL.out _ hC; have hno := hB8)
        | (go_at_call 17; refine (HEQ.out _ _ _ _ _ hrow hrow8).mono ?_; rintro e w9 ⟨rfl, hB9⟩; have hC := below_up hC hB9; have hPn := HALL.out _ hC)
        | (go_at_call 19; refine (HLF.out _ hC).mono ?_; rintro e w10 ⟨rfl, hB10⟩; have hC := below_up hC hB10; have hPn := HALL.out _ hC))
      go_ret
      exact ⟨ret_bool (by simp), below_up hB1 hC⟩
    · by_cases hb' : 1439 < b
      · rw [Zn.day_out (.inr (.inl hb'))] at HDa
        go_enter Try.func3, Try.ntmps3
        go_wp2_with fail
        rw [HW1.out]
        go_wp2_with (first
          | (go_at_call 10; refine (HE.out _ (Below.refl _ _)).mono ?_; rintro e w1 ⟨rfl, hC⟩; have hPn := HALL.out _ hC)
          | (go_at_call 11; refine (HOf.out _ hC).mono ?_; rintro e w2 ⟨rfl, hB2⟩; have hC := below_up hC hB2; have hPn := HALL.out _ hC)
          | (go_at_call 12; refine (HLo.out _ hC).mono ?_; rintro e w3 ⟨rfl, hB3⟩; have hC := below_up hC hB3; have hPn := HALL.out _ hC)
          | (go_at_call 13; refine (HMo.out _ hC).mono ?_; rintro e w4 ⟨rfl, hB4⟩; have hC := below_up hC hB4; have hPn := HALL.out _ hC)
          | (go_at_call 14; refine (HDa.out _ hC).mono ?_; rintro e w5 ⟨rfl, hB5⟩; have hC := below_up hC hB5; have hPn := HALL.out _ hC; have hno := hB5)
          | (go_at_call 15; refine (HCk.out _ hC).mono ?_; rintro e w6 ⟨rfl, hB6⟩; have hC := below_up hC hB6; have hPn := HALL.out _ hC; have hno := hB6)
          | (go_at_call 16; refine (HOA.out _ hC).mono ?_; rintro e w7 ⟨rfl, hB7⟩; have hC := below_up hC hB7; have hPn := HALL.out _ hC; have hno := hB7)
          | (go_at_call 18; refine (HMR.out _ hC).mono ?_; rintro e w8 ⟨a8, ca8, rfl, hrow8, hB8⟩; have hC := below_up hC hB8; have hPn := HALL.out _ hC; have hno := hB8)
          | (go_at_call 17; refine (HEQ.out _ _ _ _ _ hrow hrow8).mono ?_; rintro e w9 ⟨rfl, hB9⟩; have hC := below_up hC hB9; have hPn := HALL.out _ hC)
          | (go_at_call 19; refine (HLF.out _ hC).mono ?_; rintro e w10 ⟨rfl, hB10⟩; have hC := below_up hC hB10; have hPn := HALL.out _ hC))
        go_ret
        exact ⟨ret_bool (by simp), below_up hB1 hC⟩
      · by_cases hc : r1 < 60 * b
        · rw [Zn.day_out (.inr (.inr hc))] at HDa
          go_enter Try.func3, Try.ntmps3
          go_wp2_with fail
          rw [HW1.out]
          go_wp2_with (first
            | (go_at_call 10; refine (HE.out _ (Below.refl _ _)).mono ?_; rintro e w1 ⟨rfl, hC⟩; have hPn := HALL.out _ hC)
            | (go_at_call 11; refine (HOf.out _ hC).mono ?_; rintro e w2 ⟨rfl, hB2⟩; have hC := below_up hC hB2; have hPn := HALL.out _ hC)
            | (go_at_call 12; refine (HLo.out _ hC).mono ?_; rintro e w3 ⟨rfl, hB3⟩; have hC := below_up hC hB3; have hPn := HALL.out _ hC)
            | (go_at_call 13; refine (HMo.out _ hC).mono ?_; rintro e w4 ⟨rfl, hB4⟩; have hC := below_up hC hB4; have hPn := HALL.out _ hC)
            | (go_at_call 14; refine (HDa.out _ hC).mono ?_; rintro e w5 ⟨rfl, hB5⟩; have hC := below_up hC hB5; have hPn := HALL.out _ hC; have hno := hB5)
            | (go_at_call 15; refine (HCk.out _ hC).mono ?_; rintro e w6 ⟨rfl, hB6⟩; have hC := below_up hC hB6; have hPn := HALL.out _ hC; have hno := hB6)
            | (go_at_call 16; refine (HOA.out _ hC).mono ?_; rintro e w7 ⟨rfl, hB7⟩; have hC := below_up hC hB7; have hPn := HALL.out _ hC; have hno := hB7)
            | (go_at_call 18; refine (HMR.out _ hC).mono ?_; rintro e w8 ⟨a8, ca8, rfl, hrow8, hB8⟩; have hC := below_up hC hB8; have hPn := HALL.out _ hC; have hno := hB8)
            | (go_at_call 17; refine (HEQ.out _ _ _ _ _ hrow hrow8).mono ?_; rintro e w9 ⟨rfl, hB9⟩; have hC := below_up hC hB9; have hPn := HALL.out _ hC)
            | (go_at_call 19; refine (HLF.out _ hC).mono ?_; rintro e w10 ⟨rfl, hB10⟩; have hC := below_up hC hB10; have hPn := HALL.out _ hC))
          go_ret
          exact ⟨ret_bool (by simp), below_up hB1 hC⟩
        · rw [Zn.day_ok (by omega)] at HDa
          go_enter Try.func3, Try.ntmps3
          go_wp2_with fail
          rw [HW1.out]
          go_wp2_with (first
            | (go_at_call 10; refine (HE.out _ (Below.refl _ _)).mono ?_; rintro e w1 ⟨rfl, hC⟩; have hPn := HALL.out _ hC)
            | (go_at_call 11; refine (HOf.out _ hC).mono ?_; rintro e w2 ⟨rfl, hB2⟩; have hC := below_up hC hB2; have hPn := HALL.out _ hC)
            | (go_at_call 12; refine (HLo.out _ hC).mono ?_; rintro e w3 ⟨rfl, hB3⟩; have hC := below_up hC hB3; have hPn := HALL.out _ hC)
            | (go_at_call 13; refine (HMo.out _ hC).mono ?_; rintro e w4 ⟨rfl, hB4⟩; have hC := below_up hC hB4; have hPn := HALL.out _ hC)
            | (go_at_call 14; refine (HDa.out _ hC).mono ?_; rintro e w5 ⟨rfl, hB5⟩; have hC := below_up hC hB5; have hPn := HALL.out _ hC; have hno := hB5)
            | (go_at_call 15; refine (HCk.out _ hC).mono ?_; rintro e w6 ⟨rfl, hB6⟩; have hC := below_up hC hB6; have hPn := HALL.out _ hC; have hno := hB6)
            | (go_at_call 16; refine (HOA.out _ hC).mono ?_; rintro e w7 ⟨rfl, hB7⟩; have hC := below_up hC hB7; have hPn := HALL.out _ hC; have hno := hB7)
            | (go_at_call 18; refine (HMR.out _ hC).mono ?_; rintro e w8 ⟨a8, ca8, rfl, hrow8, hB8⟩; have hC := below_up hC hB8; have hPn := HALL.out _ hC; have hno := hB8)
            | (go_at_call 17; refine (HEQ.out _ _ _ _ _ hrow hrow8).mono ?_; rintro e w9 ⟨rfl, hB9⟩; have hC := below_up hC hB9; have hPn := HALL.out _ hC)
            | (go_at_call 19; refine (HLF.out _ hC).mono ?_; rintro e w10 ⟨rfl, hB10⟩; have hC := below_up hC hB10; have hPn := HALL.out _ hC))
          go_ret
          exact ⟨ret_bool (by simp), below_up hB1 hC⟩
  · rw [Zn.day_err r0] at HDa
    have hr2' : (r2 == 0) = false := by simpa using r0
    have hr2'' : (r2 != 0) = true := by simpa using r0
    clear r0
    go_enter Try.func3, Try.ntmps3
    go_wp2_with fail
    rw [HW1.out]
    go_wp2_with (first
      | (go_at_call 10; refine (HE.out _ (Below.refl _ _)).mono ?_; rintro e w1 ⟨rfl, hC⟩; have hPn := HALL.out _ hC)
      | (go_at_call 11; refine (HOf.out _ hC).mono ?_; rintro e w2 ⟨rfl, hB2⟩; have hC := below_up hC hB2; have hPn := HALL.out _ hC)
      | (go_at_call 12; refine (HLo.out _ hC).mono ?_; rintro e w3 ⟨rfl, hB3⟩; have hC := below_up hC hB3; have hPn := HALL.out _ hC)
      | (go_at_call 13; refine (HMo.out _ hC).mono ?_; rintro e w4 ⟨rfl, hB4⟩; have hC := below_up hC hB4; have hPn := HALL.out _ hC)
      | (go_at_call 14; refine (HDa.out _ hC).mono ?_; rintro e w5 ⟨rfl, hB5⟩; have hC := below_up hC hB5; have hPn := HALL.out _ hC; have hno := hB5)
      | (go_at_call 15; refine (HCk.out _ hC).mono ?_; rintro e w6 ⟨rfl, hB6⟩; have hC := below_up hC hB6; have hPn := HALL.out _ hC; have hno := hB6)
      | (go_at_call 16; refine (HOA.out _ hC).mono ?_; rintro e w7 ⟨rfl, hB7⟩; have hC := below_up hC hB7; have hPn := HALL.out _ hC; have hno := hB7)
      | (go_at_call 18; refine (HMR.out _ hC).mono ?_; rintro e w8 ⟨a8, ca8, rfl, hrow8, hB8⟩; have hC := below_up hC hB8; have hPn := HALL.out _ hC; have hno := hB8)
      | (go_at_call 17; refine (HEQ.out _ _ _ _ _ hrow hrow8).mono ?_; rintro e w9 ⟨rfl, hB9⟩; have hC := below_up hC hB9; have hPn := HALL.out _ hC)
      | (go_at_call 19; refine (HLF.out _ hC).mono ?_; rintro e w10 ⟨rfl, hB10⟩; have hC := below_up hC hB10; have hPn := HALL.out _ hC))
    go_ret
    exact ⟨ret_bool (by simp), below_up hB1 hC⟩
end Go.Proofs.Ytbbedepojogfmaa
