/- The law WhenZones, walked. -/
import Derived.Test.YtbbedepojogfmaaZoneMom
namespace Go.Proofs.Ytbbedepojogfmaa
open Go.RowKit Go.Sort Go.Shelf
set_option linter.unusedVariables false
set_option maxRecDepth 100000 in
set_option maxHeartbeats 1000000 in
theorem moments_err (f : Int) (a : Option Addr) (n ca : Nat) (F O : Nat → Int) (w : World) (hr : Row2 w a n (fun i => .int .i64 (F i)) (fun i => .int .i64 (O i))) (t : Int) (hn : n ≤ 9223372036854775807) (q : Int) (hq : Zn.errAt f F O n t = q) (h0 : q ≠ 0) :
    Calls Try.prog 13 #[.agg #[.int .i64 f, .slice a n ca], .int .i64 t] w fun e w' => e = .returned (.tuple #[.slice none 0 0, .int .i64 q]) ∧ Below w.heap.size w w' := by
  obtain ⟨W1, hW1, hP1, hz1, hb1⟩ := box w #[.int .i64 f, .slice a n ca] 24
  obtain ⟨W2, hW2, hP2, hz2, hb2⟩ := box W1 #[.int .i64 t] 3
  have hP1 := hP1.keep hb2
  rw [hz1] at hP2
  have hB := below_up hb1 hb2
  have HW1 := Lib.hid hW1; have HW2 := Lib.hid hW2
  have HC := Lib.hid (checkAt_is f a n ca F O W2 (hr.keep hB) t hn)
  rw [hq] at HC
  have h' : (q == 0) = false := by simpa using h0
  have h'' : (q != 0) = true := by simpa using h0
  have c1 := hP1.two; have c2 := hP2.one
  clear hW1 hW2 hb1 hb2 hz1 hz2 hr hq h0
  go_enter Try.func13, Try.ntmps13
  go_wp2_with fail
  rw [HW1.out, HW2.out]
  go_wp2_with (go_at_call 52; refine HC.out.mono ?_; rintro e w' ⟨rfl, hB2⟩)
  go_ret2
  exact ⟨rfl, below_up hB hB2⟩
set_option maxRecDepth 100000 in
set_option maxHeartbeats 8000000 in
theorem zones_bad (f : Int) (a : Option Addr) (n ca : Nat) (F O : Nat → Int) (w : World) (hr : Row2 w a n (fun i => .int .i64 (F i)) (fun i => .int .i64 (O i))) (t l b : Int) (hn : n ≤ 9223372036854775807) (h0 : Zn.err f F O n ≠ 0) :
    Calls Try.prog 3 #[.agg #[.int .i64 f, .slice a n ca], .int .i64 t, .int .i64 l, .int .i64 b] w fun e w' => e = .returned (.bool true) ∧ Below w.heap.size w w' := by
  obtain ⟨W1, hW1, hP, hz1, hB1⟩ := box w #[.int .i64 f, .slice a n ca] 24
  have HW1 := Lib.hid hW1
  have HALL := Lib.hid (fun V (hC : Below W1.heap.size W1 V) => (hP.keep hC).two)
  have hPn := hP.two
  have HE := Lib.hid (fun V (hC : Below W1.heap.size W1 V) => zoneError_is f a n ca F O V (hr.keep (below_up hB1 hC)) hn)
  have HCk := Lib.hid (fun V (hC : Below W1.heap.size W1 V) => checkZone_is f a n ca F O V (hr.keep (below_up hB1 hC)) hn)
  have HOf := Lib.hid (fun V (hC : Below W1.heap.size W1 V) => offsetE_is f a n ca F O V (hr.keep (below_up hB1 hC)) t hn)
  have HLo := Lib.hid (fun V (hC : Below W1.heap.size W1 V) => local_is f a n ca F O V (hr.keep (below_up hB1 hC)) t hn)
  have HLF := Lib.hid (fun V (hC : Below W1.heap.size W1 V) => localOf_is f a n ca F O V (hr.keep (below_up hB1 hC)) t hn)
  have HDa := Lib.hid (fun V (hC : Below W1.heap.size W1 V) => localDay_is f a n ca F O V (hr.keep (below_up hB1 hC)) t b hn)
  have HOA := Lib.hid (fun V (hC : Below W1.heap.size W1 V) => offsetAt_is f a n ca F O V (hr.keep (below_up hB1 hC)) t hn)
  have HMo := Lib.hid (fun V (hC : Below W1.heap.size W1 V) => moments_err f a n ca F O V (hr.keep (below_up hB1 hC)) l hn (Zn.err f F O n) (by unfold Zn.errAt; rw [if_neg h0]) h0)
  have et : Zn.errAt f F O n t = Zn.err f F O n := by unfold Zn.errAt; rw [if_neg h0]
  have el : Zn.loc f F O n t = (0, Zn.err f F O n) := Zn.loc_err rfl h0
  rw [et, if_neg h0] at HOf
  rw [el] at HLo HLF HDa
  have ed : Zn.day (0, Zn.err f F O n) b = (0, Zn.err f F O n) := by unfold Zn.day; rw [if_neg h0]
  rw [ed] at HDa
  clear et el ed
  generalize Zn.err f F O n = q at *
  have hq' : (q == 0) = false := by simpa using h0
  have hq2 : (q != 0) = true := by simpa using h0
  clear h0 hW1 hr hP
  go_enter Try.func3, Try.ntmps3
  go_wp2_with fail
  rw [HW1.out]
  go_wp2_with (first
    | (go_at_call 10; refine (HE.out _ (Below.refl _ _)).mono ?_; rintro e w1 ⟨rfl, hC⟩; have hPn := HALL.out _ hC)
    | (go_at_call 11; refine (HOf.out _ hC).mono ?_; rintro e w2 ⟨rfl, hB2⟩; have hC := below_up hC hB2; have hPn := HALL.out _ hC)
    | (go_at_call 12; refine (HLo.out _ hC).mono ?_; rintro e w3 ⟨rfl, hB3⟩; have hC := below_up hC hB3; have hPn := HALL.out _ hC)
    | (go_at_call 13; refine (HMo.out _ hC).mono ?_; rintro e w4 ⟨rfl, hB4⟩; have hC := below_up hC hB4; have hPn := HALL.out _ hC)
    | (go_at_call 14; refine (HDa.out _ hC).mono ?_; rintro e w5 ⟨rfl, hB5⟩; have hC := below_up hC hB5; have hPn := HALL.out _ hC)
    | (go_at_call 15; refine (HCk.out _ hC).mono ?_; rintro e w6 ⟨rfl, hB6⟩; have hC := below_up hC hB6; have hPn := HALL.out _ hC))
  go_ret
  exact ⟨ret_bool (by simp), below_up hB1 hC⟩
theorem Zn.day_out {r b : Int} (h : b < 0 ∨ 1439 < b ∨ r < 60 * b) : Zn.day (r, 0) b = (0, 2) := by unfold Zn.day; rw [if_pos rfl, if_neg (by simp only []; omega)]
theorem Zn.day_ok {r b : Int} (h : ¬ (b < 0 ∨ 1439 < b ∨ r < 60 * b)) : Zn.day (r, 0) b = ((r - 60 * b) / 86400, 0) := by unfold Zn.day; rw [if_pos rfl, if_pos (by simp only []; omega)]
theorem Zn.day_err {r q b : Int} (h : q ≠ 0) : Zn.day (r, q) b = (0, q) := by unfold Zn.day; rw [if_neg h]
end Go.Proofs.Ytbbedepojogfmaa
