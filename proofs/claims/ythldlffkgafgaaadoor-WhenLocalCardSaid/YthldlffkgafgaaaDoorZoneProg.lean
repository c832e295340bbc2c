/- Offset, Local and LocalDay. -/
import Derived.Test.YthldlffkgafgaaaDoorZoneOff
import Derived.Test.YthldlffkgafgaaaDoorZoneRef
namespace Go.Proofs.YthldlffkgafgaaaDoor
open Go.RowKit Go.Sort Go.Shelf
set_option linter.unusedVariables false
theorem offset_is (f : Int) (a : Option Addr) (n ca : Nat) (F O : Nat → Int) (w : World) (hr : Row2 w a n (fun i => .int .i64 (F i)) (fun i => .int .i64 (O i))) (hR : Zn.Right f F O n) (t : Int) (ht : 0 ≤ t ∧ t ≤ 6311433599) :
    Calls Tryd.prog 48 #[.agg #[.int .i64 f, .slice a n ca], .int .i64 t] w fun e w' => e = .returned (.int .i64 (Zn.at_ f F O t n)) ∧ Below w.heap.size w w' := callsIn_wide.1 (offset_in f a n ca F O w hr hR t ht)
/-- The error of a zone and a moment. -/
def Zn.errAt (f : Int) (F O : Nat → Int) (n : Nat) (t : Int) : Int := if Zn.err f F O n = 0 then (if Ev.mom t = true then 0 else 2) else Zn.err f F O n
set_option maxHeartbeats 1000000 in
theorem checkAt_is (f : Int) (a : Option Addr) (n ca : Nat) (F O : Nat → Int) (w : World) (hr : Row2 w a n (fun i => .int .i64 (F i)) (fun i => .int .i64 (O i))) (t : Int) (hn : n ≤ 9223372036854775807) :
    Calls Tryd.prog 47 #[.agg #[.int .i64 f, .slice a n ca], .int .i64 t] w fun e w' => e = .returned (.int .i64 (Zn.errAt f F O n t)) ∧ Below w.heap.size w w' := by
  obtain ⟨W1, hW1, hP, hz1, hB⟩ := box w #[.int .i64 f, .slice a n ca] 34
  have HW1 := Lib.hid hW1
  have HE := Lib.hid (checkZone_is f a n ca F O W1 (hr.keep hB) hn)
  have hPn := hP.two
  clear hW1 hz1 hr
  unfold Zn.errAt
  generalize Zn.err f F O n = q at *
  by_cases h0 : q = 0
  · subst h0
    rw [if_pos rfl]
    cases hm : Ev.mom t
    · rw [if_neg (by simp)]
      have HM := Lib.hid hm; clear hm
      go_enter Tryd.func47, Tryd.ntmps47
      go_wp2_with fail
      rw [HW1.out]
      go_wp2_with (first | (go_at_call 75; refine HE.out.mono ?_; rintro e w2 ⟨rfl, hB2⟩) | (go_at_call 33; refine (isMoment_is _ false HM.out _).mono ?_; rintro e w3 ⟨rfl, rfl⟩))
      go_ret
      exact ⟨rfl, below_up hB hB2⟩
    · rw [if_pos rfl]
      have HM := Lib.hid hm; clear hm
      go_enter Tryd.func47, Tryd.ntmps47
      go_wp2_with fail
      rw [HW1.out]
      go_wp2_with (first | (go_at_call 75; refine HE.out.mono ?_; rintro e w2 ⟨rfl, hB2⟩) | (go_at_call 33; refine (isMoment_is _ true HM.out _).mono ?_; rintro e w3 ⟨rfl, rfl⟩))
      go_ret
      exact ⟨rfl, below_up hB hB2⟩
  · rw [if_neg h0]
    have hq' : (q == 0) = false := by simpa using h0
    have hq2 : (q != 0) = true := by simpa using h0
    clear h0
    go_enter Tryd.func47, Tryd.ntmps47
    go_wp2_with fail
    rw [HW1.out]
    go_wp2_with (go_at_call 75; refine HE.out.mono ?_; rintro e w2 ⟨rfl, hB2⟩)
    go_ret
    exact ⟨rfl, below_up hB hB2⟩
set_option maxHeartbeats 1000000 in
theorem local_is (f : Int) (a : Option Addr) (n ca : Nat) (F O : Nat → Int) (w : World) (hr : Row2 w a n (fun i => .int .i64 (F i)) (fun i => .int .i64 (O i))) (t : Int) (hn : n ≤ 9223372036854775807) :
    Calls Tryd.prog 17 #[.agg #[.int .i64 f, .slice a n ca], .int .i64 t] w fun e w' => e = .returned (.tuple #[.int .i64 (Zn.loc f F O n t).1, .int .i64 (Zn.loc f F O n t).2]) ∧ Below w.heap.size w w' := by
  obtain ⟨W1, hW1, hP, hz1, hB⟩ := box w #[.int .i64 f, .slice a n ca] 34
  have HW1 := Lib.hid hW1
  have hPn := hP.two
  have HC := Lib.hid (checkAt_is f a n ca F O W1 (hr.keep hB) t hn)
  have HR := Lib.hid hr
  clear hW1 hz1 hr
  obtain ⟨r, hrr⟩ : ∃ r, Zn.loc f F O n t = r := ⟨_, rfl⟩
  rw [hrr]
  by_cases h0 : Zn.errAt f F O n t = 0
  · have hE : Zn.err f F O n = 0 := by unfold Zn.errAt at h0; split at h0 <;> first | assumption | contradiction
    have hM : Ev.mom t = true := by unfold Zn.errAt at h0; rw [if_pos hE] at h0; split at h0 <;> first | assumption | omega
    have hR := Zn.right_of hE
    have hob := Zn.at_bd hR t n (Nat.le_refl _)
    have hmb := (Ev.mom_iff _).1 hM
    have HO := Lib.hid (fun V (hV : Below w.heap.size w V) => offset_is f a n ca F O V (HR.out.keep hV) hR t hmb)
    rw [h0] at HC
    by_cases m2 : Ev.mom (t + 60 * Zn.at_ f F O t n) = true
    · rw [Zn.loc_ok hE hM m2] at hrr
      subst hrr
      have HM2 := Lib.hid m2
      clear m2 h0 hE hM hR
      generalize Zn.at_ f F O t n = z at *
      go_enter Tryd.func17, Tryd.ntmps17
      go_wp2_with fail
      rw [HW1.out]
      go_wp2_with (first
        | (go_at_call 47; refine HC.out.mono ?_; rintro e w2 ⟨rfl, hB2⟩; have hB := below_up hB hB2; have hPn := (hP.keep hB2).two)
        | (go_at_call 48; refine (HO.out _ hB).mono ?_; rintro e w3 ⟨rfl, hB3⟩)
        | (go_at_call 33; (with_reducible refine (isMoment_is _ true HM2.out _).mono ?_); rintro e w4 ⟨rfl, rfl⟩))
      go_ret2
      exact ⟨rfl, below_up hB hB3⟩
    · have m3 : Ev.mom (t + 60 * Zn.at_ f F O t n) = false := by simpa using m2
      rw [Zn.loc_out2 hE m3] at hrr
      subst hrr
      have HM2 := Lib.hid m3
      clear m2 m3 h0 hE hM hR
      generalize Zn.at_ f F O t n = z at *
      go_enter Tryd.func17, Tryd.ntmps17
      go_wp2_with fail
      rw [HW1.out]
      go_wp2_with (first
        | (go_at_call 47; refine HC.out.mono ?_; rintro e w2 ⟨rfl, hB2⟩; have hB := below_up hB hB2; have hPn := (hP.keep hB2).two)
        | (go_at_call 48; refine (HO.out _ hB).mono ?_; rintro e w3 ⟨rfl, hB3⟩)
        | (go_at_call 33; (with_reducible refine (isMoment_is _ false HM2.out _).mono ?_); rintro e w4 ⟨rfl, rfl⟩))
      go_ret2
      exact ⟨rfl, below_up hB hB3⟩
  · have hrr2 : (0, Zn.errAt f F O n t) = r := by
      rw [← hrr]
      by_cases hE : Zn.err f F O n = 0
      · by_cases hM : Ev.mom t = true
        · exfalso; apply h0; unfold Zn.errAt; rw [if_pos hE, if_pos hM]
        · rw [Zn.loc_out hE (by simpa using hM)]; unfold Zn.errAt; rw [if_pos hE, if_neg hM]
      · rw [Zn.loc_err rfl hE]; unfold Zn.errAt; rw [if_neg hE]
    clear hrr
    subst hrr2
    generalize Zn.errAt f F O n t = q at *
    have hq' : (q == 0) = false := by simpa using h0
    have hq2 : (q != 0) = true := by simpa using h0
    clear h0
    go_enter Tryd.func17, Tryd.ntmps17
    go_wp2_with fail
    rw [HW1.out]
    go_wp2_with (go_at_call 47; refine HC.out.mono ?_; rintro e w2 ⟨rfl, hB2⟩; have hB := below_up hB hB2)
    go_ret2
    exact ⟨rfl, hB⟩
/-- LocalDay: the day, and the error. -/
def Zn.day (r : Int × Int) (b : Int) : Int × Int := if r.2 = 0 then (if 0 ≤ b ∧ b ≤ 1439 ∧ 60 * b ≤ r.1 then ((r.1 - 60 * b) / 86400, 0) else (0, 2)) else (0, r.2)
theorem Zn.loc_bd (f : Int) (F O : Nat → Int) (n : Nat) (t : Int) : 0 ≤ (Zn.loc f F O n t).1 ∧ (Zn.loc f F O n t).1 ≤ 6311433599 := by
  unfold Zn.loc
  split
  · split
    · rename_i h; exact (Ev.mom_iff _).1 h.2
    · simp
  · simp
end Go.Proofs.YthldlffkgafgaaaDoor
