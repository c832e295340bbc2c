/- The reference's OffsetAt, LocalOf and MomentsOf. -/
import Derived.Test.YtbbedepojogfmaaZone
import Derived.Test.YtbbedepojogfmaaRise
namespace Go.Proofs.Ytbbedepojogfmaa
open Go.RowKit Go.Sort Go.Shelf
set_option linter.unusedVariables false
set_option maxRecDepth 100000 in
set_option maxHeartbeats 2000000 in
theorem offsetAt_is (f : Int) (a : Option Addr) (n ca : Nat) (F O : Nat → Int) (w : World) (hr : Row2 w a n (fun i => .int .i64 (F i)) (fun i => .int .i64 (O i))) (t : Int) (hn : n ≤ 9223372036854775807) :
    Calls Try.prog 16 #[.agg #[.int .i64 f, .slice a n ca], .int .i64 t] w fun e w' => e = .returned (.int .i64 (Zn.at_ f F O t n)) ∧ Below w.heap.size w w' := by
  obtain ⟨W1, hW1, hP, hz1, hB⟩ := box w #[.int .i64 f, .slice a n ca] 24
  have HW1 := Lib.hid hW1
  have HR := Lib.hid hr
  clear hW1 hz1 hr
  have hPn := hP.two
  go_enter Try.func16, Try.ntmps16
  go_wp2_with fail
  rw [HW1.out]
  go_wp2_with fail
  clear hPn
  go_loopg [5, 13] n (fun gk v i wr => ∃ j : Nat, j ≤ n ∧ gk = n - j ∧ i = .int .i64 j ∧ v = .int .i64 (Zn.at_ f F O t j) ∧ Below w.heap.size w wr)
  case atStart => exact ⟨0, by omega, rfl, rfl, rfl, hB⟩
  case round =>
    clear hP hB
    obtain ⟨j, hj, rfl, rfl, rfl, hB⟩ := hrel
    by_cases hlt : j < n
    · obtain ⟨b, off, rfl, hb, hcell⟩ := (HR.out.keep hB) (by omega)
      obtain ⟨c0, c1⟩ := hcell j hlt
      clear hcell
      by_cases hc : F j ≤ t
      · have HE : Hid (Zn.at_ f F O t (j + 1) = O j) := by show _ = _; rw [Zn.at_, if_pos hc]
        go_wp2_with fail
        go_roundg (n - (j + 1))
        case rel => exact ⟨j + 1, by omega, rfl, by go_num, by rw [HE.out], below_allocs hB _⟩
        case measure => omega
      · have HE : Hid (Zn.at_ f F O t (j + 1) = Zn.at_ f F O t j) := by show _ = _; rw [Zn.at_, if_neg hc]
        go_wp2_with fail
        go_roundg (n - (j + 1))
        case rel => exact ⟨j + 1, by omega, rfl, by go_num, by rw [HE.out], below_allocs hB _⟩
        case measure => omega
    · obtain rfl : j = n := by omega
      go_wp2_with fail
      go_ret
      exact ⟨rfl, hB⟩
/-- The answer of LocalOf: the local seconds, and the error. -/
def Zn.loc (f : Int) (F O : Nat → Int) (n : Nat) (t : Int) : Int × Int :=
  if Zn.err f F O n = 0 then (if Ev.mom t = true ∧ Ev.mom (t + 60 * Zn.at_ f F O t n) = true then (t + 60 * Zn.at_ f F O t n, 0) else (0, 2)) else (0, Zn.err f F O n)
theorem Zn.loc_err {f : Int} {F O : Nat → Int} {n : Nat} {t q : Int} (h : Zn.err f F O n = q) (h0 : q ≠ 0) : Zn.loc f F O n t = (0, q) := by unfold Zn.loc; rw [h, if_neg h0]
theorem Zn.loc_out {f : Int} {F O : Nat → Int} {n : Nat} {t : Int} (h : Zn.err f F O n = 0) (h1 : Ev.mom t = false) : Zn.loc f F O n t = (0, 2) := by unfold Zn.loc; rw [if_pos h, if_neg (by rw [h1]; simp)]
theorem Zn.loc_out2 {f : Int} {F O : Nat → Int} {n : Nat} {t : Int} (h : Zn.err f F O n = 0) (h1 : Ev.mom (t + 60 * Zn.at_ f F O t n) = false) : Zn.loc f F O n t = (0, 2) := by unfold Zn.loc; rw [if_pos h, if_neg (by rw [h1]; simp)]
theorem Zn.loc_ok {f : Int} {F O : Nat → Int} {n : Nat} {t : Int} (h : Zn.err f F O n = 0) (h1 : Ev.mom t = true) (h2 : Ev.mom (t + 60 * Zn.at_ f F O t n) = true) : Zn.loc f F O n t = (t + 60 * Zn.at_ f F O t n, 0) := by unfold Zn.loc; rw [if_pos h, if_pos ⟨h1, h2⟩]
set_option maxRecDepth 100000 in
set_option maxHeartbeats 4000000 in
theorem localOf_is (f : Int) (a : Option Addr) (n ca : Nat) (F O : Nat → Int) (w : World) (hr : Row2 w a n (fun i => .int .i64 (F i)) (fun i => .int .i64 (O i))) (t : Int) (hn : n ≤ 9223372036854775807) :
    Calls Try.prog 19 #[.agg #[.int .i64 f, .slice a n ca], .int .i64 t] w fun e w' => e = .returned (.tuple #[.int .i64 (Zn.loc f F O n t).1, .int .i64 (Zn.loc f F O n t).2]) ∧ Below w.heap.size w w' := by
  obtain ⟨W1, hW1, hP, hz1, hB⟩ := box w #[.int .i64 f, .slice a n ca] 24
  have HW1 := Lib.hid hW1
  have HE := Lib.hid (zoneError_is f a n ca F O W1 (hr.keep hB) hn)
  have HO := Lib.hid (fun V (hV : Below w.heap.size w V) => offsetAt_is f a n ca F O V (hr.keep hV) t hn)
  clear hW1 hz1 hr
  have hPn := hP.two
  obtain ⟨q, hq⟩ : ∃ q, Zn.err f F O n = q := ⟨_, rfl⟩
  obtain ⟨r, hrr⟩ : ∃ r, Zn.loc f F O n t = r := ⟨_, rfl⟩
  rw [hrr]
  rw [hq] at HE
  by_cases h0 : q = 0
  · subst h0
    have hR := Zn.right_of hq
    have hob := Zn.at_bd hR t n (Nat.le_refl _)
    by_cases m1 : Ev.mom t = true
    · have hmb := (Ev.mom_iff _).1 m1
      have HM := Lib.hid m1
      by_cases m2 : Ev.mom (t + 60 * Zn.at_ f F O t n) = true
      · rw [Zn.loc_ok hq m1 m2] at hrr
        subst hrr
        have HM2 := Lib.hid m2
        clear m1 m2 hq
        generalize Zn.at_ f F O t n = o at *
        go_enter Try.func19, Try.ntmps19
        go_wp2_with fail
        rw [HW1.out]
        go_wp2_with (first
          | (go_at_call 10; refine HE.out.mono ?_; rintro e w2 ⟨rfl, hB2⟩; have hP := hP.keep hB2; have hPn := hP.two; have hB := below_up hB hB2)
          | (go_at_call 51; (with_reducible refine (moment_is t true HM.out _).mono ?_); rintro e w3 ⟨rfl, rfl⟩)
          | (go_at_call 51; (with_reducible refine (moment_is (t + 60 * o) true HM2.out _).mono ?_); rintro e w3 ⟨rfl, rfl⟩)
          | (go_at_call 16; refine (HO.out _ hB).mono ?_; rintro e w4 ⟨rfl, hB4⟩; have hP := hP.keep hB4; have hPn := hP.two; have hB := below_up hB hB4))
        go_ret2
        exact ⟨rfl, hB⟩
      · have m3 : Ev.mom (t + 60 * Zn.at_ f F O t n) = false := by simpa using m2
        rw [Zn.loc_out2 hq m3] at hrr
        subst hrr
        have HM2 := Lib.hid m3
        clear m1 m2 m3 hq
        generalize Zn.at_ f F O t n = o at *
        go_enter Try.func19, Try.ntmps19
        go_wp2_with fail
        rw [HW1.out]
        go_wp2_with (first
          | (go_at_call 10; refine HE.out.mono ?_; rintro e w2 ⟨rfl, hB2⟩; have hP := hP.keep hB2; have hPn := hP.two; have hB := below_up hB hB2)
          | (go_at_call 51; (with_reducible refine (moment_is t true HM.out _).mono ?_); rintro e w3 ⟨rfl, rfl⟩)
          | (go_at_call 51; (with_reducible refine (moment_is (t + 60 * o) false HM2.out _).mono ?_); rintro e w3 ⟨rfl, rfl⟩)
          | (go_at_call 16; refine (HO.out _ hB).mono ?_; rintro e w4 ⟨rfl, hB4⟩; have hP := hP.keep hB4; have hPn := hP.two; have hB := below_up hB hB4))
        go_ret2
        exact ⟨rfl, hB⟩
    · have m1' : Ev.mom t = false := by simpa using m1
      have hmb := (Ev.mom_no _).1 m1'
      rw [Zn.loc_out hq m1'] at hrr
      subst hrr
      have HM := Lib.hid m1'
      have HM2 := HM
      clear m1 m1' hq
      generalize Zn.at_ f F O t n = o at *
      go_enter Try.func19, Try.ntmps19
      go_wp2_with fail
      rw [HW1.out]
      go_wp2_with (first
        | (go_at_call 10; refine HE.out.mono ?_; rintro e w2 ⟨rfl, hB2⟩; have hP := hP.keep hB2; have hPn := hP.two; have hB := below_up hB hB2)
        | (go_at_call 51; (with_reducible refine (moment_is t false HM.out _).mono ?_); rintro e w3 ⟨rfl, rfl⟩)
        | (go_at_call 51; (with_reducible refine (moment_is (t + 60 * o) false HM2.out _).mono ?_); rintro e w3 ⟨rfl, rfl⟩)
        | (go_at_call 16; refine (HO.out _ hB).mono ?_; rintro e w4 ⟨rfl, hB4⟩; have hP := hP.keep hB4; have hPn := hP.two; have hB := below_up hB hB4))
      go_ret2
      exact ⟨rfl, hB⟩
  · rw [Zn.loc_err hq h0] at hrr
    subst hrr
    have hq' : (q == 0) = false := by simpa using h0
    have hq2 : (q != 0) = true := by simpa using h0
    clear h0 hq
    go_enter Try.func19, Try.ntmps19
    go_wp2_with fail
    rw [HW1.out]
    go_wp2_with (go_at_call 10; refine HE.out.mono ?_; rintro e w2 ⟨rfl, hB2⟩; have hP := hP.keep hB2; have hPn := hP.two; have hB := below_up hB hB2)
    go_ret2
    exact ⟨rfl, hB⟩
end Go.Proofs.Ytbbedepojogfmaa
