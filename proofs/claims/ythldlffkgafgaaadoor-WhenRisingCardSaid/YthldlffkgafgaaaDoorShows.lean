/- Repair, Shows and the reference's ShownAt. -/
import Derived.Test.YthldlffkgafgaaaDoorRepair
namespace Go.Proofs.YthldlffkgafgaaaDoor
open Go.RowKit Go.Sort Go.Shelf
set_option linter.unusedVariables false
/-- The error of a clock and a moment. -/
def errAt (S T : Nat → Int) (n : Nat) (t : Int) : Int := if Ck.err S T n = 0 then (if Ev.mom t = true then 0 else 2) else Ck.err S T n
theorem errAt_cases (S T : Nat → Int) (n : Nat) (t : Int) : (Ck.err S T n ≠ 0 ∧ errAt S T n t = Ck.err S T n) ∨ (Ck.err S T n = 0 ∧ Ev.mom t = false ∧ errAt S T n t = 2) ∨ (Ck.err S T n = 0 ∧ Ev.mom t = true ∧ errAt S T n t = 0) := by
  unfold errAt
  by_cases h : Ck.err S T n = 0
  · by_cases h2 : Ev.mom t = true
    · right; right; exact ⟨h, h2, by rw [if_pos h, if_pos h2]⟩
    · right; left; exact ⟨h, by simpa using h2, by rw [if_pos h, if_neg h2]⟩
  · left; exact ⟨h, by rw [if_neg h]⟩
theorem checkShown_is (a : Option Addr) (n ca : Nat) (S T : Nat → Int) (w : World) (hr : Row2 w a n (fun i => .int .i64 (S i)) (fun i => .int .i64 (T i))) (t : Int) (hn : n ≤ 9223372036854775807) :
    Calls Tryd.prog 43 #[.slice a n ca, .int .i64 t] w fun e w' => e = .returned (.int .i64 (errAt S T n t)) ∧ Below w.heap.size w w' := by
  have HC := Lib.hid (checkClock_is a n ca S T w hr hn)
  rcases errAt_cases S T n t with ⟨h, hv⟩ | ⟨h, hm, hv⟩ | ⟨h, hm, hv⟩
  · rw [hv]
    generalize Ck.err S T n = q at h HC
    have h' : (q == 0) = false := by simpa using h
    clear hv h
    go_enter Tryd.func43, Tryd.ntmps43
    go_wp2_with (go_at_call 73; refine HC.out.mono ?_; rintro e w' ⟨rfl, hB⟩)
    go_ret
    exact ⟨rfl, hB⟩
  · rw [hv]; rw [h] at HC
    have HM := Lib.hid hm
    clear hv h hm
    go_enter Tryd.func43, Tryd.ntmps43
    go_wp2_with (first | (go_at_call 73; refine HC.out.mono ?_; rintro e w' ⟨rfl, hB⟩) | (go_at_call 33; refine (isMoment_is _ false HM.out _).mono ?_; rintro e w2 ⟨rfl, rfl⟩))
    go_ret
    exact ⟨rfl, hB⟩
  · rw [hv]; rw [h] at HC
    have HM := Lib.hid hm
    clear hv h hm
    go_enter Tryd.func43, Tryd.ntmps43
    go_wp2_with (first | (go_at_call 73; refine HC.out.mono ?_; rintro e w' ⟨rfl, hB⟩) | (go_at_call 33; refine (isMoment_is _ true HM.out _).mono ?_; rintro e w2 ⟨rfl, rfl⟩))
    go_ret
    exact ⟨rfl, hB⟩
theorem repair_err (a : Option Addr) (n ca : Nat) (S T : Nat → Int) (w : World) (hr : Row2 w a n (fun i => .int .i64 (S i)) (fun i => .int .i64 (T i))) (t : Int) (hn : n ≤ 9223372036854775807) (q : Int) (hq : errAt S T n t = q) (h0 : q ≠ 0) :
    Calls Tryd.prog 15 #[.slice a n ca, .int .i64 t] w fun e w' => e = .returned (.tuple #[.int .i64 0, .int .i64 q]) ∧ Below w.heap.size w w' := by
  have HC := Lib.hid (checkShown_is a n ca S T w hr t hn)
  rw [hq] at HC
  have h' : (q == 0) = false := by simpa using h0
  clear hq h0
  go_enter Tryd.func15, Tryd.ntmps15
  go_wp2_with (go_at_call 43; refine HC.out.mono ?_; rintro e w' ⟨rfl, hB⟩)
  go_ret2
  exact ⟨rfl, hB⟩
theorem repair_ok (a : Option Addr) (n ca : Nat) (S T : Nat → Int) (w : World) (hr : Row2 w a n (fun i => .int .i64 (S i)) (fun i => .int .i64 (T i))) (t r : Int) (hq : errAt S T n t = 0) (hR : Ck.Right S T n) (ht : 0 ≤ t ∧ t ≤ 6311433599) (hrep : Ck.rep S T n t = r) :
    Calls Tryd.prog 15 #[.slice a n ca, .int .i64 t] w fun e w' => e = .returned (.tuple #[.int .i64 (if Ev.mom r = true then r else 0), .int .i64 (if Ev.mom r = true then 0 else 2)]) ∧ Below w.heap.size w w' := by
  have hn := hR.few
  have HC := Lib.hid (checkShown_is a n ca S T w hr t (by omega))
  rw [hq] at HC
  have HP := Lib.hid (fun W hr => repaired_is a n ca S T W hr t ht hR)
  rw [hrep] at HP
  have HR := Lib.hid hr
  clear hq hrep hr
  by_cases hm : Ev.mom r = true
  · rw [if_pos hm, if_pos hm]
    have HM := Lib.hid hm; clear hm
    go_enter Tryd.func15, Tryd.ntmps15
    go_wp2_with (first | (go_at_call 43; refine HC.out.mono ?_; rintro e w' ⟨rfl, hB⟩) | (go_at_call 44; refine (HP.out _ (HR.out.keep hB)).mono ?_; rintro e w2 ⟨rfl, hB2⟩) | (go_at_call 33; refine (isMoment_is _ true HM.out _).mono ?_; rintro e w2 ⟨rfl, rfl⟩))
    go_ret2
    exact ⟨rfl, below_up hB hB2⟩
  · rw [if_neg hm, if_neg hm]
    have HM : Hid (Ev.mom r = false) := by simpa [Hid] using hm
    clear hm
    go_enter Tryd.func15, Tryd.ntmps15
    go_wp2_with (first | (go_at_call 43; refine HC.out.mono ?_; rintro e w' ⟨rfl, hB⟩) | (go_at_call 44; refine (HP.out _ (HR.out.keep hB)).mono ?_; rintro e w2 ⟨rfl, hB2⟩) | (go_at_call 33; refine (isMoment_is _ false HM.out _).mono ?_; rintro e w2 ⟨rfl, rfl⟩))
    go_ret2
    exact ⟨rfl, below_up hB hB2⟩
set_option maxHeartbeats 1000000 in
theorem shows1_is (a : Option Addr) (n ca : Nat) (S T : Nat → Int) (w : World) (hr : Row2 w a n (fun i => .int .i64 (S i)) (fun i => .int .i64 (T i))) (t s : Int) (hR : Ck.Right S T n) (hs : 0 ≤ s ∧ s ≤ 6311433599) (p1 p2 : Addr) (c1 : w.cell? p1 = some (.slice a n ca)) (c2 : w.cell? p2 = some (.int .i64 t)) :
    Calls Tryd.prog 46 #[.int .i64 s, .pointer (some p1), .pointer (some p2)] w fun e w' => e = .returned (.bool (decide (t < Ck.rep S T n s))) ∧ Below w.heap.size w w' := by
  have HP : Hid (∀ d os, Calls Tryd.prog 44 #[.slice a n ca, .int .i64 s] (grow (redrawn w d) os) fun e w'' => e = .returned (.int .i64 (Ck.rep S T n s)) ∧ ∃ p : Regrown, w'' = grow (redrawn w p.d) p.os) :=
    fun d os => Calls.regrown_of (repaired_is a n ca S T _ (hr.keep (below_regrown w d os)) s hs hR)
  have k1 := cell_regrown c1
  have k2 := cell_regrown c2
  clear c1 c2 hr
  go_enter Tryd.func46, Tryd.ntmps46
  go_wp2_with fail
  refine wp_region_quiet_below (by kernel_rfl) (by kernel_rfl) ?_
  repeat (go_big_quiet_step ((go_at_call 44; exact HP.out _ _)))
  refine wpQuiet_nil ?_
  intro _ hw'
  obtain ⟨⟨dq, osq⟩, hw''⟩ := hw'
  subst hw''
  have hBw2 := below_regrown w dq osq
  generalize grow (redrawn w dq) osq = w2 at *
  clear dq osq
  clear k1 k2
  go_wp2_with fail
  go_ret
  exact ⟨rfl, hBw2⟩
theorem shows1_eg : ∀ args w, (callFunc 46 args).run Tryd.prog w = .ok (.enter 46 args) w := enters_of Tryd.func46 (by kernel_rfl) rfl
/-- How many seconds a clock repairs to not later than t. -/
structure Secs (S T : Nat → Int) (n : Nat) (t N : Int) : Prop where
  lo : 0 ≤ N
  hi : N ≤ 6311433600
  below : ∀ i, 0 ≤ i → i < N → Ck.rep S T n i ≤ t
  above : ∀ i, N ≤ i → i < 6311433600 → t < Ck.rep S T n i
theorem secs_ex {S T : Nat → Int} {n : Nat} (hR : Ck.Right S T n) (t : Int) : ∃ N, Secs S T n t N := by
  have key : ∀ m : Nat, (m : Int) = 6311433600 → ∃ N, Secs S T n t N := by
    intro m hm
    refine ⟨Ck.upto S T n t m, by omega, by have := Ck.upto_le S T n t m; omega, fun i h0 h1 => ?_, fun i h0 h1 => ?_⟩
    · have := Ck.upto_lo hR t m i.toNat (by omega)
      rwa [Int.toNat_of_nonneg h0] at this
    · have h2 : 0 ≤ i := by omega
      have := Ck.upto_hi S T n t m i.toNat (by omega) (by omega)
      rwa [Int.toNat_of_nonneg h2] at this
  exact key (6311433600 : Int).toNat (by omega)
set_option maxHeartbeats 1000000 in
theorem shows_err (a : Option Addr) (n ca : Nat) (S T : Nat → Int) (w : World) (hr : Row2 w a n (fun i => .int .i64 (S i)) (fun i => .int .i64 (T i))) (t : Int) (hn : n ≤ 9223372036854775807) (q : Int) (hq : errAt S T n t = q) (h0 : q ≠ 0) :
    Calls Tryd.prog 16 #[.slice a n ca, .int .i64 t] w fun e w' => e = .returned (.tuple #[.int .i64 0, .int .i64 q]) ∧ Below w.heap.size w w' := by
  obtain ⟨W1, hW1, hP1, hz1, hb1⟩ := box w #[.slice a n ca] 27
  obtain ⟨W2, hW2, hP2, hz2, hb2⟩ := box W1 #[.int .i64 t] 3
  have hP1 := hP1.keep hb2
  rw [hz1] at hP2
  have hB := below_up hb1 hb2
  have HW1 := Lib.hid hW1; have HW2 := Lib.hid hW2
  have HC := Lib.hid (checkShown_is a n ca S T W2 (hr.keep hB) t hn)
  rw [hq] at HC
  have h' : (q == 0) = false := by simpa using h0
  have c1 := hP1.one; have c2 := hP2.one
  clear hW1 hW2 hb1 hb2 hz1 hz2 hr hq h0
  go_enter Tryd.func16, Tryd.ntmps16
  go_wp2_with fail
  rw [HW1.out, HW2.out]
  go_wp2_with (go_at_call 43; refine HC.out.mono ?_; rintro e w' ⟨rfl, hB2⟩)
  go_ret2
  exact ⟨rfl, below_up hB hB2⟩
set_option maxHeartbeats 1000000 in
theorem shows_ok (a : Option Addr) (n ca : Nat) (S T : Nat → Int) (w : World) (hr : Row2 w a n (fun i => .int .i64 (S i)) (fun i => .int .i64 (T i))) (t N : Int) (hq : errAt S T n t = 0) (hR : Ck.Right S T n) (hN : Secs S T n t N) :
    Calls Tryd.prog 16 #[.slice a n ca, .int .i64 t] w fun e w' => e = .returned (.tuple #[.int .i64 (if N = 0 then 0 else N - 1), .int .i64 (if N = 0 then 7 else 0)]) ∧ Below w.heap.size w w' := by
  have hn := hR.few
  have hNlo := hN.lo
  have hNhi := hN.hi
  obtain ⟨W1, hW1, hP1, hz1, hb1⟩ := box w #[.slice a n ca] 27
  obtain ⟨W2, hW2, hP2, hz2, hb2⟩ := box W1 #[.int .i64 t] 3
  have hP1 := hP1.keep hb2
  rw [hz1] at hP2
  have hB := below_up hb1 hb2
  have HW1 := Lib.hid hW1; have HW2 := Lib.hid hW2
  have hr2 := hr.keep hB
  have HC := Lib.hid (checkShown_is a n ca S T W2 hr2 t (by omega))
  rw [hq] at HC
  have HS := Lib.hid (fun W (hbW : Below W2.heap.size W2 W) => search_any 46 #[.pointer (some ⟨w.heap.size, 0, none⟩), .pointer (some ⟨w.heap.size + 1, 0, none⟩)] (fun x => decide (t < Ck.rep S T n x)) shows1_eg 6311433600 N W (by omega) hNlo hNhi
    (fun i h0 h1 => by have := hN.below i h0 h1; simp; omega) (fun i h0 h1 => by have := hN.above i h0 h1; simp; omega)
    (fun i V h0 h1 hV => shows1_is a n ca S T V (hr2.keep (below_up hbW hV)) t i hR ⟨h0, by omega⟩ _ _ (hP1.keep (below_up hbW hV)).one (hP2.keep (below_up hbW hV)).one))
  have c1 := hP1.one; have c2 := hP2.one
  clear hW1 hW2 hb1 hb2 hz1 hz2 hr hr2 hq
  by_cases h0 : N = 0
  · rw [if_pos h0, if_pos h0]
    have h0' : (N == 0) = true := by simpa using h0
    have H0 := Lib.hid h0; clear h0
    go_enter Tryd.func16, Tryd.ntmps16
    go_wp2_with fail
    rw [HW1.out, HW2.out]
    go_wp2_with (first | (go_at_call 43; refine HC.out.mono ?_; rintro e w3 ⟨rfl, hB2⟩) | (go_at_call 45; refine (HS.out _ hB2).mono ?_; rintro e w4 ⟨rfl, hB3⟩))
    go_ret2
    exact ⟨rfl, below_up (below_up hB hB2) hB3⟩
  · rw [if_neg h0, if_neg h0]
    have h0' : (N == 0) = false := by simpa using h0
    go_enter Tryd.func16, Tryd.ntmps16
    go_wp2_with fail
    rw [HW1.out, HW2.out]
    go_wp2_with (first | (go_at_call 43; refine HC.out.mono ?_; rintro e w3 ⟨rfl, hB2⟩) | (go_at_call 45; refine (HS.out _ hB2).mono ?_; rintro e w4 ⟨rfl, hB3⟩))
    go_ret2
    exact ⟨rfl, below_up (below_up hB hB2) hB3⟩
end Go.Proofs.YthldlffkgafgaaaDoor
