/- The law WhenZones, walked. -/
import Derived.Test.YthldlffkgafgaaaDoorZoneMom
namespace Go.Proofs.YthldlffkgafgaaaDoor
open Go.RowKit Go.Sort Go.Shelf
set_option linter.unusedVariables false
set_option maxRecDepth 100000 in
set_option maxHeartbeats 1000000 in
theorem moments_err (f : Int) (a : Option Addr) (n ca : Nat) (F O : Nat → Int) (w : World) (hr : Row2 w a n (fun i => .int .i64 (F i)) (fun i => .int .i64 (O i))) (t : Int) (hn : n ≤ 9223372036854775807) (q : Int) (hq : Zn.errAt f F O n t = q) (h0 : q ≠ 0) :
    Calls Tryd.prog 18 #[.agg #[.int .i64 f, .slice a n ca], .int .i64 t] w fun e w' => e = .returned (.tuple #[.slice none 0 0, .int .i64 q]) ∧ Below w.heap.size w w' := by
  obtain ⟨W1, hW1, hP1, hz1, hb1⟩ := box w #[.int .i64 f, .slice a n ca] 34
  obtain ⟨W2, hW2, hP2, hz2, hb2⟩ := box W1 #[.int .i64 t] 3
  have hP1 := hP1.keep hb2
  rw [hz1] at hP2
  have hB := below_up hb1 hb2
  have HW1 := Lib.hid hW1; have HW2 := Lib.hid hW2
  have HC := Lib.hid (checkAt_is f a n ca F O W2 (hr.keep hB) t hn)
  rw [hq] at HC
  have h' : (q == 0) = false := by simpa using h0
  have h'' : (q != 0) = true := by simpa using h0
  have c1 := hP1.two; have c2 := hP2.one
  clear hW1 hW2 hb1 hb2 hz1 hz2 hr hq h0
  go_enter Tryd.func18, Tryd.ntmps18
  go_wp2_with fail
  rw [HW1.out, HW2.out]
  go_wp2_with (go_at_call 47; refine HC.out.mono ?_; rintro e w' ⟨rfl, hB2⟩)
  go_ret2
  exact ⟨rfl, below_up hB hB2⟩
theorem Zn.day_out {r b : Int} (h : b < 0 ∨ 1439 < b ∨ r < 60 * b) : Zn.day (r, 0) b = (0, 2) := by unfold Zn.day; rw [if_pos rfl, if_neg (by simp only []; omega)]
theorem Zn.day_ok {r b : Int} (h : ¬ (b < 0 ∨ 1439 < b ∨ r < 60 * b)) : Zn.day (r, 0) b = ((r - 60 * b) / 86400, 0) := by unfold Zn.day; rw [if_pos rfl, if_pos (by simp only []; omega)]
theorem Zn.day_err {r q b : Int} (h : q ≠ 0) : Zn.day (r, q) b = (0, q) := by unfold Zn.day; rw [if_neg h]
end Go.Proofs.YthldlffkgafgaaaDoor
