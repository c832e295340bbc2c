/- The law FindPhotos, walked. -/
import Derived.Test.YtbbedepojogfmaaFdSames
namespace Go.Proofs.Ytbbedepojogfmaa
open Go.RowKit Go.Sort Go.Shelf
set_option linter.unusedVariables false
set_option maxRecDepth 100000 in
set_option maxHeartbeats 8000000 in
theorem findPhotos_walk (p : Ph) (a : Option Addr) (n ca : Nat) (x : Nat → Ph) (b : Option Addr) (m cb : Nat) (y : Nat → Ph) (w : World) (hI : p.In w) (hP0 : p.Fits) (hx : Phs w a n x) (hy : Phs w b m y) (hF : ∀ i, i < n → (x i).Fits) (hG : ∀ i, i < m → (y i).Fits) (hn : n ≤ 9223372036854775807) (hm : m ≤ 9223372036854775807) :
    Calls Try.prog 4 #[.agg #[.int .i64 p.id, .string p.file, .int .i64 p.mom, .int .i64 p.zone, .slice p.wa p.wn p.wc, .int .i64 p.W, .int .i64 p.H, .int .i64 p.turn, .int .i64 p.stars, .slice p.ta p.tn p.tc, .string p.cap, .slice p.pa p.pn p.pc, .bool p.hid], .slice a n ca, .slice b m cb] w fun e w' => e = .returned (.bool true) ∧ Below w.heap.size w w' := by
  -- a photo's box: W1, its 13 cells
  obtain ⟨W1, hW1, hP, hz1, hB1⟩ := box w #[.int .i64 p.id, .string p.file, .int .i64 p.mom, .int .i64 p.zone, .slice p.wa p.wn p.wc, .int .i64 p.W, .int .i64 p.H, .int .i64 p.turn, .int .i64 p.stars, .slice p.ta p.tn p.tc, .string p.cap, .slice p.pa p.pn p.pc, .bool p.hid] 40
  have HW1 := Lib.hid hW1
  clear hW1 hz1
  obtain ⟨q0, q1, q2, q3, q4, q5, q6, q7, q8, q9, q10, q11, q12⟩ := hP.photo
  have HC1 := Lib.hid (fun d os => Calls.regrown_of (checkPhoto_is p _ ((hI.keep hB1).keep (below_regrown W1 d os)) hP0))
  have HC2 := Lib.hid (fun d os => Calls.regrown_of (photoError_is p _ ((hI.keep hB1).keep (below_regrown W1 d os)) hP0))
  have HC3 := Lib.hid (fun d os => Calls.regrown_of (check_is a n ca x _ ((hx.keep hB1).keep (below_regrown W1 d os)) hF hn))
  have HC4 := Lib.hid (fun d os => Calls.regrown_of (libraryError_is a n ca x _ ((hx.keep hB1).keep (below_regrown W1 d os)) hF hn))
  have HC5 := Lib.hid (fun d os => Calls.regrown_of (same_is a n ca x b m cb y _ ((hx.keep hB1).keep (below_regrown W1 d os)) ((hy.keep hB1).keep (below_regrown W1 d os)) hF hG hn hm))
  have HC6 := Lib.hid (fun d os => Calls.regrown_of (samePhotos_is a n ca x b m cb y _ ((hx.keep hB1).keep (below_regrown W1 d os)) ((hy.keep hB1).keep (below_regrown W1 d os)) hF hG hn hm))
  have HC7 := Lib.hid (fun d os => Calls.regrown_of (same_is a n ca x a n ca x _ ((hx.keep hB1).keep (below_regrown W1 d os)) ((hx.keep hB1).keep (below_regrown W1 d os)) hF hF hn hn))
  rw [Fd.eqRow_self n (fun i => (x i).same (x i)) (fun i => Ph.same_self (x i))] at HC7
  have k0 := cell_regrown q0; have k1 := cell_regrown q1; have k2 := cell_regrown q2; have k3 := cell_regrown q3; have k4 := cell_regrown q4; have k5 := cell_regrown q5; have k6 := cell_regrown q6; have k7 := cell_regrown q7; have k8 := cell_regrown q8; have k9 := cell_regrown q9; have k10 := cell_regrown q10; have k11 := cell_regrown q11; have k12 := cell_regrown q12
  clear hI hP0 hx hy hF hG q0 q1 q2 q3 q4 q5 q6 q7 q8 q9 q10 q11 q12 hP
  generalize p.err = e1 at *
  generalize Fd.lerr x n = e2 at *
  generalize (Fd.eqRow n m fun i => (x i).same (y i)) = e3 at *
  go_enter Try.func4, Try.ntmps4
  go_wp2_with fail
  rw [HW1.out]
  refine wp_region_quiet_below (by kernel_rfl) (by kernel_rfl) ?_
  repeat (go_big_quiet_step ((first | (go_at_call 20; exact HC1.out _ _) | (go_at_call 21; exact HC2.out _ _) | (go_at_call 22; exact HC3.out _ _) | (go_at_call 23; exact HC4.out _ _) | (go_at_call 24; with_reducible exact HC5.out _ _) | (go_at_call 24; with_reducible exact HC7.out _ _) | (go_at_call 25; exact HC6.out _ _))))
  refine wpQuiet_nil ?_
  intro _ hw'
  obtain ⟨⟨dq, osq⟩, hw''⟩ := hw'
  subst hw''
  have hBw2 := below_regrown W1 dq osq
  generalize grow (redrawn W1 dq) osq = w2 at *
  clear dq osq
  clear k0 k1 k2 k3 k4 k5 k6 k7 k8 k9 k10 k11 k12
  go_wp2_with fail
  go_ret
  exact ⟨ret_bool (by simp), below_up hB1 hBw2⟩
end Go.Proofs.Ytbbedepojogfmaa
