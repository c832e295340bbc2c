/- The law FindHolds, walked. -/
import Derived.Test.YtipmegkmkbbklaaHdOf
import Derived.Test.YtipmegkmkbbklaaHdFor
namespace Go.Proofs.Ytipmegkmkbbklaa
open Go.RowKit Go.Sort Go.Shelf
set_option linter.unusedVariables false
set_option linter.unusedSimpArgs false
set_option maxRecDepth 100000 in
set_option maxHeartbeats 8000000 in
theorem law_a (p : Ph) (a : Option Addr) (n ca : Nat) (x : Nat → Ph) (c : Cnd) (w : World) (hI : p.In w) (hF : p.Fits) (hx : Phs w a n x) (hX : ∀ i, i < n → (x i).Fits) (hn : n ≤ 9223372036854775807) (hc : c.In w) (hG : c.Fits) (hmx : MxL w) (e1 : p.err = 0) (e2 : Fd.lerr x n = 0) (e3 : c.err ≠ 0) :
    Calls Try.prog 5 #[.agg #[.int .i64 p.id, .string p.file, .int .i64 p.mom, .int .i64 p.zone, .slice p.wa p.wn p.wc, .int .i64 p.W, .int .i64 p.H, .int .i64 p.turn, .int .i64 p.stars, .slice p.ta p.tn p.tc, .string p.cap, .slice p.pa p.pn p.pc, .bool p.hid], .slice a n ca, .agg #[.int .i64 c.op, .slice c.ka c.kn c.kc, .string c.text, .int .i64 c.low, .int .i64 c.high, .slice c.aa c.an c.ac]] w fun e w' => e = .returned (.bool true) ∧ Below w.heap.size w w' := by
  have h1 : Hd.err p.err c ≠ 0 := by rw [Hd.err_yes e1]; exact e3
  have h2 : Hd.err (Fd.lerr x n) c ≠ 0 := by rw [Hd.err_yes e2]; exact e3
  have HIw := Lib.hid hI; have HCw := Lib.hid hc; have HXw := Lib.hid hx
  have HP1 := Lib.hid (fun W (hb : Below w.heap.size w W) => photoError_is p W (hI.keep hb) hF)
  have HP2 := Lib.hid (fun W (hb : Below w.heap.size w W) => libraryError_is a n ca x W (hx.keep hb) hX hn)
  have HP3 := Lib.hid (fun W (hb : Below w.heap.size w W) => condError_is c W (Cnd.In.keep hb hc) hG)
  obtain ⟨W1, hW1, hP, hz1, hB1⟩ := box w #[.int .i64 p.id, .string p.file, .int .i64 p.mom, .int .i64 p.zone, .slice p.wa p.wn p.wc, .int .i64 p.W, .int .i64 p.H, .int .i64 p.turn, .int .i64 p.stars, .slice p.ta p.tn p.tc, .string p.cap, .slice p.pa p.pn p.pc, .bool p.hid] 26
  obtain ⟨W2, hW2, hC, hz2, hB2⟩ := box W1 #[.int .i64 c.op, .slice c.ka c.kn c.kc, .string c.text, .int .i64 c.low, .int .i64 c.high, .slice c.aa c.an c.ac] 53
  have HW1 := Lib.hid hW1; have HW2 := Lib.hid hW2
  have hP := hP.keep hB2
  rw [hz1] at hC
  have hB := below_up hB1 hB2
  obtain ⟨q0, q1, q2, q3, q4, q5, q6, q7, q8, q9, q10, q11, q12⟩ := hP.photo
  obtain ⟨l0, l1, l2, l3, l4, l5⟩ := hC.six
  clear hW1 hW2 hz1 hz2
  have HH := Lib.hid (holds_err p c hF hG W2 (hI.keep hB) (Cnd.In.keep hB hc) _ rfl h1)
  have HD := Lib.hid (fun W (hb : Below w.heap.size w W) => find_err a n ca x c W (hx.keep hb) hX hn hG (Cnd.In.keep hb hc) _ rfl h2)
  clear hI hc hx
  rw [Hd.err_yes e1] at HH
  rw [Hd.err_yes e2] at HD
  rw [e1] at HP1
  rw [e2] at HP2
  generalize c.err = ce at *
  have g3 : (ce == 0) = false := by simpa using e3
  have k3 : (ce != 0) = true := by simpa using e3
  clear e1 e2 h1 h2
  -- HH.out: Holds's contract (at W2); rintro e w5 ⟨rfl, hB5⟩: its end; HD.out: Find's; : its end; : more arms ; : the world's last fact
  go_enter Try.func5, Try.ntmps5
  go_wp2_with fail
  rw [HW1.out, HW2.out]
  go_wp2_with (go_at_call 18; (with_reducible refine HH.out.mono ?_); rintro e w4 ⟨rfl, hB4⟩; have hB4w := below_up hB hB4; obtain ⟨l0, l1, l2, l3, l4, l5⟩ := (hC.keep hB4).six; obtain ⟨q0, q1, q2, q3, q4, q5, q6, q7, q8, q9, q10, q11, q12⟩ := (hP.keep hB4).photo)
  go_wp2_with (go_at_call 19; (with_reducible refine (HD.out _ hB4w).mono ?_); rintro e w5 ⟨rfl, hB5⟩; have hB5w := below_up hB4w hB5; have hB45 := below_up hB4 hB5; obtain ⟨l0, l1, l2, l3, l4, l5⟩ := (hC.keep hB45).six; obtain ⟨q0, q1, q2, q3, q4, q5, q6, q7, q8, q9, q10, q11, q12⟩ := (hP.keep hB45).photo)
  go_wp2_with (first
    | (go_at_call 20; (with_reducible refine (HP1.out _ hB5w).mono ?_); rintro e w6 ⟨rfl, hB6⟩; have hB6w := below_up hB5w hB6; have hB46 := below_up hB45 hB6; have hB57 := hB6; obtain ⟨l0, l1, l2, l3, l4, l5⟩ := (hC.keep hB46).six; obtain ⟨q0, q1, q2, q3, q4, q5, q6, q7, q8, q9, q10, q11, q12⟩ := (hP.keep hB46).photo)
    | (go_at_call 12; (with_reducible refine (HP2.out _ hB6w).mono ?_); rintro e w7 ⟨rfl, hB7⟩; have hB7w := below_up hB6w hB7; have hB47 := below_up hB46 hB7; have hB57 := below_up hB57 hB7; obtain ⟨l0, l1, l2, l3, l4, l5⟩ := (hC.keep hB47).six; obtain ⟨q0, q1, q2, q3, q4, q5, q6, q7, q8, q9, q10, q11, q12⟩ := (hP.keep hB47).photo)
    | (go_at_call 21; (with_reducible refine (HP3.out _ hB7w).mono ?_); rintro e w8 ⟨rfl, hB8⟩; have hB8w := below_up hB7w hB8; have hB48 := below_up hB47 hB8; have hB57 := below_up hB57 hB8; have hB7w := hB8w; have hB47 := hB48; obtain ⟨l0, l1, l2, l3, l4, l5⟩ := (hC.keep hB48).six; obtain ⟨q0, q1, q2, q3, q4, q5, q6, q7, q8, q9, q10, q11, q12⟩ := (hP.keep hB48).photo))
  go_ret
  exact ⟨ret_bool (by simp), hB7w⟩
set_option maxRecDepth 100000 in
set_option maxHeartbeats 8000000 in
theorem law_b (p : Ph) (a : Option Addr) (n ca : Nat) (x : Nat → Ph) (c : Cnd) (w : World) (hI : p.In w) (hF : p.Fits) (hx : Phs w a n x) (hX : ∀ i, i < n → (x i).Fits) (hn : n ≤ 9223372036854775807) (hc : c.In w) (hG : c.Fits) (hmx : MxL w) (e1 : p.err ≠ 0) (e2 : Fd.lerr x n = 0) (e3 : c.err ≠ 0) :
    Calls Try.prog 5 #[.agg #[.int .i64 p.id, .string p.file, .int .i64 p.mom, .int .i64 p.zone, .slice p.wa p.wn p.wc, .int .i64 p.W, .int .i64 p.H, .int .i64 p.turn, .int .i64 p.stars, .slice p.ta p.tn p.tc, .string p.cap, .slice p.pa p.pn p.pc, .bool p.hid], .slice a n ca, .agg #[.int .i64 c.op, .slice c.ka c.kn c.kc, .string c.text, .int .i64 c.low, .int .i64 c.high, .slice c.aa c.an c.ac]] w fun e w' => e = .returned (.bool true) ∧ Below w.heap.size w w' := by
  have h1 : Hd.err p.err c ≠ 0 := by rw [Hd.err_no e1]; exact e1
  have h2 : Hd.err (Fd.lerr x n) c ≠ 0 := by rw [Hd.err_yes e2]; exact e3
  have HIw := Lib.hid hI; have HCw := Lib.hid hc; have HXw := Lib.hid hx
  have HP1 := Lib.hid (fun W (hb : Below w.heap.size w W) => photoError_is p W (hI.keep hb) hF)
  have HP2 := Lib.hid (fun W (hb : Below w.heap.size w W) => libraryError_is a n ca x W (hx.keep hb) hX hn)
  have HP3 := Lib.hid (fun W (hb : Below w.heap.size w W) => condError_is c W (Cnd.In.keep hb hc) hG)
  obtain ⟨W1, hW1, hP, hz1, hB1⟩ := box w #[.int .i64 p.id, .string p.file, .int .i64 p.mom, .int .i64 p.zone, .slice p.wa p.wn p.wc, .int .i64 p.W, .int .i64 p.H, .int .i64 p.turn, .int .i64 p.stars, .slice p.ta p.tn p.tc, .string p.cap, .slice p.pa p.pn p.pc, .bool p.hid] 26
  obtain ⟨W2, hW2, hC, hz2, hB2⟩ := box W1 #[.int .i64 c.op, .slice c.ka c.kn c.kc, .string c.text, .int .i64 c.low, .int .i64 c.high, .slice c.aa c.an c.ac] 53
  have HW1 := Lib.hid hW1; have HW2 := Lib.hid hW2
  have hP := hP.keep hB2
  rw [hz1] at hC
  have hB := below_up hB1 hB2
  obtain ⟨q0, q1, q2, q3, q4, q5, q6, q7, q8, q9, q10, q11, q12⟩ := hP.photo
  obtain ⟨l0, l1, l2, l3, l4, l5⟩ := hC.six
  clear hW1 hW2 hz1 hz2
  have HH := Lib.hid (holds_err p c hF hG W2 (hI.keep hB) (Cnd.In.keep hB hc) _ rfl h1)
  have HD := Lib.hid (fun W (hb : Below w.heap.size w W) => find_err a n ca x c W (hx.keep hb) hX hn hG (Cnd.In.keep hb hc) _ rfl h2)
  clear hI hc hx
  rw [Hd.err_no e1] at HH
  rw [Hd.err_yes e2] at HD
  rw [e2] at HP2
  generalize c.err = ce at *
  generalize p.err = pe at *
  have g3 : (ce == 0) = false := by simpa using e3
  have k3 : (ce != 0) = true := by simpa using e3
  have g1 : (pe == 0) = false := by simpa using e1
  have k1 : (pe != 0) = true := by simpa using e1
  clear e2 h1 h2
  -- HH.out: Holds's contract (at W2); rintro e w5 ⟨rfl, hB5⟩: its end; HD.out: Find's; : its end; : more arms ; : the world's last fact
  go_enter Try.func5, Try.ntmps5
  go_wp2_with fail
  rw [HW1.out, HW2.out]
  go_wp2_with (go_at_call 18; (with_reducible refine HH.out.mono ?_); rintro e w4 ⟨rfl, hB4⟩; have hB4w := below_up hB hB4; obtain ⟨l0, l1, l2, l3, l4, l5⟩ := (hC.keep hB4).six; obtain ⟨q0, q1, q2, q3, q4, q5, q6, q7, q8, q9, q10, q11, q12⟩ := (hP.keep hB4).photo)
  go_wp2_with (go_at_call 19; (with_reducible refine (HD.out _ hB4w).mono ?_); rintro e w5 ⟨rfl, hB5⟩; have hB5w := below_up hB4w hB5; have hB45 := below_up hB4 hB5; obtain ⟨l0, l1, l2, l3, l4, l5⟩ := (hC.keep hB45).six; obtain ⟨q0, q1, q2, q3, q4, q5, q6, q7, q8, q9, q10, q11, q12⟩ := (hP.keep hB45).photo)
  go_wp2_with (first
    | (go_at_call 20; (with_reducible refine (HP1.out _ hB5w).mono ?_); rintro e w6 ⟨rfl, hB6⟩; have hB6w := below_up hB5w hB6; have hB46 := below_up hB45 hB6; have hB57 := hB6; obtain ⟨l0, l1, l2, l3, l4, l5⟩ := (hC.keep hB46).six; obtain ⟨q0, q1, q2, q3, q4, q5, q6, q7, q8, q9, q10, q11, q12⟩ := (hP.keep hB46).photo)
    | (go_at_call 12; (with_reducible refine (HP2.out _ hB6w).mono ?_); rintro e w7 ⟨rfl, hB7⟩; have hB7w := below_up hB6w hB7; have hB47 := below_up hB46 hB7; have hB57 := below_up hB57 hB7; obtain ⟨l0, l1, l2, l3, l4, l5⟩ := (hC.keep hB47).six; obtain ⟨q0, q1, q2, q3, q4, q5, q6, q7, q8, q9, q10, q11, q12⟩ := (hP.keep hB47).photo)
    | (go_at_call 21; (with_reducible refine (HP3.out _ hB7w).mono ?_); rintro e w8 ⟨rfl, hB8⟩; have hB8w := below_up hB7w hB8; have hB48 := below_up hB47 hB8; have hB57 := below_up hB57 hB8; have hB7w := hB8w; have hB47 := hB48; obtain ⟨l0, l1, l2, l3, l4, l5⟩ := (hC.keep hB48).six; obtain ⟨q0, q1, q2, q3, q4, q5, q6, q7, q8, q9, q10, q11, q12⟩ := (hP.keep hB48).photo))
  go_ret
  exact ⟨ret_bool (by simp), hB7w⟩
set_option maxRecDepth 100000 in
set_option maxHeartbeats 8000000 in
theorem law_c (p : Ph) (a : Option Addr) (n ca : Nat) (x : Nat → Ph) (c : Cnd) (w : World) (hI : p.In w) (hF : p.Fits) (hx : Phs w a n x) (hX : ∀ i, i < n → (x i).Fits) (hn : n ≤ 9223372036854775807) (hc : c.In w) (hG : c.Fits) (hmx : MxL w) (e1 : p.err = 0) (e2 : Fd.lerr x n ≠ 0) (e3 : c.err ≠ 0) :
    Calls Try.prog 5 #[.agg #[.int .i64 p.id, .string p.file, .int .i64 p.mom, .int .i64 p.zone, .slice p.wa p.wn p.wc, .int .i64 p.W, .int .i64 p.H, .int .i64 p.turn, .int .i64 p.stars, .slice p.ta p.tn p.tc, .string p.cap, .slice p.pa p.pn p.pc, .bool p.hid], .slice a n ca, .agg #[.int .i64 c.op, .slice c.ka c.kn c.kc, .string c.text, .int .i64 c.low, .int .i64 c.high, .slice c.aa c.an c.ac]] w fun e w' => e = .returned (.bool true) ∧ Below w.heap.size w w' := by
  have h1 : Hd.err p.err c ≠ 0 := by rw [Hd.err_yes e1]; exact e3
  have h2 : Hd.err (Fd.lerr x n) c ≠ 0 := by rw [Hd.err_no e2]; exact e2
  have HIw := Lib.hid hI; have HCw := Lib.hid hc; have HXw := Lib.hid hx
  have HP1 := Lib.hid (fun W (hb : Below w.heap.size w W) => photoError_is p W (hI.keep hb) hF)
  have HP2 := Lib.hid (fun W (hb : Below w.heap.size w W) => libraryError_is a n ca x W (hx.keep hb) hX hn)
  have HP3 := Lib.hid (fun W (hb : Below w.heap.size w W) => condError_is c W (Cnd.In.keep hb hc) hG)
  obtain ⟨W1, hW1, hP, hz1, hB1⟩ := box w #[.int .i64 p.id, .string p.file, .int .i64 p.mom, .int .i64 p.zone, .slice p.wa p.wn p.wc, .int .i64 p.W, .int .i64 p.H, .int .i64 p.turn, .int .i64 p.stars, .slice p.ta p.tn p.tc, .string p.cap, .slice p.pa p.pn p.pc, .bool p.hid] 26
  obtain ⟨W2, hW2, hC, hz2, hB2⟩ := box W1 #[.int .i64 c.op, .slice c.ka c.kn c.kc, .string c.text, .int .i64 c.low, .int .i64 c.high, .slice c.aa c.an c.ac] 53
  have HW1 := Lib.hid hW1; have HW2 := Lib.hid hW2
  have hP := hP.keep hB2
  rw [hz1] at hC
  have hB := below_up hB1 hB2
  obtain ⟨q0, q1, q2, q3, q4, q5, q6, q7, q8, q9, q10, q11, q12⟩ := hP.photo
  obtain ⟨l0, l1, l2, l3, l4, l5⟩ := hC.six
  clear hW1 hW2 hz1 hz2
  have HH := Lib.hid (holds_err p c hF hG W2 (hI.keep hB) (Cnd.In.keep hB hc) _ rfl h1)
  have HD := Lib.hid (fun W (hb : Below w.heap.size w W) => find_err a n ca x c W (hx.keep hb) hX hn hG (Cnd.In.keep hb hc) _ rfl h2)
  clear hI hc hx
  rw [Hd.err_yes e1] at HH
  rw [Hd.err_no e2] at HD
  rw [e1] at HP1
  generalize c.err = ce at *
  generalize Fd.lerr x n = le at *
  have g3 : (ce == 0) = false := by simpa using e3
  have k3 : (ce != 0) = true := by simpa using e3
  have g2 : (le == 0) = false := by simpa using e2
  have k2 : (le != 0) = true := by simpa using e2
  clear e1 h1 h2
  -- HH.out: Holds's contract (at W2); rintro e w5 ⟨rfl, hB5⟩: its end; HD.out: Find's; : its end; : more arms ; : the world's last fact
  go_enter Try.func5, Try.ntmps5
  go_wp2_with fail
  rw [HW1.out, HW2.out]
  go_wp2_with (go_at_call 18; (with_reducible refine HH.out.mono ?_); rintro e w4 ⟨rfl, hB4⟩; have hB4w := below_up hB hB4; obtain ⟨l0, l1, l2, l3, l4, l5⟩ := (hC.keep hB4).six; obtain ⟨q0, q1, q2, q3, q4, q5, q6, q7, q8, q9, q10, q11, q12⟩ := (hP.keep hB4).photo)
  go_wp2_with (go_at_call 19; (with_reducible refine (HD.out _ hB4w).mono ?_); rintro e w5 ⟨rfl, hB5⟩; have hB5w := below_up hB4w hB5; have hB45 := below_up hB4 hB5; obtain ⟨l0, l1, l2, l3, l4, l5⟩ := (hC.keep hB45).six; obtain ⟨q0, q1, q2, q3, q4, q5, q6, q7, q8, q9, q10, q11, q12⟩ := (hP.keep hB45).photo)
  go_wp2_with (first
    | (go_at_call 20; (with_reducible refine (HP1.out _ hB5w).mono ?_); rintro e w6 ⟨rfl, hB6⟩; have hB6w := below_up hB5w hB6; have hB46 := below_up hB45 hB6; have hB57 := hB6; obtain ⟨l0, l1, l2, l3, l4, l5⟩ := (hC.keep hB46).six; obtain ⟨q0, q1, q2, q3, q4, q5, q6, q7, q8, q9, q10, q11, q12⟩ := (hP.keep hB46).photo)
    | (go_at_call 12; (with_reducible refine (HP2.out _ hB6w).mono ?_); rintro e w7 ⟨rfl, hB7⟩; have hB7w := below_up hB6w hB7; have hB47 := below_up hB46 hB7; have hB57 := below_up hB57 hB7; obtain ⟨l0, l1, l2, l3, l4, l5⟩ := (hC.keep hB47).six; obtain ⟨q0, q1, q2, q3, q4, q5, q6, q7, q8, q9, q10, q11, q12⟩ := (hP.keep hB47).photo)
    | (go_at_call 21; (with_reducible refine (HP3.out _ hB7w).mono ?_); rintro e w8 ⟨rfl, hB8⟩; have hB8w := below_up hB7w hB8; have hB48 := below_up hB47 hB8; have hB57 := below_up hB57 hB8; have hB7w := hB8w; have hB47 := hB48; obtain ⟨l0, l1, l2, l3, l4, l5⟩ := (hC.keep hB48).six; obtain ⟨q0, q1, q2, q3, q4, q5, q6, q7, q8, q9, q10, q11, q12⟩ := (hP.keep hB48).photo))
  go_ret
  exact ⟨ret_bool (by simp), hB7w⟩
set_option maxRecDepth 100000 in
set_option maxHeartbeats 8000000 in
theorem law_d (p : Ph) (a : Option Addr) (n ca : Nat) (x : Nat → Ph) (c : Cnd) (w : World) (hI : p.In w) (hF : p.Fits) (hx : Phs w a n x) (hX : ∀ i, i < n → (x i).Fits) (hn : n ≤ 9223372036854775807) (hc : c.In w) (hG : c.Fits) (hmx : MxL w) (e1 : p.err ≠ 0) (e2 : Fd.lerr x n ≠ 0) :
    Calls Try.prog 5 #[.agg #[.int .i64 p.id, .string p.file, .int .i64 p.mom, .int .i64 p.zone, .slice p.wa p.wn p.wc, .int .i64 p.W, .int .i64 p.H, .int .i64 p.turn, .int .i64 p.stars, .slice p.ta p.tn p.tc, .string p.cap, .slice p.pa p.pn p.pc, .bool p.hid], .slice a n ca, .agg #[.int .i64 c.op, .slice c.ka c.kn c.kc, .string c.text, .int .i64 c.low, .int .i64 c.high, .slice c.aa c.an c.ac]] w fun e w' => e = .returned (.bool true) ∧ Below w.heap.size w w' := by
  have h1 : Hd.err p.err c ≠ 0 := by rw [Hd.err_no e1]; exact e1
  have h2 : Hd.err (Fd.lerr x n) c ≠ 0 := by rw [Hd.err_no e2]; exact e2
  have HIw := Lib.hid hI; have HCw := Lib.hid hc; have HXw := Lib.hid hx
  have HP1 := Lib.hid (fun W (hb : Below w.heap.size w W) => photoError_is p W (hI.keep hb) hF)
  have HP2 := Lib.hid (fun W (hb : Below w.heap.size w W) => libraryError_is a n ca x W (hx.keep hb) hX hn)
  have HP3 := Lib.hid (fun W (hb : Below w.heap.size w W) => condError_is c W (Cnd.In.keep hb hc) hG)
  obtain ⟨W1, hW1, hP, hz1, hB1⟩ := box w #[.int .i64 p.id, .string p.file, .int .i64 p.mom, .int .i64 p.zone, .slice p.wa p.wn p.wc, .int .i64 p.W, .int .i64 p.H, .int .i64 p.turn, .int .i64 p.stars, .slice p.ta p.tn p.tc, .string p.cap, .slice p.pa p.pn p.pc, .bool p.hid] 26
  obtain ⟨W2, hW2, hC, hz2, hB2⟩ := box W1 #[.int .i64 c.op, .slice c.ka c.kn c.kc, .string c.text, .int .i64 c.low, .int .i64 c.high, .slice c.aa c.an c.ac] 53
  have HW1 := Lib.hid hW1; have HW2 := Lib.hid hW2
  have hP := hP.keep hB2
  rw [hz1] at hC
  have hB := below_up hB1 hB2
  obtain ⟨q0, q1, q2, q3, q4, q5, q6, q7, q8, q9, q10, q11, q12⟩ := hP.photo
  obtain ⟨l0, l1, l2, l3, l4, l5⟩ := hC.six
  clear hW1 hW2 hz1 hz2
  have HH := Lib.hid (holds_err p c hF hG W2 (hI.keep hB) (Cnd.In.keep hB hc) _ rfl h1)
  have HD := Lib.hid (fun W (hb : Below w.heap.size w W) => find_err a n ca x c W (hx.keep hb) hX hn hG (Cnd.In.keep hb hc) _ rfl h2)
  clear hI hc hx
  rw [Hd.err_no e1] at HH
  rw [Hd.err_no e2] at HD
  generalize p.err = pe at *
  generalize Fd.lerr x n = le at *
  have g1 : (pe == 0) = false := by simpa using e1
  have k1 : (pe != 0) = true := by simpa using e1
  have g2 : (le == 0) = false := by simpa using e2
  have k2 : (le != 0) = true := by simpa using e2
  clear h1 h2
  -- HH.out: Holds's contract (at W2); rintro e w5 ⟨rfl, hB5⟩: its end; HD.out: Find's; : its end; : more arms ; : the world's last fact
  go_enter Try.func5, Try.ntmps5
  go_wp2_with fail
  rw [HW1.out, HW2.out]
  go_wp2_with (go_at_call 18; (with_reducible refine HH.out.mono ?_); rintro e w4 ⟨rfl, hB4⟩; have hB4w := below_up hB hB4; obtain ⟨l0, l1, l2, l3, l4, l5⟩ := (hC.keep hB4).six; obtain ⟨q0, q1, q2, q3, q4, q5, q6, q7, q8, q9, q10, q11, q12⟩ := (hP.keep hB4).photo)
  go_wp2_with (go_at_call 19; (with_reducible refine (HD.out _ hB4w).mono ?_); rintro e w5 ⟨rfl, hB5⟩; have hB5w := below_up hB4w hB5; have hB45 := below_up hB4 hB5; obtain ⟨l0, l1, l2, l3, l4, l5⟩ := (hC.keep hB45).six; obtain ⟨q0, q1, q2, q3, q4, q5, q6, q7, q8, q9, q10, q11, q12⟩ := (hP.keep hB45).photo)
  go_wp2_with (first
    | (go_at_call 20; (with_reducible refine (HP1.out _ hB5w).mono ?_); rintro e w6 ⟨rfl, hB6⟩; have hB6w := below_up hB5w hB6; have hB46 := below_up hB45 hB6; have hB57 := hB6; obtain ⟨l0, l1, l2, l3, l4, l5⟩ := (hC.keep hB46).six; obtain ⟨q0, q1, q2, q3, q4, q5, q6, q7, q8, q9, q10, q11, q12⟩ := (hP.keep hB46).photo)
    | (go_at_call 12; (with_reducible refine (HP2.out _ hB6w).mono ?_); rintro e w7 ⟨rfl, hB7⟩; have hB7w := below_up hB6w hB7; have hB47 := below_up hB46 hB7; have hB57 := below_up hB57 hB7; obtain ⟨l0, l1, l2, l3, l4, l5⟩ := (hC.keep hB47).six; obtain ⟨q0, q1, q2, q3, q4, q5, q6, q7, q8, q9, q10, q11, q12⟩ := (hP.keep hB47).photo)
    | (go_at_call 21; (with_reducible refine (HP3.out _ hB7w).mono ?_); rintro e w8 ⟨rfl, hB8⟩; have hB8w := below_up hB7w hB8; have hB48 := below_up hB47 hB8; have hB57 := below_up hB57 hB8; have hB7w := hB8w; have hB47 := hB48; obtain ⟨l0, l1, l2, l3, l4, l5⟩ := (hC.keep hB48).six; obtain ⟨q0, q1, q2, q3, q4, q5, q6, q7, q8, q9, q10, q11, q12⟩ := (hP.keep hB48).photo))
  go_ret
  exact ⟨ret_bool (by simp), hB7w⟩
end Go.Proofs.Ytipmegkmkbbklaa
namespace Go.Proofs.Ytipmegkmkbbklaa
open Go.RowKit Go.Sort Go.Shelf
set_option linter.unusedVariables false
set_option linter.unusedSimpArgs false
set_option maxRecDepth 100000 in
set_option maxHeartbeats 8000000 in
theorem law_e (p : Ph) (a : Option Addr) (n ca : Nat) (x : Nat → Ph) (c : Cnd) (w : World) (hI : p.In w) (hF : p.Fits) (hx : Phs w a n x) (hX : ∀ i, i < n → (x i).Fits) (hn : n ≤ 9223372036854775807) (hc : c.In w) (hG : c.Fits) (hmx : MxL w) (e1 : p.err = 0) (e2 : Fd.lerr x n ≠ 0) (e3 : c.err = 0) :
    Calls Try.prog 5 #[.agg #[.int .i64 p.id, .string p.file, .int .i64 p.mom, .int .i64 p.zone, .slice p.wa p.wn p.wc, .int .i64 p.W, .int .i64 p.H, .int .i64 p.turn, .int .i64 p.stars, .slice p.ta p.tn p.tc, .string p.cap, .slice p.pa p.pn p.pc, .bool p.hid], .slice a n ca, .agg #[.int .i64 c.op, .slice c.ka c.kn c.kc, .string c.text, .int .i64 c.low, .int .i64 c.high, .slice c.aa c.an c.ac]] w fun e w' => e = .returned (.bool true) ∧ Below w.heap.size w w' := by
  have HIw := Lib.hid hI; have HCw := Lib.hid hc; have HXw := Lib.hid hx
  have HP1 := Lib.hid (fun W (hb : Below w.heap.size w W) => photoError_is p W (hI.keep hb) hF)
  have HP2 := Lib.hid (fun W (hb : Below w.heap.size w W) => libraryError_is a n ca x W (hx.keep hb) hX hn)
  have HP3 := Lib.hid (fun W (hb : Below w.heap.size w W) => condError_is c W (Cnd.In.keep hb hc) hG)
  obtain ⟨W1, hW1, hP, hz1, hB1⟩ := box w #[.int .i64 p.id, .string p.file, .int .i64 p.mom, .int .i64 p.zone, .slice p.wa p.wn p.wc, .int .i64 p.W, .int .i64 p.H, .int .i64 p.turn, .int .i64 p.stars, .slice p.ta p.tn p.tc, .string p.cap, .slice p.pa p.pn p.pc, .bool p.hid] 26
  obtain ⟨W2, hW2, hC, hz2, hB2⟩ := box W1 #[.int .i64 c.op, .slice c.ka c.kn c.kc, .string c.text, .int .i64 c.low, .int .i64 c.high, .slice c.aa c.an c.ac] 53
  have HW1 := Lib.hid hW1; have HW2 := Lib.hid hW2
  have hP := hP.keep hB2
  rw [hz1] at hC
  have hB := below_up hB1 hB2
  obtain ⟨q0, q1, q2, q3, q4, q5, q6, q7, q8, q9, q10, q11, q12⟩ := hP.photo
  obtain ⟨l0, l1, l2, l3, l4, l5⟩ := hC.six
  clear hW1 hW2 hz1 hz2
  have HH := Lib.hid (holds_ok p c hF hG W2 (hI.keep hB) (Cnd.In.keep hB hc) (hmx.below hB) e1 e3)
  have HFF := Lib.hid (fun W (hb : Below w.heap.size w W) => holdsFor_is c W p (Cnd.In.keep hb hc) hG (Cnd.good_of hc e3) (hI.keep hb) (Ph.right_of hF e1) (hmx.below hb))
  have HD := Lib.hid (fun W (hb : Below w.heap.size w W) => find_err a n ca x c W (hx.keep hb) hX hn hG (Cnd.In.keep hb hc) (Fd.lerr x n) (Hd.err_no e2) e2)
  clear hI hc hx
  rw [e1] at HP1
  rw [e3] at HP3
  generalize Fd.lerr x n = le at *
  generalize c.holds p = hq at *
  have g2 : (le == 0) = false := by simpa using e2
  have k2 : (le != 0) = true := by simpa using e2
  clear e1 e3
  -- HH.out: Holds's contract (at W2); rintro e w5 ⟨rfl, hB5⟩: its end; HD.out: Find's; : its end; : more arms ; : the world's last fact
  go_enter Try.func5, Try.ntmps5
  go_wp2_with fail
  rw [HW1.out, HW2.out]
  go_wp2_with (go_at_call 18; (with_reducible refine HH.out.mono ?_); rintro e w4 ⟨rfl, hB4⟩; have hB4w := below_up hB hB4; obtain ⟨l0, l1, l2, l3, l4, l5⟩ := (hC.keep hB4).six; obtain ⟨q0, q1, q2, q3, q4, q5, q6, q7, q8, q9, q10, q11, q12⟩ := (hP.keep hB4).photo)
  go_wp2_with (go_at_call 19; (with_reducible refine (HD.out _ hB4w).mono ?_); rintro e w5 ⟨rfl, hB5⟩; have hB5w := below_up hB4w hB5; have hB45 := below_up hB4 hB5; obtain ⟨l0, l1, l2, l3, l4, l5⟩ := (hC.keep hB45).six; obtain ⟨q0, q1, q2, q3, q4, q5, q6, q7, q8, q9, q10, q11, q12⟩ := (hP.keep hB45).photo)
  go_wp2_with (first
    | (go_at_call 20; (with_reducible refine (HP1.out _ hB5w).mono ?_); rintro e w6 ⟨rfl, hB6⟩; have hB6w := below_up hB5w hB6; have hB46 := below_up hB45 hB6; have hB57 := hB6; obtain ⟨l0, l1, l2, l3, l4, l5⟩ := (hC.keep hB46).six; obtain ⟨q0, q1, q2, q3, q4, q5, q6, q7, q8, q9, q10, q11, q12⟩ := (hP.keep hB46).photo)
    | (go_at_call 12; (with_reducible refine (HP2.out _ hB6w).mono ?_); rintro e w7 ⟨rfl, hB7⟩; have hB7w := below_up hB6w hB7; have hB47 := below_up hB46 hB7; have hB57 := below_up hB57 hB7; obtain ⟨l0, l1, l2, l3, l4, l5⟩ := (hC.keep hB47).six; obtain ⟨q0, q1, q2, q3, q4, q5, q6, q7, q8, q9, q10, q11, q12⟩ := (hP.keep hB47).photo)
    | (go_at_call 21; (with_reducible refine (HP3.out _ hB7w).mono ?_); rintro e w8 ⟨rfl, hB8⟩; have hB8w := below_up hB7w hB8; have hB48 := below_up hB47 hB8; have hB57 := below_up hB57 hB8; have hB7w := hB8w; have hB47 := hB48; obtain ⟨l0, l1, l2, l3, l4, l5⟩ := (hC.keep hB48).six; obtain ⟨q0, q1, q2, q3, q4, q5, q6, q7, q8, q9, q10, q11, q12⟩ := (hP.keep hB48).photo))
  go_wp2_with (go_at_call 22; (with_reducible refine (HFF.out _ hB7w).mono ?_); rintro e w9 ⟨rfl, hB9⟩; have hB9w := below_up hB7w hB9; have hB49 := below_up hB47 hB9; have hB57 := below_up hB57 hB9; have hB7w := hB9w; have hB47 := hB49; obtain ⟨l0, l1, l2, l3, l4, l5⟩ := (hC.keep hB49).six; obtain ⟨q0, q1, q2, q3, q4, q5, q6, q7, q8, q9, q10, q11, q12⟩ := (hP.keep hB49).photo)
  go_ret
  exact ⟨ret_bool (by simp), hB7w⟩
end Go.Proofs.Ytipmegkmkbbklaa
namespace Go.Proofs.Ytipmegkmkbbklaa
open Go.RowKit Go.Sort Go.Shelf
set_option linter.unusedVariables false
set_option linter.unusedSimpArgs false
set_option maxRecDepth 100000 in
set_option maxHeartbeats 8000000 in
theorem law_f (p : Ph) (a : Option Addr) (n ca : Nat) (x : Nat → Ph) (c : Cnd) (w : World) (hI : p.In w) (hF : p.Fits) (hx : Phs w a n x) (hX : ∀ i, i < n → (x i).Fits) (hn : n ≤ 9223372036854775807) (hc : c.In w) (hG : c.Fits) (hmx : MxL w) (e1 : p.err ≠ 0) (e2 : Fd.lerr x n = 0) (e3 : c.err = 0) :
    Calls Try.prog 5 #[.agg #[.int .i64 p.id, .string p.file, .int .i64 p.mom, .int .i64 p.zone, .slice p.wa p.wn p.wc, .int .i64 p.W, .int .i64 p.H, .int .i64 p.turn, .int .i64 p.stars, .slice p.ta p.tn p.tc, .string p.cap, .slice p.pa p.pn p.pc, .bool p.hid], .slice a n ca, .agg #[.int .i64 c.op, .slice c.ka c.kn c.kc, .string c.text, .int .i64 c.low, .int .i64 c.high, .slice c.aa c.an c.ac]] w fun e w' => e = .returned (.bool true) ∧ Below w.heap.size w w' := by
  have HIw := Lib.hid hI; have HCw := Lib.hid hc; have HXw := Lib.hid hx
  have HP1 := Lib.hid (fun W (hb : Below w.heap.size w W) => photoError_is p W (hI.keep hb) hF)
  have HP2 := Lib.hid (fun W (hb : Below w.heap.size w W) => libraryError_is a n ca x W (hx.keep hb) hX hn)
  have HP3 := Lib.hid (fun W (hb : Below w.heap.size w W) => condError_is c W (Cnd.In.keep hb hc) hG)
  obtain ⟨W1, hW1, hP, hz1, hB1⟩ := box w #[.int .i64 p.id, .string p.file, .int .i64 p.mom, .int .i64 p.zone, .slice p.wa p.wn p.wc, .int .i64 p.W, .int .i64 p.H, .int .i64 p.turn, .int .i64 p.stars, .slice p.ta p.tn p.tc, .string p.cap, .slice p.pa p.pn p.pc, .bool p.hid] 26
  obtain ⟨W2, hW2, hC, hz2, hB2⟩ := box W1 #[.int .i64 c.op, .slice c.ka c.kn c.kc, .string c.text, .int .i64 c.low, .int .i64 c.high, .slice c.aa c.an c.ac] 53
  have HW1 := Lib.hid hW1; have HW2 := Lib.hid hW2
  have hP := hP.keep hB2
  rw [hz1] at hC
  have hB := below_up hB1 hB2
  obtain ⟨q0, q1, q2, q3, q4, q5, q6, q7, q8, q9, q10, q11, q12⟩ := hP.photo
  obtain ⟨l0, l1, l2, l3, l4, l5⟩ := hC.six
  clear hW1 hW2 hz1 hz2
  have HH := Lib.hid (holds_err p c hF hG W2 (hI.keep hB) (Cnd.In.keep hB hc) p.err (Hd.err_no e1) e1)
  have hle := Fd.sel_le (fun p => c.holds p) x n
  have hfew := Fd.lerr_few e2
  have HD := Lib.hid (fun W (hb : Below w.heap.size w W) => find_ok a n ca x c W (hx.keep hb) hX hn hG (Cnd.In.keep hb hc) (hmx.below hb) e2 e3)
  have HFD := Lib.hid (fun W (hb : Below w.heap.size w W) => found_is (fun p => c.holds p) c a n ca x W (hx.keep hb) (fun V i hi hV => holdsFor_is c V (x i) (Cnd.In.keep (below_up hb hV) hc) hG (Cnd.good_of hc e3) ((hx.each i hi).keep (below_up hb hV)) (Ph.right_of (hX i hi) (Fd.lerr_each e2 i hi)) (hmx.below (below_up hb hV))) hfew)
  clear hI hc hx
  rw [e2] at HP2
  rw [e3] at HP3
  generalize p.err = pe at *
  generalize hS : Fd.sel (fun p => c.holds p) x n = S at *
  obtain ⟨XS, hXS⟩ : ∃ XS, Fd.idsL (fun i => S[i]?.getD Ph.zero) S.length = XS := ⟨_, rfl⟩
  have hxl : XS.length = S.length := by rw [← hXS, Fd.idsL_len]
  rw [hXS] at HD
  have HXS := Lib.hid hXS
  have HXL := Lib.hid hxl
  clear hS hXS hxl
  have g1 : (pe == 0) = false := by simpa using e1
  have k1 : (pe != 0) = true := by simpa using e1
  clear e2 e3
  -- HH.out: Holds's contract (at W2); rintro e w5 ⟨a5, c5, rfl, hr5, hB5⟩: its end; HD.out: Find's; : its end; : more arms ; : the world's last fact
  go_enter Try.func5, Try.ntmps5
  go_wp2_with fail
  rw [HW1.out, HW2.out]
  go_wp2_with (go_at_call 18; (with_reducible refine HH.out.mono ?_); rintro e w4 ⟨rfl, hB4⟩; have hB4w := below_up hB hB4; obtain ⟨l0, l1, l2, l3, l4, l5⟩ := (hC.keep hB4).six; obtain ⟨q0, q1, q2, q3, q4, q5, q6, q7, q8, q9, q10, q11, q12⟩ := (hP.keep hB4).photo)
  go_wp2_with (go_at_call 19; (with_reducible refine (HD.out _ hB4w).mono ?_); rintro e w5 ⟨a5, c5, rfl, hr5, hB5⟩; have hB5w := below_up hB4w hB5; have hB45 := below_up hB4 hB5; obtain ⟨l0, l1, l2, l3, l4, l5⟩ := (hC.keep hB45).six; obtain ⟨q0, q1, q2, q3, q4, q5, q6, q7, q8, q9, q10, q11, q12⟩ := (hP.keep hB45).photo)
  go_wp2_with (first
    | (go_at_call 20; (with_reducible refine (HP1.out _ hB5w).mono ?_); rintro e w6 ⟨rfl, hB6⟩; have hB6w := below_up hB5w hB6; have hB46 := below_up hB45 hB6; have hB57 := hB6; obtain ⟨l0, l1, l2, l3, l4, l5⟩ := (hC.keep hB46).six; obtain ⟨q0, q1, q2, q3, q4, q5, q6, q7, q8, q9, q10, q11, q12⟩ := (hP.keep hB46).photo)
    | (go_at_call 12; (with_reducible refine (HP2.out _ hB6w).mono ?_); rintro e w7 ⟨rfl, hB7⟩; have hB7w := below_up hB6w hB7; have hB47 := below_up hB46 hB7; have hB57 := below_up hB57 hB7; obtain ⟨l0, l1, l2, l3, l4, l5⟩ := (hC.keep hB47).six; obtain ⟨q0, q1, q2, q3, q4, q5, q6, q7, q8, q9, q10, q11, q12⟩ := (hP.keep hB47).photo)
    | (go_at_call 21; (with_reducible refine (HP3.out _ hB7w).mono ?_); rintro e w8 ⟨rfl, hB8⟩; have hB8w := below_up hB7w hB8; have hB48 := below_up hB47 hB8; have hB57 := below_up hB57 hB8; have hB7w := hB8w; have hB47 := hB48; obtain ⟨l0, l1, l2, l3, l4, l5⟩ := (hC.keep hB48).six; obtain ⟨q0, q1, q2, q3, q4, q5, q6, q7, q8, q9, q10, q11, q12⟩ := (hP.keep hB48).photo))
  go_wp2_with (first | (go_at_call 25; (with_reducible refine (HFD.out _ hB7w).mono ?_); rintro e w10 ⟨a10, c10, rfl, hk10, hm10, hS10, hB10⟩; have hB10w := below_up hB7w hB10) | (go_at_call 24; (with_reducible refine (idsR_is a10 _ c10 _ _ hS10 (by omega)).mono ?_); rintro e w11 ⟨a11, c11, rfl, hr11, hB11⟩; have hB11w := below_up hB10w hB11; have HR5 := Lib.hid (hr5.keep (below_up (below_up hB57 hB10) hB11)); rw [HXS.out] at hr11 ⊢) | (go_at_call 23; refine (equal_ints a5 XS c5 a11 XS c11 _ HR5.out hr11 (by have := HXL.out; omega) (by have := HXL.out; omega)).mono ?_; rintro e w12 ⟨rfl, hB12⟩))
  go_ret
  exact ⟨ret_bool (by simp), below_up hB11w hB12⟩
end Go.Proofs.Ytipmegkmkbbklaa
namespace Go.Proofs.Ytipmegkmkbbklaa
open Go.RowKit Go.Sort Go.Shelf
set_option linter.unusedVariables false
set_option linter.unusedSimpArgs false
set_option maxRecDepth 100000 in
set_option maxHeartbeats 8000000 in
theorem law_g (p : Ph) (a : Option Addr) (n ca : Nat) (x : Nat → Ph) (c : Cnd) (w : World) (hI : p.In w) (hF : p.Fits) (hx : Phs w a n x) (hX : ∀ i, i < n → (x i).Fits) (hn : n ≤ 9223372036854775807) (hc : c.In w) (hG : c.Fits) (hmx : MxL w) (e1 : p.err = 0) (e2 : Fd.lerr x n = 0) (e3 : c.err = 0) :
    Calls Try.prog 5 #[.agg #[.int .i64 p.id, .string p.file, .int .i64 p.mom, .int .i64 p.zone, .slice p.wa p.wn p.wc, .int .i64 p.W, .int .i64 p.H, .int .i64 p.turn, .int .i64 p.stars, .slice p.ta p.tn p.tc, .string p.cap, .slice p.pa p.pn p.pc, .bool p.hid], .slice a n ca, .agg #[.int .i64 c.op, .slice c.ka c.kn c.kc, .string c.text, .int .i64 c.low, .int .i64 c.high, .slice c.aa c.an c.ac]] w fun e w' => e = .returned (.bool true) ∧ Below w.heap.size w w' := by
  have HIw := Lib.hid hI; have HCw := Lib.hid hc; have HXw := Lib.hid hx
  have HP1 := Lib.hid (fun W (hb : Below w.heap.size w W) => photoError_is p W (hI.keep hb) hF)
  have HP2 := Lib.hid (fun W (hb : Below w.heap.size w W) => libraryError_is a n ca x W (hx.keep hb) hX hn)
  have HP3 := Lib.hid (fun W (hb : Below w.heap.size w W) => condError_is c W (Cnd.In.keep hb hc) hG)
  obtain ⟨W1, hW1, hP, hz1, hB1⟩ := box w #[.int .i64 p.id, .string p.file, .int .i64 p.mom, .int .i64 p.zone, .slice p.wa p.wn p.wc, .int .i64 p.W, .int .i64 p.H, .int .i64 p.turn, .int .i64 p.stars, .slice p.ta p.tn p.tc, .string p.cap, .slice p.pa p.pn p.pc, .bool p.hid] 26
  obtain ⟨W2, hW2, hC, hz2, hB2⟩ := box W1 #[.int .i64 c.op, .slice c.ka c.kn c.kc, .string c.text, .int .i64 c.low, .int .i64 c.high, .slice c.aa c.an c.ac] 53
  have HW1 := Lib.hid hW1; have HW2 := Lib.hid hW2
  have hP := hP.keep hB2
  rw [hz1] at hC
  have hB := below_up hB1 hB2
  obtain ⟨q0, q1, q2, q3, q4, q5, q6, q7, q8, q9, q10, q11, q12⟩ := hP.photo
  obtain ⟨l0, l1, l2, l3, l4, l5⟩ := hC.six
  clear hW1 hW2 hz1 hz2
  have HH := Lib.hid (holds_ok p c hF hG W2 (hI.keep hB) (Cnd.In.keep hB hc) (hmx.below hB) e1 e3)
  have HFF := Lib.hid (fun W (hb : Below w.heap.size w W) => holdsFor_is c W p (Cnd.In.keep hb hc) hG (Cnd.good_of hc e3) (hI.keep hb) (Ph.right_of hF e1) (hmx.below hb))
  have hle := Fd.sel_le (fun p => c.holds p) x n
  have hfew := Fd.lerr_few e2
  have HD := Lib.hid (fun W (hb : Below w.heap.size w W) => find_ok a n ca x c W (hx.keep hb) hX hn hG (Cnd.In.keep hb hc) (hmx.below hb) e2 e3)
  have HFD := Lib.hid (fun W (hb : Below w.heap.size w W) => found_is (fun p => c.holds p) c a n ca x W (hx.keep hb) (fun V i hi hV => holdsFor_is c V (x i) (Cnd.In.keep (below_up hb hV) hc) hG (Cnd.good_of hc e3) ((hx.each i hi).keep (below_up hb hV)) (Ph.right_of (hX i hi) (Fd.lerr_each e2 i hi)) (hmx.below (below_up hb hV))) hfew)
  clear hI hc hx
  rw [e1] at HP1
  rw [e2] at HP2
  rw [e3] at HP3
  generalize c.holds p = hq at *
  generalize hS : Fd.sel (fun p => c.holds p) x n = S at *
  obtain ⟨XS, hXS⟩ : ∃ XS, Fd.idsL (fun i => S[i]?.getD Ph.zero) S.length = XS := ⟨_, rfl⟩
  have hxl : XS.length = S.length := by rw [← hXS, Fd.idsL_len]
  rw [hXS] at HD
  have HXS := Lib.hid hXS
  have HXL := Lib.hid hxl
  clear hS hXS hxl
  clear e1 e2 e3
  -- HH.out: Holds's contract (at W2); rintro e w5 ⟨a5, c5, rfl, hr5, hB5⟩: its end; HD.out: Find's; : its end; : more arms ; : the world's last fact
  go_enter Try.func5, Try.ntmps5
  go_wp2_with fail
  rw [HW1.out, HW2.out]
  go_wp2_with (go_at_call 18; (with_reducible refine HH.out.mono ?_); rintro e w4 ⟨rfl, hB4⟩; have hB4w := below_up hB hB4; obtain ⟨l0, l1, l2, l3, l4, l5⟩ := (hC.keep hB4).six; obtain ⟨q0, q1, q2, q3, q4, q5, q6, q7, q8, q9, q10, q11, q12⟩ := (hP.keep hB4).photo)
  go_wp2_with (go_at_call 19; (with_reducible refine (HD.out _ hB4w).mono ?_); rintro e w5 ⟨a5, c5, rfl, hr5, hB5⟩; have hB5w := below_up hB4w hB5; have hB45 := below_up hB4 hB5; obtain ⟨l0, l1, l2, l3, l4, l5⟩ := (hC.keep hB45).six; obtain ⟨q0, q1, q2, q3, q4, q5, q6, q7, q8, q9, q10, q11, q12⟩ := (hP.keep hB45).photo)
  go_wp2_with (first
    | (go_at_call 20; (with_reducible refine (HP1.out _ hB5w).mono ?_); rintro e w6 ⟨rfl, hB6⟩; have hB6w := below_up hB5w hB6; have hB46 := below_up hB45 hB6; have hB57 := hB6; obtain ⟨l0, l1, l2, l3, l4, l5⟩ := (hC.keep hB46).six; obtain ⟨q0, q1, q2, q3, q4, q5, q6, q7, q8, q9, q10, q11, q12⟩ := (hP.keep hB46).photo)
    | (go_at_call 12; (with_reducible refine (HP2.out _ hB6w).mono ?_); rintro e w7 ⟨rfl, hB7⟩; have hB7w := below_up hB6w hB7; have hB47 := below_up hB46 hB7; have hB57 := below_up hB57 hB7; obtain ⟨l0, l1, l2, l3, l4, l5⟩ := (hC.keep hB47).six; obtain ⟨q0, q1, q2, q3, q4, q5, q6, q7, q8, q9, q10, q11, q12⟩ := (hP.keep hB47).photo)
    | (go_at_call 21; (with_reducible refine (HP3.out _ hB7w).mono ?_); rintro e w8 ⟨rfl, hB8⟩; have hB8w := below_up hB7w hB8; have hB48 := below_up hB47 hB8; have hB57 := below_up hB57 hB8; have hB7w := hB8w; have hB47 := hB48; obtain ⟨l0, l1, l2, l3, l4, l5⟩ := (hC.keep hB48).six; obtain ⟨q0, q1, q2, q3, q4, q5, q6, q7, q8, q9, q10, q11, q12⟩ := (hP.keep hB48).photo))
  go_wp2_with (first | (go_at_call 22; (with_reducible refine (HFF.out _ hB7w).mono ?_); rintro e w9 ⟨rfl, hB9⟩; have hB9w := below_up hB7w hB9; have hB49 := below_up hB47 hB9; have hB57 := below_up hB57 hB9; have hB7w := hB9w; have hB47 := hB49; obtain ⟨l0, l1, l2, l3, l4, l5⟩ := (hC.keep hB49).six; obtain ⟨q0, q1, q2, q3, q4, q5, q6, q7, q8, q9, q10, q11, q12⟩ := (hP.keep hB49).photo) | (go_at_call 25; (with_reducible refine (HFD.out _ hB7w).mono ?_); rintro e w10 ⟨a10, c10, rfl, hk10, hm10, hS10, hB10⟩; have hB10w := below_up hB7w hB10) | (go_at_call 24; (with_reducible refine (idsR_is a10 _ c10 _ _ hS10 (by omega)).mono ?_); rintro e w11 ⟨a11, c11, rfl, hr11, hB11⟩; have hB11w := below_up hB10w hB11; have HR5 := Lib.hid (hr5.keep (below_up (below_up hB57 hB10) hB11)); rw [HXS.out] at hr11 ⊢) | (go_at_call 23; refine (equal_ints a5 XS c5 a11 XS c11 _ HR5.out hr11 (by have := HXL.out; omega) (by have := HXL.out; omega)).mono ?_; rintro e w12 ⟨rfl, hB12⟩))
  go_ret
  exact ⟨ret_bool (by simp), below_up hB11w hB12⟩
end Go.Proofs.Ytipmegkmkbbklaa
namespace Go.Proofs.Ytipmegkmkbbklaa
open Go.RowKit Go.Sort Go.Shelf
set_option linter.unusedVariables false
theorem findHolds_walk (p : Ph) (a : Option Addr) (n ca : Nat) (x : Nat → Ph) (c : Cnd) (w : World) (hI : p.In w) (hF : p.Fits) (hx : Phs w a n x) (hX : ∀ i, i < n → (x i).Fits) (hn : n ≤ 9223372036854775807) (hc : c.In w) (hG : c.Fits) (hmx : MxL w) : Calls Try.prog 5 #[.agg #[.int .i64 p.id, .string p.file, .int .i64 p.mom, .int .i64 p.zone, .slice p.wa p.wn p.wc, .int .i64 p.W, .int .i64 p.H, .int .i64 p.turn, .int .i64 p.stars, .slice p.ta p.tn p.tc, .string p.cap, .slice p.pa p.pn p.pc, .bool p.hid], .slice a n ca, .agg #[.int .i64 c.op, .slice c.ka c.kn c.kc, .string c.text, .int .i64 c.low, .int .i64 c.high, .slice c.aa c.an c.ac]] w fun e w' => e = .returned (.bool true) ∧ Below w.heap.size w w' := by
  by_cases e1 : p.err = 0
  · by_cases e2 : Fd.lerr x n = 0
    · by_cases e3 : c.err = 0
      · exact law_g p a n ca x c w hI hF hx hX hn hc hG hmx e1 e2 e3
      · exact law_a p a n ca x c w hI hF hx hX hn hc hG hmx e1 e2 e3
    · by_cases e3 : c.err = 0
      · exact law_e p a n ca x c w hI hF hx hX hn hc hG hmx e1 e2 e3
      · exact law_c p a n ca x c w hI hF hx hX hn hc hG hmx e1 e2 e3
  · by_cases e2 : Fd.lerr x n = 0
    · by_cases e3 : c.err = 0
      · exact law_f p a n ca x c w hI hF hx hX hn hc hG hmx e1 e2 e3
      · exact law_b p a n ca x c w hI hF hx hX hn hc hG hmx e1 e2 e3
    · exact law_d p a n ca x c w hI hF hx hX hn hc hG hmx e1 e2
end Go.Proofs.Ytipmegkmkbbklaa
