/- Parts of the proof, no condition: FaLaw. -/
import Derived.Test.YtimjmjmpaicdbaaGreatDoorPk20
import Derived.Test.YtimjmjmpaicdbaaGreatDoorPk22
set_option maxRecDepth 100000
set_option maxHeartbeats 4000000
set_option linter.unusedSimpArgs false
set_option linter.unusedVariables false
namespace Go.Proofs.YtimjmjmpaicdbaaGreatDoor
open Go.RowKit Go.Sort Go.Shelf
theorem neFac (s : ByteArray) (c : Int) (w : World) : Sem.run Tryz.prog (binOp .neq 51 (.agg #[.string s, .int .i64 c]) (.agg #[.string s, .int .i64 c])) w = .ok (.bool false) w := by
 have u3 := Tryz.underlying3
 have a3 := Tryz.isAgg3
 have z3 := Tryz.sizeOf3
 have u9 := Tryz.underlying9
 have a9 := Tryz.isAgg9
 have z9 := Tryz.sizeOf9
 have hS : Tryz.prog.underlying 51 = some (.struct (Tryz.prog.fieldsOf 51)) := by kernel_rfl
 have hp : Tryz.prog.stoodInHeld 51 = false := by kernel_rfl
 rw [run_neq_struct, show (10000 : Nat) = 9999 + 1 from rfl, run_equalIn_agg w 9999 51 _ _ hS hp]
 simp only [Program.fieldsOf, Tryz.underlying51]
 go_simp
 try simp
theorem guardFac : Tryz.prog.eqGuardType Tryz.prog.depth 51 = false := by kernel_rfl
theorem eqFac_same (O : List Fa.Fc) (a b : Option Addr) (ca cb : Nat) (w : World) (hx : RowE Fa.fcE w a O) (hy : RowE Fa.fcE w b O) (hn : O.length ≤ 9223372036854775807) :
  Calls Tryz.prog 19 #[.slice a O.length ca, .slice b O.length cb] w fun e w' => e = .returned (.bool true) ∧ Below w.heap.size w w' := by
 have HX := Lib.hid hx; have HY := Lib.hid hy
 obtain ⟨n, hnn⟩ : ∃ n, O.length = n := ⟨_, rfl⟩
 have HN := Lib.hid hnn
 rw [hnn] at hn ⊢
 have hl' : ((n : Int) == (n : Int)) = true := by simp
 clear hx hy hnn
 go_enter Tryz.func19, Tryz.ntmps19
 go_wp2_with fail
 go_loopg [13] n (fun gk i wr => ∃ j : Nat, j ≤ n ∧ gk = n - j ∧ i = .int .i64 j ∧ Below w.heap.size w wr)
 case atStart => exact ⟨0, by omega, rfl, rfl, Below.refl _ _⟩
 case round =>
  obtain ⟨j, hj, rfl, rfl, hB⟩ := hrel
  by_cases hlt : j < n
  ·obtain ⟨q, hq⟩ : ∃ q, O[j]? = some q := ⟨_, List.getElem?_eq_getElem (by rw [HN.out]; exact hlt)⟩
   obtain ⟨b1, o1, ha1, hb1, hc1⟩ := HX.out.keep hB (by rw [HN.out]; omega)
   obtain ⟨b2, o2, ha2, hb2, hc2⟩ := HY.out.keep hB (by rw [HN.out]; omega)
   obtain ⟨s, c⟩ := q
   have c1 : wr.cell? ⟨b1, o1 + j * 2, none⟩ = some (.string s) := hc1 j (s, c) hq 0 (.string s) rfl
   have c2 : wr.cell? ⟨b1, o1 + j * 2 + 1, none⟩ = some (.int .i64 c) := hc1 j (s, c) hq 1 (.int .i64 c) rfl
   have d1 : wr.cell? ⟨b2, o2 + j * 2, none⟩ = some (.string s) := hc2 j (s, c) hq 0 (.string s) rfl
   have d2 : wr.cell? ⟨b2, o2 + j * 2 + 1, none⟩ = some (.int .i64 c) := hc2 j (s, c) hq 1 (.int .i64 c) rfl
   have hj0 : (0 : Int) ≤ (j : Int) := by omega
   have hj1 : (j : Int) < (n : Int) := by omega
   have hne := neFac s c
   have hgd := guardFac
   clear hc1 hc2 hq
   rw [ha1, ha2]
   go_wp2_with fail
   go_quiet (fail)
   go_wp2_with fail
   rw [← ha1, ← ha2]
   go_roundg (n - (j + 1))
   case rel => exact ⟨j + 1, by omega, rfl, by go_num, below_drewN hB _⟩
   case measure => omega
  ·obtain rfl : j = n := by omega
   have hjn : ¬ ((j : Int) < (j : Int)) := by omega
   go_wp2_with fail
   go_ret
   exact ⟨rfl, hB⟩
theorem askErrI_is (c : Cnd) (l : List Ak.Srt) (sa : Option Addr) (sc : Nat) (fn mn : Int) (hsc : l.length ≤ sc) (hsm : sc ≤ 9223372036854775807) (a : Option Addr) (n ca : Nat) (x : Nat → Ph) (w : World) (hx : Phs w a n x) (hF : ∀ i, i < n → (x i).Fits) (hn : n ≤ 9223372036854775807) (hc : c.In w) (hG : c.Fits) (hr : RowE Ak.eS w sa l) (q : Int) (hq : (if Fd.lerr x n = 0 then Ak.qErr c.err l fn mn else Fd.lerr x n) = q) (hne : q ≠ 0) :
  Calls Tryz.prog 14 #[.slice a n ca, .agg #[.int .i64 c.op, .slice c.ka c.kn c.kc, .string c.text, .int .i64 c.low, .int .i64 c.high, .slice c.aa c.an c.ac, .slice sa l.length sc, .int .i64 fn, .int .i64 mn]] w fun e w' => e = .returned (.tuple #[.slice none 0 0, .int .i64 q]) ∧ Below w.heap.size w w' := by
 obtain ⟨W1, hW1, hQ, hz1, hB1⟩ := box w #[.int .i64 c.op, .slice c.ka c.kn c.kc, .string c.text, .int .i64 c.low, .int .i64 c.high, .slice c.aa c.an c.ac, .slice sa l.length sc, .int .i64 fn, .int .i64 mn] 33
 have HW1 := Lib.hid hW1
 have HC1 := Lib.hid (check_is a n ca x W1 (hx.keep hB1) hF hn)
 have HC2 := Lib.hid (fun W (hb : Below w.heap.size w W) => checkQ_is c l sa sc fn mn W (Cnd.In.keep hb hc) hG (hr.keep hb) hsc hsm)
 have HQ := Lib.hid hQ; have HB1 := Lib.hid hB1
 have hne1 : (q != 0) = true := by simpa using hne
 obtain ⟨q0, q1, q2, q3, q4, q5, q6, q7, q8⟩ := hQ.nine
 clear hx hF hc hG hr hW1 hz1 hQ hB1
 by_cases h0 : Fd.lerr x n = 0
 ·rw [if_pos h0] at hq
  rw [h0] at HC1
  rw [hq] at HC2
  clear h0 hq hne
  go_enter Tryz.func14, Tryz.ntmps14
  go_upto_region 1 with fail
  rw [HW1.out]
  go_wp2_with (first
   | (go_at_call 37; (with_reducible refine HC1.out.mono ?_); rintro e w4 ⟨rfl, hB4⟩; have hB4w := below_up HB1.out hB4; obtain ⟨q0, q1, q2, q3, q4, q5, q6, q7, q8⟩ := (HQ.out.keep hB4).nine)
   | (go_at_call 12; (with_reducible refine (HC2.out _ hB4w).mono ?_); rintro e w5 ⟨rfl, hB5⟩))
  go_ret2
  exact ⟨rfl, below_up hB4w hB5⟩
 ·rw [if_neg h0] at hq
  rw [hq] at HC1
  clear h0 hq hne
  go_enter Tryz.func14, Tryz.ntmps14
  go_upto_region 1 with fail
  rw [HW1.out]
  go_wp2_with (go_at_call 37; (with_reducible refine HC1.out.mono ?_); rintro e w4 ⟨rfl, hB4⟩)
  go_ret2
  exact ⟨rfl, below_up HB1.out hB4⟩
theorem Fa.nall_few (k : Int) : ∀ (S : List Ph), (∀ p ∈ S, Fa.Good p) → (Fa.nall k S).length ≤ S.length * 20
 | [], _ => Nat.le_refl _
 | p :: S, h => by
   have ih := Fa.nall_few k S fun q hq => h q (List.mem_cons_of_mem _ hq)
   have h1 := Fa.nms_few (k := k) (h p (List.mem_cons_self ..))
   unfold Fa.nall at ih ⊢
   rw [List.flatMap_cons, List.length_append, List.length_cons]
   omega
theorem asks_a (c : Cnd) (l : List Ak.Srt) (sa : Option Addr) (sc : Nat) (fn mn : Int) (hsc : l.length ≤ sc) (hsm : sc ≤ 9223372036854775807) (a : Option Addr) (n ca : Nat) (x : Nat → Ph) (k : Int) (w : World) (hx : Phs w a n x) (hF : ∀ i, i < n → (x i).Fits) (hn : n ≤ 9223372036854775807) (hc : c.In w) (hG : c.Fits) (hmx : MxL w) (ht : Tx.Tab w) (hr : RowE Ak.eS w sa l) (h0 : Fd.lerr x n ≠ 0) : Calls Tryz.prog 5 #[.slice a n ca, .agg #[.int .i64 c.op, .slice c.ka c.kn c.kc, .string c.text, .int .i64 c.low, .int .i64 c.high, .slice c.aa c.an c.ac, .slice sa l.length sc, .int .i64 fn, .int .i64 mn], .int .i64 k] w fun e w' => e = .returned (.bool true) ∧ Below w.heap.size w w' := by
 obtain ⟨W1, hW1, hQ, hz1, hBw⟩ := box w #[.int .i64 c.op, .slice c.ka c.kn c.kc, .string c.text, .int .i64 c.low, .int .i64 c.high, .slice c.aa c.an c.ac, .slice sa l.length sc, .int .i64 fn, .int .i64 mn] 33
 have HW1 := Lib.hid hW1
 have HLE := Lib.hid (fun W (hb : Below w.heap.size w W) => libraryError_is a n ca x W (hx.keep hb) hF hn)
 have HQE := Lib.hid (fun W (hb : Below w.heap.size w W) => questionError_is c l sa sc fn mn W (Cnd.In.keep hb hc) hG (hr.keep hb) hsc hsm)
 have HCE := Lib.hid (fun W (hb : Below w.heap.size w W) => condError_is c W (Cnd.In.keep hb hc) hG)
 have hBc := Below.refl W1.heap.size W1
 obtain ⟨q0, q1, q2, q3, q4, q5, q6, q7, q8⟩ := hQ.nine
 have HQ := Lib.hid hQ
 clear hW1 hz1 hQ
 have HA := Lib.hid (fun W (hb : Below w.heap.size w W) => askErrI_is c l sa sc fn mn hsc hsm a n ca x W (hx.keep hb) hF hn (Cnd.In.keep hb hc) hG (hr.keep hb) _ (if_neg h0) h0)
 have HFA := Lib.hid (fun W (hb : Below w.heap.size w W) => facets_err a n ca x c k W (hx.keep hb) hF hn hG (Cnd.In.keep hb hc) _ (if_neg h0) h0)
 obtain ⟨le, hle⟩ : ∃ le, Fd.lerr x n = le := ⟨_, rfl⟩
 rw [hle] at HLE HA HFA h0
 have h1 : (le == 0) = false := by simpa using h0
 have h2 : (le != 0) = true := by simpa using h0
 have h3 : decide (le = 0) = false := decide_eq_false h0
 clear hx hF hc hG hmx ht hr hle HQE HCE
 go_enter Tryz.func5, Tryz.ntmps5
 go_upto_region 1 with fail
 rw [HW1.out]
 go_upto_region 2 with (go_at_call 14; (with_reducible refine (HA.out _ hBw).mono ?_); rintro e w16 ⟨rfl, hBx⟩; have hBc := below_up hBc hBx; have hBw := below_up hBw hBx; have hB16 := Below.refl w16.heap.size w16; obtain ⟨q0, q1, q2, q3, q4, q5, q6, q7, q8⟩ := (HQ.out.keep hBc).nine)
 go_upto_region 3 with (go_at_call 15; (with_reducible refine (HFA.out _ hBw).mono ?_); rintro e w24 ⟨rfl, hBx⟩; have hBc := below_up hBc hBx; have hBw := below_up hBw hBx; have hB16 := below_up hB16 hBx; have hB24 := Below.refl w24.heap.size w24; obtain ⟨q0, q1, q2, q3, q4, q5, q6, q7, q8⟩ := (HQ.out.keep hBc).nine)
 go_wp2_with (first
  | (go_at_call 16; (with_reducible refine (HLE.out _ hBw).mono ?_); rintro e w28 ⟨rfl, hBx⟩; have hBc := below_up hBc hBx; have hBw := below_up hBw hBx; have hB16 := below_up hB16 hBx; have hB24 := below_up hB24 hBx; obtain ⟨q0, q1, q2, q3, q4, q5, q6, q7, q8⟩ := (HQ.out.keep hBc).nine)
  | (go_at_call 11; (with_reducible refine (HQE.out _ hBw).mono ?_); rintro e w34 ⟨rfl, hBx⟩; have hBc := below_up hBc hBx; have hBw := below_up hBw hBx; have hB16 := below_up hB16 hBx; have hB24 := below_up hB24 hBx; obtain ⟨q0, q1, q2, q3, q4, q5, q6, q7, q8⟩ := (HQ.out.keep hBc).nine)
  | (go_at_call 9; (with_reducible refine (HCE.out _ hBw).mono ?_); rintro e w39 ⟨rfl, hBx⟩; have hBc := below_up hBc hBx; have hBw := below_up hBw hBx; have hB16 := below_up hB16 hBx; have hB24 := below_up hB24 hBx; obtain ⟨q0, q1, q2, q3, q4, q5, q6, q7, q8⟩ := (HQ.out.keep hBc).nine)
  | fail)
 go_ret
 exact ⟨rfl, hBw⟩
theorem asks_b (c : Cnd) (l : List Ak.Srt) (sa : Option Addr) (sc : Nat) (fn mn : Int) (hsc : l.length ≤ sc) (hsm : sc ≤ 9223372036854775807) (a : Option Addr) (n ca : Nat) (x : Nat → Ph) (k : Int) (w : World) (hx : Phs w a n x) (hF : ∀ i, i < n → (x i).Fits) (hn : n ≤ 9223372036854775807) (hc : c.In w) (hG : c.Fits) (hmx : MxL w) (ht : Tx.Tab w) (hr : RowE Ak.eS w sa l) (h0 : Fd.lerr x n = 0) (hc0 : c.err ≠ 0) : Calls Tryz.prog 5 #[.slice a n ca, .agg #[.int .i64 c.op, .slice c.ka c.kn c.kc, .string c.text, .int .i64 c.low, .int .i64 c.high, .slice c.aa c.an c.ac, .slice sa l.length sc, .int .i64 fn, .int .i64 mn], .int .i64 k] w fun e w' => e = .returned (.bool true) ∧ Below w.heap.size w w' := by
 obtain ⟨W1, hW1, hQ, hz1, hBw⟩ := box w #[.int .i64 c.op, .slice c.ka c.kn c.kc, .string c.text, .int .i64 c.low, .int .i64 c.high, .slice c.aa c.an c.ac, .slice sa l.length sc, .int .i64 fn, .int .i64 mn] 33
 have HW1 := Lib.hid hW1
 have HLE := Lib.hid (fun W (hb : Below w.heap.size w W) => libraryError_is a n ca x W (hx.keep hb) hF hn)
 have HQE := Lib.hid (fun W (hb : Below w.heap.size w W) => questionError_is c l sa sc fn mn W (Cnd.In.keep hb hc) hG (hr.keep hb) hsc hsm)
 have HCE := Lib.hid (fun W (hb : Below w.heap.size w W) => condError_is c W (Cnd.In.keep hb hc) hG)
 have hBc := Below.refl W1.heap.size W1
 obtain ⟨q0, q1, q2, q3, q4, q5, q6, q7, q8⟩ := hQ.nine
 have HQ := Lib.hid hQ
 clear hW1 hz1 hQ
 have hqe : Ak.qErr c.err l fn mn = c.err := by unfold Ak.qErr; rw [if_neg hc0]
 have HA := Lib.hid (fun W (hb : Below w.heap.size w W) => askErrI_is c l sa sc fn mn hsc hsm a n ca x W (hx.keep hb) hF hn (Cnd.In.keep hb hc) hG (hr.keep hb) c.err (by rw [if_pos h0, hqe]) hc0)
 have HFA := Lib.hid (fun W (hb : Below w.heap.size w W) => facets_err a n ca x c k W (hx.keep hb) hF hn hG (Cnd.In.keep hb hc) c.err (by rw [if_pos h0, if_neg hc0]) hc0)
 rw [hqe] at HQE
 rw [h0] at HLE
 clear hx hF hc hG hmx ht hr h0
 obtain ⟨le, hle⟩ : ∃ le, c.err = le := ⟨_, rfl⟩
 rw [hle] at HQE HCE HA HFA hc0
 have h1 : (le == 0) = false := by simpa using hc0
 have h2 : (le != 0) = true := by simpa using hc0
 have h3 : decide (le = 0) = false := decide_eq_false hc0
 clear hle hqe
 go_enter Tryz.func5, Tryz.ntmps5
 go_upto_region 1 with fail
 rw [HW1.out]
 go_upto_region 2 with (go_at_call 14; (with_reducible refine (HA.out _ hBw).mono ?_); rintro e w16 ⟨rfl, hBx⟩; have hBc := below_up hBc hBx; have hBw := below_up hBw hBx; have hB16 := Below.refl w16.heap.size w16; obtain ⟨q0, q1, q2, q3, q4, q5, q6, q7, q8⟩ := (HQ.out.keep hBc).nine)
 go_upto_region 3 with (go_at_call 15; (with_reducible refine (HFA.out _ hBw).mono ?_); rintro e w24 ⟨rfl, hBx⟩; have hBc := below_up hBc hBx; have hBw := below_up hBw hBx; have hB16 := below_up hB16 hBx; have hB24 := Below.refl w24.heap.size w24; obtain ⟨q0, q1, q2, q3, q4, q5, q6, q7, q8⟩ := (HQ.out.keep hBc).nine)
 go_wp2_with (first
  | (go_at_call 16; (with_reducible refine (HLE.out _ hBw).mono ?_); rintro e w28 ⟨rfl, hBx⟩; have hBc := below_up hBc hBx; have hBw := below_up hBw hBx; have hB16 := below_up hB16 hBx; have hB24 := below_up hB24 hBx; obtain ⟨q0, q1, q2, q3, q4, q5, q6, q7, q8⟩ := (HQ.out.keep hBc).nine)
  | (go_at_call 11; (with_reducible refine (HQE.out _ hBw).mono ?_); rintro e w34 ⟨rfl, hBx⟩; have hBc := below_up hBc hBx; have hBw := below_up hBw hBx; have hB16 := below_up hB16 hBx; have hB24 := below_up hB24 hBx; obtain ⟨q0, q1, q2, q3, q4, q5, q6, q7, q8⟩ := (HQ.out.keep hBc).nine)
  | (go_at_call 9; (with_reducible refine (HCE.out _ hBw).mono ?_); rintro e w39 ⟨rfl, hBx⟩; have hBc := below_up hBc hBx; have hBw := below_up hBw hBx; have hB16 := below_up hB16 hBx; have hB24 := below_up hB24 hBx; obtain ⟨q0, q1, q2, q3, q4, q5, q6, q7, q8⟩ := (HQ.out.keep hBc).nine)
  | fail)
 go_ret
 exact ⟨rfl, hBw⟩
theorem asks_c (c : Cnd) (l : List Ak.Srt) (sa : Option Addr) (sc : Nat) (fn mn : Int) (hsc : l.length ≤ sc) (hsm : sc ≤ 9223372036854775807) (a : Option Addr) (n ca : Nat) (x : Nat → Ph) (k : Int) (w : World) (hx : Phs w a n x) (hF : ∀ i, i < n → (x i).Fits) (hn : n ≤ 9223372036854775807) (hc : c.In w) (hG : c.Fits) (hmx : MxL w) (ht : Tx.Tab w) (hr : RowE Ak.eS w sa l) (h0 : Fd.lerr x n = 0) (hc0 : c.err = 0) (hq0 : Ak.qErr c.err l fn mn ≠ 0) (hkb : ¬ (1 ≤ k ∧ k ≤ 4)) : Calls Tryz.prog 5 #[.slice a n ca, .agg #[.int .i64 c.op, .slice c.ka c.kn c.kc, .string c.text, .int .i64 c.low, .int .i64 c.high, .slice c.aa c.an c.ac, .slice sa l.length sc, .int .i64 fn, .int .i64 mn], .int .i64 k] w fun e w' => e = .returned (.bool true) ∧ Below w.heap.size w w' := by
 obtain ⟨W1, hW1, hQ, hz1, hBw⟩ := box w #[.int .i64 c.op, .slice c.ka c.kn c.kc, .string c.text, .int .i64 c.low, .int .i64 c.high, .slice c.aa c.an c.ac, .slice sa l.length sc, .int .i64 fn, .int .i64 mn] 33
 have HW1 := Lib.hid hW1
 have HLE := Lib.hid (fun W (hb : Below w.heap.size w W) => libraryError_is a n ca x W (hx.keep hb) hF hn)
 have HQE := Lib.hid (fun W (hb : Below w.heap.size w W) => questionError_is c l sa sc fn mn W (Cnd.In.keep hb hc) hG (hr.keep hb) hsc hsm)
 have HCE := Lib.hid (fun W (hb : Below w.heap.size w W) => condError_is c W (Cnd.In.keep hb hc) hG)
 have hBc := Below.refl W1.heap.size W1
 obtain ⟨q0, q1, q2, q3, q4, q5, q6, q7, q8⟩ := hQ.nine
 have HQ := Lib.hid hQ
 clear hW1 hz1 hQ
 have HA := Lib.hid (fun W (hb : Below w.heap.size w W) => askErrI_is c l sa sc fn mn hsc hsm a n ca x W (hx.keep hb) hF hn (Cnd.In.keep hb hc) hG (hr.keep hb) _ (if_pos h0) hq0)
 have HFA := Lib.hid (fun W (hb : Below w.heap.size w W) => facets_err a n ca x c k W (hx.keep hb) hF hn hG (Cnd.In.keep hb hc) 10 (by rw [if_pos h0, if_pos hc0, if_neg (by rw [decide_eq_false hkb]; decide)]) (by decide))
 rw [h0] at HLE
 clear hx hF hc hG hmx ht hr h0
 obtain ⟨le, hle⟩ : ∃ le, Ak.qErr c.err l fn mn = le := ⟨_, rfl⟩
 rw [hle] at HQE HA hq0
 rw [hc0] at HCE
 have h1 : (le == 0) = false := by simpa using hq0
 have h2 : (le != 0) = true := by simpa using hq0
 have h3 : decide (le = 0) = false := decide_eq_false hq0
 clear hle hc0
 rcases Classical.em (k < 1) with hk1 | hk1
 ·have hkd : decide (k < 1) = true := decide_eq_true hk1
  go_enter Tryz.func5, Tryz.ntmps5
  go_upto_region 1 with fail
  rw [HW1.out]
  go_upto_region 2 with (go_at_call 14; (with_reducible refine (HA.out _ hBw).mono ?_); rintro e w16 ⟨rfl, hBx⟩; have hBc := below_up hBc hBx; have hBw := below_up hBw hBx; have hB16 := Below.refl w16.heap.size w16; obtain ⟨q0, q1, q2, q3, q4, q5, q6, q7, q8⟩ := (HQ.out.keep hBc).nine)
  go_upto_region 3 with (go_at_call 15; (with_reducible refine (HFA.out _ hBw).mono ?_); rintro e w24 ⟨rfl, hBx⟩; have hBc := below_up hBc hBx; have hBw := below_up hBw hBx; have hB16 := below_up hB16 hBx; have hB24 := Below.refl w24.heap.size w24; obtain ⟨q0, q1, q2, q3, q4, q5, q6, q7, q8⟩ := (HQ.out.keep hBc).nine)
  go_wp2_with (first
   | (go_at_call 16; (with_reducible refine (HLE.out _ hBw).mono ?_); rintro e w28 ⟨rfl, hBx⟩; have hBc := below_up hBc hBx; have hBw := below_up hBw hBx; have hB16 := below_up hB16 hBx; have hB24 := below_up hB24 hBx; obtain ⟨q0, q1, q2, q3, q4, q5, q6, q7, q8⟩ := (HQ.out.keep hBc).nine)
   | (go_at_call 11; (with_reducible refine (HQE.out _ hBw).mono ?_); rintro e w34 ⟨rfl, hBx⟩; have hBc := below_up hBc hBx; have hBw := below_up hBw hBx; have hB16 := below_up hB16 hBx; have hB24 := below_up hB24 hBx; obtain ⟨q0, q1, q2, q3, q4, q5, q6, q7, q8⟩ := (HQ.out.keep hBc).nine)
   | (go_at_call 9; (with_reducible refine (HCE.out _ hBw).mono ?_); rintro e w39 ⟨rfl, hBx⟩; have hBc := below_up hBc hBx; have hBw := below_up hBw hBx; have hB16 := below_up hB16 hBx; have hB24 := below_up hB24 hBx; obtain ⟨q0, q1, q2, q3, q4, q5, q6, q7, q8⟩ := (HQ.out.keep hBc).nine)
   | fail)
  go_ret
  exact ⟨rfl, hBw⟩
 ·have hk2 : 4 < k := by
   rcases Classical.em (4 < k) with h | h
   ·exact h
   ·exact absurd ⟨by omega, by omega⟩ hkb
  have hkd2 : decide (k < 1) = false := decide_eq_false hk1
  have hkd3 : decide (4 < k) = true := decide_eq_true hk2
  go_enter Tryz.func5, Tryz.ntmps5
  go_upto_region 1 with fail
  rw [HW1.out]
  go_upto_region 2 with (go_at_call 14; (with_reducible refine (HA.out _ hBw).mono ?_); rintro e w16 ⟨rfl, hBx⟩; have hBc := below_up hBc hBx; have hBw := below_up hBw hBx; have hB16 := Below.refl w16.heap.size w16; obtain ⟨q0, q1, q2, q3, q4, q5, q6, q7, q8⟩ := (HQ.out.keep hBc).nine)
  go_upto_region 3 with (go_at_call 15; (with_reducible refine (HFA.out _ hBw).mono ?_); rintro e w24 ⟨rfl, hBx⟩; have hBc := below_up hBc hBx; have hBw := below_up hBw hBx; have hB16 := below_up hB16 hBx; have hB24 := Below.refl w24.heap.size w24; obtain ⟨q0, q1, q2, q3, q4, q5, q6, q7, q8⟩ := (HQ.out.keep hBc).nine)
  go_wp2_with (first
   | (go_at_call 16; (with_reducible refine (HLE.out _ hBw).mono ?_); rintro e w28 ⟨rfl, hBx⟩; have hBc := below_up hBc hBx; have hBw := below_up hBw hBx; have hB16 := below_up hB16 hBx; have hB24 := below_up hB24 hBx; obtain ⟨q0, q1, q2, q3, q4, q5, q6, q7, q8⟩ := (HQ.out.keep hBc).nine)
   | (go_at_call 11; (with_reducible refine (HQE.out _ hBw).mono ?_); rintro e w34 ⟨rfl, hBx⟩; have hBc := below_up hBc hBx; have hBw := below_up hBw hBx; have hB16 := below_up hB16 hBx; have hB24 := below_up hB24 hBx; obtain ⟨q0, q1, q2, q3, q4, q5, q6, q7, q8⟩ := (HQ.out.keep hBc).nine)
   | (go_at_call 9; (with_reducible refine (HCE.out _ hBw).mono ?_); rintro e w39 ⟨rfl, hBx⟩; have hBc := below_up hBc hBx; have hBw := below_up hBw hBx; have hB16 := below_up hB16 hBx; have hB24 := below_up hB24 hBx; obtain ⟨q0, q1, q2, q3, q4, q5, q6, q7, q8⟩ := (HQ.out.keep hBc).nine)
   | fail)
  go_ret
  exact ⟨rfl, hBw⟩
theorem asks_d (c : Cnd) (l : List Ak.Srt) (sa : Option Addr) (sc : Nat) (fn mn : Int) (hsc : l.length ≤ sc) (hsm : sc ≤ 9223372036854775807) (a : Option Addr) (n ca : Nat) (x : Nat → Ph) (k : Int) (w : World) (hx : Phs w a n x) (hF : ∀ i, i < n → (x i).Fits) (hn : n ≤ 9223372036854775807) (hc : c.In w) (hG : c.Fits) (hmx : MxL w) (ht : Tx.Tab w) (hr : RowE Ak.eS w sa l) (h0 : Fd.lerr x n = 0) (hc0 : c.err = 0) (hq0 : Ak.qErr c.err l fn mn ≠ 0) (hkb : 1 ≤ k ∧ k ≤ 4) : Calls Tryz.prog 5 #[.slice a n ca, .agg #[.int .i64 c.op, .slice c.ka c.kn c.kc, .string c.text, .int .i64 c.low, .int .i64 c.high, .slice c.aa c.an c.ac, .slice sa l.length sc, .int .i64 fn, .int .i64 mn], .int .i64 k] w fun e w' => e = .returned (.bool true) ∧ Below w.heap.size w w' := by
 obtain ⟨W1, hW1, hQ, hz1, hBw⟩ := box w #[.int .i64 c.op, .slice c.ka c.kn c.kc, .string c.text, .int .i64 c.low, .int .i64 c.high, .slice c.aa c.an c.ac, .slice sa l.length sc, .int .i64 fn, .int .i64 mn] 33
 have HW1 := Lib.hid hW1
 have HLE := Lib.hid (fun W (hb : Below w.heap.size w W) => libraryError_is a n ca x W (hx.keep hb) hF hn)
 have HQE := Lib.hid (fun W (hb : Below w.heap.size w W) => questionError_is c l sa sc fn mn W (Cnd.In.keep hb hc) hG (hr.keep hb) hsc hsm)
 have HCE := Lib.hid (fun W (hb : Below w.heap.size w W) => condError_is c W (Cnd.In.keep hb hc) hG)
 have hBc := Below.refl W1.heap.size W1
 obtain ⟨q0, q1, q2, q3, q4, q5, q6, q7, q8⟩ := hQ.nine
 have HQ := Lib.hid hQ
 clear hW1 hz1 hQ
 have HA := Lib.hid (fun W (hb : Below w.heap.size w W) => askErrI_is c l sa sc fn mn hsc hsm a n ca x W (hx.keep hb) hF hn (Cnd.In.keep hb hc) hG (hr.keep hb) _ (if_pos h0) hq0)
 have HFA := Lib.hid (fun W (hb : Below w.heap.size w W) => facets_ok a n ca x c k W (hx.keep hb) hF hn hG (Cnd.In.keep hb hc) (hmx.below hb) (Tx.tab_below ht hb) h0 hc0 hkb)
 have HFR := Lib.hid (fun W (hb : Below w.heap.size w W) => facetsR_ok a n ca x c k W (hx.keep hb) hF hG (Cnd.In.keep hb hc) (hmx.below hb) h0 hc0 hkb)
 have HANS := Lib.hid (fun (K : List Fa.It) (M : List Fa.Fc) (h1 : ∀ z, z ∈ K ↔ z ∈ Fa.all k (Fd.sel (fun p => c.holds p) x n)) (h2 : K.Pairwise (Fa.lt1 (Fa.all k (Fd.sel (fun p => c.holds p) x n)))) (h3 : Fa.Cn (Fa.nall k (Fd.sel (fun p => c.holds p) x n)) M) (h4 : M.Pairwise (Fa.lt2 (decide (k = 1)))) => (Fa.answers (t := decide (k = 1)) (fun z hz => by
  obtain ⟨p, hp, hz⟩ := List.mem_flatMap.1 hz
  obtain ⟨i, hi, rfl⟩ := Fd.sel_mem hp
  exact Fa.its_ok (Fa.good_of (Fd.lerr_each h0 i hi)) z hz) h1 h2 (fun s d => by have := h3.mem s d; rwa [Fa.nall_eq] at this) h4 : K.map (fun z => (Fa.nm (decide (k = 1)) z, Fa.cn z (Fa.all k (Fd.sel (fun p => c.holds p) x n)))) = M))
 have hfacn : ∀ M, Fa.Cn (Fa.nall k (Fd.sel (fun p => c.holds p) x n)) M → M.length ≤ 9223372036854775807 := fun M h => by
  have h1 := h.len
  have h2 : (Fa.nall k (Fd.sel (fun p => c.holds p) x n)).length ≤ (Fd.sel (fun p => c.holds p) x n).length * 20 := Fa.nall_few k _ (fun p hp => by
   obtain ⟨i, hi, rfl⟩ := Fd.sel_mem hp
   exact Fa.good_of (Fd.lerr_each h0 i hi))
  have h3 := Fd.sel_le (fun p => c.holds p) x n
  have h4 := Fd.lerr_few h0
  omega
 have HFN := Lib.hid hfacn
 clear hfacn
 rw [h0] at HLE
 clear hx hF hc hG hmx ht hr h0
 obtain ⟨le, hle⟩ : ∃ le, Ak.qErr c.err l fn mn = le := ⟨_, rfl⟩
 rw [hle] at HQE HA hq0
 rw [hc0] at HCE
 have h1 : (le == 0) = false := by simpa using hq0
 have h2 : (le != 0) = true := by simpa using hq0
 have h3 : decide (le = 0) = false := decide_eq_false hq0
 clear hle hc0
 have hk1 : ¬ k < 1 := by omega
 have hk2 : ¬ 4 < k := by omega
 have hkd2 : decide (k < 1) = false := decide_eq_false hk1
 have hkd3 : decide (4 < k) = false := decide_eq_false hk2
 go_enter Tryz.func5, Tryz.ntmps5
 go_upto_region 1 with fail
 rw [HW1.out]
 go_upto_region 2 with (go_at_call 14; (with_reducible refine (HA.out _ hBw).mono ?_); rintro e w16 ⟨rfl, hBx⟩; have hBc := below_up hBc hBx; have hBw := below_up hBw hBx; have hB16 := Below.refl w16.heap.size w16; obtain ⟨q0, q1, q2, q3, q4, q5, q6, q7, q8⟩ := (HQ.out.keep hBc).nine)
 go_upto_region 3 with (go_at_call 15; (with_reducible refine (HFA.out _ hBw).mono ?_); rintro e w24 ⟨a24, c24, K24, rfl, hm24, hs24, hr24, hBx⟩; have HM24 := Lib.hid (And.intro hm24 hs24); have HR24 := Lib.hid hr24; clear hm24 hs24 hr24; have hBc := below_up hBc hBx; have hBw := below_up hBw hBx; have hB16 := below_up hB16 hBx; have hB24 := Below.refl w24.heap.size w24; obtain ⟨q0, q1, q2, q3, q4, q5, q6, q7, q8⟩ := (HQ.out.keep hBc).nine)
 go_wp2_with (first
  | (go_at_call 16; (with_reducible refine (HLE.out _ hBw).mono ?_); rintro e w28 ⟨rfl, hBx⟩; have hBc := below_up hBc hBx; have hBw := below_up hBw hBx; have hB16 := below_up hB16 hBx; have hB24 := below_up hB24 hBx; obtain ⟨q0, q1, q2, q3, q4, q5, q6, q7, q8⟩ := (HQ.out.keep hBc).nine)
  | (go_at_call 11; (with_reducible refine (HQE.out _ hBw).mono ?_); rintro e w34 ⟨rfl, hBx⟩; have hBc := below_up hBc hBx; have hBw := below_up hBw hBx; have hB16 := below_up hB16 hBx; have hB24 := below_up hB24 hBx; obtain ⟨q0, q1, q2, q3, q4, q5, q6, q7, q8⟩ := (HQ.out.keep hBc).nine)
  | (go_at_call 9; (with_reducible refine (HCE.out _ hBw).mono ?_); rintro e w39 ⟨rfl, hBx⟩; have hBc := below_up hBc hBx; have hBw := below_up hBw hBx; have hB16 := below_up hB16 hBx; have hB24 := below_up hB24 hBx; obtain ⟨q0, q1, q2, q3, q4, q5, q6, q7, q8⟩ := (HQ.out.keep hBc).nine)
  | (go_at_call 20; (with_reducible refine (HFR.out _ hBw).mono ?_); rintro e w94 ⟨a94, c94, M94, rfl, hcn94, hs94, hr94, hBx⟩; have HEQ := Lib.hid (HANS.out K24 M94 HM24.out.1 HM24.out.2 hcn94 hs94); have HLN := Lib.hid (HFN.out M94 hcn94); have HR94 := Lib.hid hr94; clear hcn94 hs94 hr94; have hBc := below_up hBc hBx; have hBw := below_up hBw hBx; have hB16 := below_up hB16 hBx; have hB24 := below_up hB24 hBx; obtain ⟨q0, q1, q2, q3, q4, q5, q6, q7, q8⟩ := (HQ.out.keep hBc).nine; have HS94 : Hid (Calls Tryz.prog 19 #[.slice a24 K24.length c24, .slice a94 M94.length c94] w94 fun e w' => e = .returned (.bool true) ∧ Below w94.heap.size w94 w') := Lib.hid (by { have hr1 := HR24.out.keep hB24; rw [HEQ.out] at hr1; have hl : K24.length = M94.length := by { rw [← HEQ.out, List.length_map] }; rw [hl]; exact eqFac_same M94 a24 a94 c24 c94 w94 hr1 HR94.out HLN.out })) | (go_at_call 19; (with_reducible refine HS94.out.mono ?_); rintro e w95 ⟨rfl, hBx⟩; have hBc := below_up hBc hBx; have hBw := below_up hBw hBx; have hB16 := below_up hB16 hBx; have hB24 := below_up hB24 hBx; obtain ⟨q0, q1, q2, q3, q4, q5, q6, q7, q8⟩ := (HQ.out.keep hBc).nine))
 go_ret
 exact ⟨rfl, hBw⟩
theorem asks_e (c : Cnd) (l : List Ak.Srt) (sa : Option Addr) (sc : Nat) (fn mn : Int) (hsc : l.length ≤ sc) (hsm : sc ≤ 9223372036854775807) (a : Option Addr) (n ca : Nat) (x : Nat → Ph) (k : Int) (w : World) (hx : Phs w a n x) (hF : ∀ i, i < n → (x i).Fits) (hn : n ≤ 9223372036854775807) (hc : c.In w) (hG : c.Fits) (hmx : MxL w) (ht : Tx.Tab w) (hr : RowE Ak.eS w sa l) (h0 : Fd.lerr x n = 0) (hc0 : c.err = 0) (hq0 : Ak.qErr c.err l fn mn = 0) (hkb : ¬ (1 ≤ k ∧ k ≤ 4)) : Calls Tryz.prog 5 #[.slice a n ca, .agg #[.int .i64 c.op, .slice c.ka c.kn c.kc, .string c.text, .int .i64 c.low, .int .i64 c.high, .slice c.aa c.an c.ac, .slice sa l.length sc, .int .i64 fn, .int .i64 mn], .int .i64 k] w fun e w' => e = .returned (.bool true) ∧ Below w.heap.size w w' := by
 obtain ⟨_, _, _, hfr, hmr⟩ := Ak.qErr_0 hq0
 obtain ⟨fn, rfl⟩ := Int.eq_ofNat_of_zero_le (of_decide_eq_true hfr).1
 obtain ⟨mn, rfl⟩ := Int.eq_ofNat_of_zero_le (of_decide_eq_true hmr).1
 have hfm : fn ≤ 1000 ∧ mn ≤ 1000 := ⟨by have := (of_decide_eq_true hfr).2; omega, by have := (of_decide_eq_true hmr).2; omega⟩
 obtain ⟨_, hl5, hs0, _, _⟩ := Ak.qErr_0 hq0
 obtain ⟨W1, hW1, hQ, hz1, hBw⟩ := box w #[.int .i64 c.op, .slice c.ka c.kn c.kc, .string c.text, .int .i64 c.low, .int .i64 c.high, .slice c.aa c.an c.ac, .slice sa l.length sc, .int .i64 fn, .int .i64 mn] 33
 have HW1 := Lib.hid hW1
 have HLE := Lib.hid (fun W (hb : Below w.heap.size w W) => libraryError_is a n ca x W (hx.keep hb) hF hn)
 have HQE := Lib.hid (fun W (hb : Below w.heap.size w W) => questionError_is c l sa sc fn mn W (Cnd.In.keep hb hc) hG (hr.keep hb) hsc hsm)
 have HCE := Lib.hid (fun W (hb : Below w.heap.size w W) => condError_is c W (Cnd.In.keep hb hc) hG)
 have hBc := Below.refl W1.heap.size W1
 obtain ⟨q0, q1, q2, q3, q4, q5, q6, q7, q8⟩ := hQ.nine
 have HQ := Lib.hid hQ
 clear hW1 hz1 hQ
 have HFA := Lib.hid (fun W (hb : Below w.heap.size w W) => facets_err a n ca x c k W (hx.keep hb) hF hn hG (Cnd.In.keep hb hc) 10 (by rw [if_pos h0, if_pos hc0, if_neg (by rw [decide_eq_false hkb]; decide)]) (by decide))
 have HA := Lib.hid (fun W (hb : Below w.heap.size w W) => askOk_is c l sa sc fn mn hsc hsm a n ca x W (hx.keep hb) hF hn (Cnd.In.keep hb hc) hG (hmx.below hb) (hr.keep hb) h0 hq0)
 have HAI := Lib.hid (fun W (hb : Below w.heap.size w W) => askIn_is c l (Ak.srtE_by hs0) (by omega) sa sc fn mn hfm a n ca x W (hx.keep hb) hF h0 (Cnd.In.keep hb hc) hG (hmx.below hb) hc0 (hr.keep hb))
 have hsl := Nat.le_trans (Fd.sel_le (fun p => c.holds p) x n) (Fd.lerr_few h0)
 have HSL := Lib.hid hsl
 clear hsl
 rw [h0] at HLE
 clear hx hF hc hG hmx ht hr h0
 rw [hq0] at HQE
 rw [hc0] at HCE
 clear hq0 hc0 hfr hmr hs0
 rcases Classical.em (k < 1) with hk1 | hk1
 ·have hkd : decide (k < 1) = true := decide_eq_true hk1
  go_enter Tryz.func5, Tryz.ntmps5
  go_upto_region 1 with fail
  rw [HW1.out]
  go_upto_region 2 with (go_at_call 14; (with_reducible refine (HA.out _ hBw).mono ?_); rintro e w16 ⟨a16, c16, M16, rfl, hp16, hs16, hr16, hN16, hBx⟩; have HM16 := Lib.hid (And.intro hp16 hs16); have HR16 := Lib.hid hr16; obtain ⟨n16, hn16⟩ : ∃ n16, ((Ak.win fn mn M16).map Ph.id).length = n16 := ⟨_, rfl⟩; rw [hn16]; have HN16 := Lib.hid hn16; clear hp16 hs16 hr16 hN16 hn16; have hBc := below_up hBc hBx; have hBw := below_up hBw hBx; have hB16 := Below.refl w16.heap.size w16; obtain ⟨q0, q1, q2, q3, q4, q5, q6, q7, q8⟩ := (HQ.out.keep hBc).nine)
  go_upto_region 3 with (go_at_call 15; (with_reducible refine (HFA.out _ hBw).mono ?_); rintro e w24 ⟨rfl, hBx⟩; have hBc := below_up hBc hBx; have hBw := below_up hBw hBx; have hB16 := below_up hB16 hBx; have hB24 := Below.refl w24.heap.size w24; obtain ⟨q0, q1, q2, q3, q4, q5, q6, q7, q8⟩ := (HQ.out.keep hBc).nine)
  go_wp2_with (first
   | (go_at_call 16; (with_reducible refine (HLE.out _ hBw).mono ?_); rintro e w28 ⟨rfl, hBx⟩; have hBc := below_up hBc hBx; have hBw := below_up hBw hBx; have hB16 := below_up hB16 hBx; have hB24 := below_up hB24 hBx; obtain ⟨q0, q1, q2, q3, q4, q5, q6, q7, q8⟩ := (HQ.out.keep hBc).nine)
   | (go_at_call 11; (with_reducible refine (HQE.out _ hBw).mono ?_); rintro e w34 ⟨rfl, hBx⟩; have hBc := below_up hBc hBx; have hBw := below_up hBw hBx; have hB16 := below_up hB16 hBx; have hB24 := below_up hB24 hBx; obtain ⟨q0, q1, q2, q3, q4, q5, q6, q7, q8⟩ := (HQ.out.keep hBc).nine)
   | (go_at_call 9; (with_reducible refine (HCE.out _ hBw).mono ?_); rintro e w39 ⟨rfl, hBx⟩; have hBc := below_up hBc hBx; have hBw := below_up hBw hBx; have hB16 := below_up hB16 hBx; have hB24 := below_up hB24 hBx; obtain ⟨q0, q1, q2, q3, q4, q5, q6, q7, q8⟩ := (HQ.out.keep hBc).nine)
   | (go_at_call 18; (with_reducible refine (HAI.out _ hBw).mono ?_); rintro e w82 ⟨a82, c82, M82, rfl, hp82, hs82, hr82, hBx⟩; have HEM := Lib.hid (Stb.unique (Ak.lt_ord l) (HM16.out.1.trans hp82.symm) HM16.out.2 hs82); have HML := Lib.hid hp82.length_eq; have HR82 := Lib.hid hr82; obtain ⟨n82, hn82⟩ : ∃ n82, ((Ak.win fn mn M82).map Ph.id).length = n82 := ⟨_, rfl⟩; rw [hn82]; have HN82 := Lib.hid hn82; clear hp82 hs82 hr82 hn82; have hBc := below_up hBc hBx; have hBw := below_up hBw hBx; have hB16 := below_up hB16 hBx; have hB24 := below_up hB24 hBx; obtain ⟨q0, q1, q2, q3, q4, q5, q6, q7, q8⟩ := (HQ.out.keep hBc).nine; have HS82 : Hid (Calls Tryz.prog 17 #[.slice a16 n16 c16, .slice a82 n82 c82] w82 fun e w' => e = .returned (.bool true) ∧ Below w82.heap.size w82 w') := Lib.hid (by { have hr1 := HR16.out.keep hB16; have hl : ((Ak.win fn mn M82).map Ph.id).length ≤ 9223372036854775807 := by { rw [List.length_map]; have h1 := Ak.win_len fn mn M82; have h2 := HML.out; have h3 := HSL.out; omega }; have e16 := HEM.out; have e1 := HN16.out; have e2 := HN82.out; subst e16; subst e1; subst e2; have h := equal_ints a16 ((Ak.win fn mn M16).map Ph.id) c16 a82 ((Ak.win fn mn M16).map Ph.id) c82 w82 hr1 HR82.out hl hl; rwa [decide_eq_true rfl] at h })) | (go_at_call 17; (with_reducible refine HS82.out.mono ?_); rintro e w83 ⟨rfl, hBx⟩; have hBc := below_up hBc hBx; have hBw := below_up hBw hBx; have hB16 := below_up hB16 hBx; have hB24 := below_up hB24 hBx; obtain ⟨q0, q1, q2, q3, q4, q5, q6, q7, q8⟩ := (HQ.out.keep hBc).nine))
  go_ret
  exact ⟨rfl, hBw⟩
 ·have hk2 : 4 < k := by
   rcases Classical.em (4 < k) with h | h
   ·exact h
   ·exact absurd ⟨by omega, by omega⟩ hkb
  have hkd2 : decide (k < 1) = false := decide_eq_false hk1
  have hkd3 : decide (4 < k) = true := decide_eq_true hk2
  go_enter Tryz.func5, Tryz.ntmps5
  go_upto_region 1 with fail
  rw [HW1.out]
  go_upto_region 2 with (go_at_call 14; (with_reducible refine (HA.out _ hBw).mono ?_); rintro e w16 ⟨a16, c16, M16, rfl, hp16, hs16, hr16, hN16, hBx⟩; have HM16 := Lib.hid (And.intro hp16 hs16); have HR16 := Lib.hid hr16; obtain ⟨n16, hn16⟩ : ∃ n16, ((Ak.win fn mn M16).map Ph.id).length = n16 := ⟨_, rfl⟩; rw [hn16]; have HN16 := Lib.hid hn16; clear hp16 hs16 hr16 hN16 hn16; have hBc := below_up hBc hBx; have hBw := below_up hBw hBx; have hB16 := Below.refl w16.heap.size w16; obtain ⟨q0, q1, q2, q3, q4, q5, q6, q7, q8⟩ := (HQ.out.keep hBc).nine)
  go_upto_region 3 with (go_at_call 15; (with_reducible refine (HFA.out _ hBw).mono ?_); rintro e w24 ⟨rfl, hBx⟩; have hBc := below_up hBc hBx; have hBw := below_up hBw hBx; have hB16 := below_up hB16 hBx; have hB24 := Below.refl w24.heap.size w24; obtain ⟨q0, q1, q2, q3, q4, q5, q6, q7, q8⟩ := (HQ.out.keep hBc).nine)
  go_wp2_with (first
   | (go_at_call 16; (with_reducible refine (HLE.out _ hBw).mono ?_); rintro e w28 ⟨rfl, hBx⟩; have hBc := below_up hBc hBx; have hBw := below_up hBw hBx; have hB16 := below_up hB16 hBx; have hB24 := below_up hB24 hBx; obtain ⟨q0, q1, q2, q3, q4, q5, q6, q7, q8⟩ := (HQ.out.keep hBc).nine)
   | (go_at_call 11; (with_reducible refine (HQE.out _ hBw).mono ?_); rintro e w34 ⟨rfl, hBx⟩; have hBc := below_up hBc hBx; have hBw := below_up hBw hBx; have hB16 := below_up hB16 hBx; have hB24 := below_up hB24 hBx; obtain ⟨q0, q1, q2, q3, q4, q5, q6, q7, q8⟩ := (HQ.out.keep hBc).nine)
   | (go_at_call 9; (with_reducible refine (HCE.out _ hBw).mono ?_); rintro e w39 ⟨rfl, hBx⟩; have hBc := below_up hBc hBx; have hBw := below_up hBw hBx; have hB16 := below_up hB16 hBx; have hB24 := below_up hB24 hBx; obtain ⟨q0, q1, q2, q3, q4, q5, q6, q7, q8⟩ := (HQ.out.keep hBc).nine)
   | (go_at_call 18; (with_reducible refine (HAI.out _ hBw).mono ?_); rintro e w82 ⟨a82, c82, M82, rfl, hp82, hs82, hr82, hBx⟩; have HEM := Lib.hid (Stb.unique (Ak.lt_ord l) (HM16.out.1.trans hp82.symm) HM16.out.2 hs82); have HML := Lib.hid hp82.length_eq; have HR82 := Lib.hid hr82; obtain ⟨n82, hn82⟩ : ∃ n82, ((Ak.win fn mn M82).map Ph.id).length = n82 := ⟨_, rfl⟩; rw [hn82]; have HN82 := Lib.hid hn82; clear hp82 hs82 hr82 hn82; have hBc := below_up hBc hBx; have hBw := below_up hBw hBx; have hB16 := below_up hB16 hBx; have hB24 := below_up hB24 hBx; obtain ⟨q0, q1, q2, q3, q4, q5, q6, q7, q8⟩ := (HQ.out.keep hBc).nine; have HS82 : Hid (Calls Tryz.prog 17 #[.slice a16 n16 c16, .slice a82 n82 c82] w82 fun e w' => e = .returned (.bool true) ∧ Below w82.heap.size w82 w') := Lib.hid (by { have hr1 := HR16.out.keep hB16; have hl : ((Ak.win fn mn M82).map Ph.id).length ≤ 9223372036854775807 := by { rw [List.length_map]; have h1 := Ak.win_len fn mn M82; have h2 := HML.out; have h3 := HSL.out; omega }; have e16 := HEM.out; have e1 := HN16.out; have e2 := HN82.out; subst e16; subst e1; subst e2; have h := equal_ints a16 ((Ak.win fn mn M16).map Ph.id) c16 a82 ((Ak.win fn mn M16).map Ph.id) c82 w82 hr1 HR82.out hl hl; rwa [decide_eq_true rfl] at h })) | (go_at_call 17; (with_reducible refine HS82.out.mono ?_); rintro e w83 ⟨rfl, hBx⟩; have hBc := below_up hBc hBx; have hBw := below_up hBw hBx; have hB16 := below_up hB16 hBx; have hB24 := below_up hB24 hBx; obtain ⟨q0, q1, q2, q3, q4, q5, q6, q7, q8⟩ := (HQ.out.keep hBc).nine))
  go_ret
  exact ⟨rfl, hBw⟩
theorem asks_f (c : Cnd) (l : List Ak.Srt) (sa : Option Addr) (sc : Nat) (fn mn : Int) (hsc : l.length ≤ sc) (hsm : sc ≤ 9223372036854775807) (a : Option Addr) (n ca : Nat) (x : Nat → Ph) (k : Int) (w : World) (hx : Phs w a n x) (hF : ∀ i, i < n → (x i).Fits) (hn : n ≤ 9223372036854775807) (hc : c.In w) (hG : c.Fits) (hmx : MxL w) (ht : Tx.Tab w) (hr : RowE Ak.eS w sa l) (h0 : Fd.lerr x n = 0) (hc0 : c.err = 0) (hq0 : Ak.qErr c.err l fn mn = 0) (hkb : 1 ≤ k ∧ k ≤ 4) : Calls Tryz.prog 5 #[.slice a n ca, .agg #[.int .i64 c.op, .slice c.ka c.kn c.kc, .string c.text, .int .i64 c.low, .int .i64 c.high, .slice c.aa c.an c.ac, .slice sa l.length sc, .int .i64 fn, .int .i64 mn], .int .i64 k] w fun e w' => e = .returned (.bool true) ∧ Below w.heap.size w w' := by
 obtain ⟨_, _, _, hfr, hmr⟩ := Ak.qErr_0 hq0
 obtain ⟨fn, rfl⟩ := Int.eq_ofNat_of_zero_le (of_decide_eq_true hfr).1
 obtain ⟨mn, rfl⟩ := Int.eq_ofNat_of_zero_le (of_decide_eq_true hmr).1
 have hfm : fn ≤ 1000 ∧ mn ≤ 1000 := ⟨by have := (of_decide_eq_true hfr).2; omega, by have := (of_decide_eq_true hmr).2; omega⟩
 obtain ⟨_, hl5, hs0, _, _⟩ := Ak.qErr_0 hq0
 obtain ⟨W1, hW1, hQ, hz1, hBw⟩ := box w #[.int .i64 c.op, .slice c.ka c.kn c.kc, .string c.text, .int .i64 c.low, .int .i64 c.high, .slice c.aa c.an c.ac, .slice sa l.length sc, .int .i64 fn, .int .i64 mn] 33
 have HW1 := Lib.hid hW1
 have HLE := Lib.hid (fun W (hb : Below w.heap.size w W) => libraryError_is a n ca x W (hx.keep hb) hF hn)
 have HQE := Lib.hid (fun W (hb : Below w.heap.size w W) => questionError_is c l sa sc fn mn W (Cnd.In.keep hb hc) hG (hr.keep hb) hsc hsm)
 have HCE := Lib.hid (fun W (hb : Below w.heap.size w W) => condError_is c W (Cnd.In.keep hb hc) hG)
 have hBc := Below.refl W1.heap.size W1
 obtain ⟨q0, q1, q2, q3, q4, q5, q6, q7, q8⟩ := hQ.nine
 have HQ := Lib.hid hQ
 clear hW1 hz1 hQ
 have HFA := Lib.hid (fun W (hb : Below w.heap.size w W) => facets_ok a n ca x c k W (hx.keep hb) hF hn hG (Cnd.In.keep hb hc) (hmx.below hb) (Tx.tab_below ht hb) h0 hc0 hkb)
 have HFR := Lib.hid (fun W (hb : Below w.heap.size w W) => facetsR_ok a n ca x c k W (hx.keep hb) hF hG (Cnd.In.keep hb hc) (hmx.below hb) h0 hc0 hkb)
 have HA := Lib.hid (fun W (hb : Below w.heap.size w W) => askOk_is c l sa sc fn mn hsc hsm a n ca x W (hx.keep hb) hF hn (Cnd.In.keep hb hc) hG (hmx.below hb) (hr.keep hb) h0 hq0)
 have HAI := Lib.hid (fun W (hb : Below w.heap.size w W) => askIn_is c l (Ak.srtE_by hs0) (by omega) sa sc fn mn hfm a n ca x W (hx.keep hb) hF h0 (Cnd.In.keep hb hc) hG (hmx.below hb) hc0 (hr.keep hb))
 have hsl := Nat.le_trans (Fd.sel_le (fun p => c.holds p) x n) (Fd.lerr_few h0)
 have HSL := Lib.hid hsl
 clear hsl
 have HANS := Lib.hid (fun (K : List Fa.It) (M : List Fa.Fc) (h1 : ∀ z, z ∈ K ↔ z ∈ Fa.all k (Fd.sel (fun p => c.holds p) x n)) (h2 : K.Pairwise (Fa.lt1 (Fa.all k (Fd.sel (fun p => c.holds p) x n)))) (h3 : Fa.Cn (Fa.nall k (Fd.sel (fun p => c.holds p) x n)) M) (h4 : M.Pairwise (Fa.lt2 (decide (k = 1)))) => (Fa.answers (t := decide (k = 1)) (fun z hz => by
  obtain ⟨p, hp, hz⟩ := List.mem_flatMap.1 hz
  obtain ⟨i, hi, rfl⟩ := Fd.sel_mem hp
  exact Fa.its_ok (Fa.good_of (Fd.lerr_each h0 i hi)) z hz) h1 h2 (fun s d => by have := h3.mem s d; rwa [Fa.nall_eq] at this) h4 : K.map (fun z => (Fa.nm (decide (k = 1)) z, Fa.cn z (Fa.all k (Fd.sel (fun p => c.holds p) x n)))) = M))
 have hfacn : ∀ M, Fa.Cn (Fa.nall k (Fd.sel (fun p => c.holds p) x n)) M → M.length ≤ 9223372036854775807 := fun M h => by
  have h1 := h.len
  have h2 : (Fa.nall k (Fd.sel (fun p => c.holds p) x n)).length ≤ (Fd.sel (fun p => c.holds p) x n).length * 20 := Fa.nall_few k _ (fun p hp => by
   obtain ⟨i, hi, rfl⟩ := Fd.sel_mem hp
   exact Fa.good_of (Fd.lerr_each h0 i hi))
  have h3 := Fd.sel_le (fun p => c.holds p) x n
  have h4 := Fd.lerr_few h0
  omega
 have HFN := Lib.hid hfacn
 clear hfacn
 rw [h0] at HLE
 clear hx hF hc hG hmx ht hr h0
 rw [hq0] at HQE
 rw [hc0] at HCE
 clear hq0 hc0 hfr hmr hs0
 have hk1 : ¬ k < 1 := by omega
 have hk2 : ¬ 4 < k := by omega
 have hkd2 : decide (k < 1) = false := decide_eq_false hk1
 have hkd3 : decide (4 < k) = false := decide_eq_false hk2
 go_enter Tryz.func5, Tryz.ntmps5
 go_upto_region 1 with fail
 rw [HW1.out]
 go_upto_region 2 with (go_at_call 14; (with_reducible refine (HA.out _ hBw).mono ?_); rintro e w16 ⟨a16, c16, M16, rfl, hp16, hs16, hr16, hN16, hBx⟩; have HM16 := Lib.hid (And.intro hp16 hs16); have HR16 := Lib.hid hr16; obtain ⟨n16, hn16⟩ : ∃ n16, ((Ak.win fn mn M16).map Ph.id).length = n16 := ⟨_, rfl⟩; rw [hn16]; have HN16 := Lib.hid hn16; clear hp16 hs16 hr16 hN16 hn16; have hBc := below_up hBc hBx; have hBw := below_up hBw hBx; have hB16 := Below.refl w16.heap.size w16; obtain ⟨q0, q1, q2, q3, q4, q5, q6, q7, q8⟩ := (HQ.out.keep hBc).nine)
 go_upto_region 3 with (go_at_call 15; (with_reducible refine (HFA.out _ hBw).mono ?_); rintro e w24 ⟨a24, c24, K24, rfl, hm24, hs24, hr24, hBx⟩; have HM24 := Lib.hid (And.intro hm24 hs24); have HR24 := Lib.hid hr24; clear hm24 hs24 hr24; have hBc := below_up hBc hBx; have hBw := below_up hBw hBx; have hB16 := below_up hB16 hBx; have hB24 := Below.refl w24.heap.size w24; obtain ⟨q0, q1, q2, q3, q4, q5, q6, q7, q8⟩ := (HQ.out.keep hBc).nine)
 go_wp2_with (first
  | (go_at_call 16; (with_reducible refine (HLE.out _ hBw).mono ?_); rintro e w28 ⟨rfl, hBx⟩; have hBc := below_up hBc hBx; have hBw := below_up hBw hBx; have hB16 := below_up hB16 hBx; have hB24 := below_up hB24 hBx; obtain ⟨q0, q1, q2, q3, q4, q5, q6, q7, q8⟩ := (HQ.out.keep hBc).nine)
  | (go_at_call 11; (with_reducible refine (HQE.out _ hBw).mono ?_); rintro e w34 ⟨rfl, hBx⟩; have hBc := below_up hBc hBx; have hBw := below_up hBw hBx; have hB16 := below_up hB16 hBx; have hB24 := below_up hB24 hBx; obtain ⟨q0, q1, q2, q3, q4, q5, q6, q7, q8⟩ := (HQ.out.keep hBc).nine)
  | (go_at_call 9; (with_reducible refine (HCE.out _ hBw).mono ?_); rintro e w39 ⟨rfl, hBx⟩; have hBc := below_up hBc hBx; have hBw := below_up hBw hBx; have hB16 := below_up hB16 hBx; have hB24 := below_up hB24 hBx; obtain ⟨q0, q1, q2, q3, q4, q5, q6, q7, q8⟩ := (HQ.out.keep hBc).nine)
  | (go_at_call 18; (with_reducible refine (HAI.out _ hBw).mono ?_); rintro e w82 ⟨a82, c82, M82, rfl, hp82, hs82, hr82, hBx⟩; have HEM := Lib.hid (Stb.unique (Ak.lt_ord l) (HM16.out.1.trans hp82.symm) HM16.out.2 hs82); have HML := Lib.hid hp82.length_eq; have HR82 := Lib.hid hr82; obtain ⟨n82, hn82⟩ : ∃ n82, ((Ak.win fn mn M82).map Ph.id).length = n82 := ⟨_, rfl⟩; rw [hn82]; have HN82 := Lib.hid hn82; clear hp82 hs82 hr82 hn82; have hBc := below_up hBc hBx; have hBw := below_up hBw hBx; have hB16 := below_up hB16 hBx; have hB24 := below_up hB24 hBx; obtain ⟨q0, q1, q2, q3, q4, q5, q6, q7, q8⟩ := (HQ.out.keep hBc).nine; have HS82 : Hid (Calls Tryz.prog 17 #[.slice a16 n16 c16, .slice a82 n82 c82] w82 fun e w' => e = .returned (.bool true) ∧ Below w82.heap.size w82 w') := Lib.hid (by { have hr1 := HR16.out.keep hB16; have hl : ((Ak.win fn mn M82).map Ph.id).length ≤ 9223372036854775807 := by { rw [List.length_map]; have h1 := Ak.win_len fn mn M82; have h2 := HML.out; have h3 := HSL.out; omega }; have e16 := HEM.out; have e1 := HN16.out; have e2 := HN82.out; subst e16; subst e1; subst e2; have h := equal_ints a16 ((Ak.win fn mn M16).map Ph.id) c16 a82 ((Ak.win fn mn M16).map Ph.id) c82 w82 hr1 HR82.out hl hl; rwa [decide_eq_true rfl] at h })) | (go_at_call 17; (with_reducible refine HS82.out.mono ?_); rintro e w83 ⟨rfl, hBx⟩; have hBc := below_up hBc hBx; have hBw := below_up hBw hBx; have hB16 := below_up hB16 hBx; have hB24 := below_up hB24 hBx; obtain ⟨q0, q1, q2, q3, q4, q5, q6, q7, q8⟩ := (HQ.out.keep hBc).nine) | (go_at_call 20; (with_reducible refine (HFR.out _ hBw).mono ?_); rintro e w94 ⟨a94, c94, M94, rfl, hcn94, hs94, hr94, hBx⟩; have HEQ := Lib.hid (HANS.out K24 M94 HM24.out.1 HM24.out.2 hcn94 hs94); have HLN := Lib.hid (HFN.out M94 hcn94); have HR94 := Lib.hid hr94; clear hcn94 hs94 hr94; have hBc := below_up hBc hBx; have hBw := below_up hBw hBx; have hB16 := below_up hB16 hBx; have hB24 := below_up hB24 hBx; obtain ⟨q0, q1, q2, q3, q4, q5, q6, q7, q8⟩ := (HQ.out.keep hBc).nine; have HS94 : Hid (Calls Tryz.prog 19 #[.slice a24 K24.length c24, .slice a94 M94.length c94] w94 fun e w' => e = .returned (.bool true) ∧ Below w94.heap.size w94 w') := Lib.hid (by { have hr1 := HR24.out.keep hB24; rw [HEQ.out] at hr1; have hl : K24.length = M94.length := by { rw [← HEQ.out, List.length_map] }; rw [hl]; exact eqFac_same M94 a24 a94 c24 c94 w94 hr1 HR94.out HLN.out })) | (go_at_call 19; (with_reducible refine HS94.out.mono ?_); rintro e w95 ⟨rfl, hBx⟩; have hBc := below_up hBc hBx; have hBw := below_up hBw hBx; have hB16 := below_up hB16 hBx; have hB24 := below_up hB24 hBx; obtain ⟨q0, q1, q2, q3, q4, q5, q6, q7, q8⟩ := (HQ.out.keep hBc).nine))
 go_ret
 exact ⟨rfl, hBw⟩
theorem findAsks_walk (c : Cnd) (l : List Ak.Srt) (sa : Option Addr) (sc : Nat) (fn mn : Int) (hsc : l.length ≤ sc) (hsm : sc ≤ 9223372036854775807) (a : Option Addr) (n ca : Nat) (x : Nat → Ph) (k : Int) (w : World) (hx : Phs w a n x) (hF : ∀ i, i < n → (x i).Fits) (hn : n ≤ 9223372036854775807) (hc : c.In w) (hG : c.Fits) (hmx : MxL w) (ht : Tx.Tab w) (hr : RowE Ak.eS w sa l) : Calls Tryz.prog 5 #[.slice a n ca, .agg #[.int .i64 c.op, .slice c.ka c.kn c.kc, .string c.text, .int .i64 c.low, .int .i64 c.high, .slice c.aa c.an c.ac, .slice sa l.length sc, .int .i64 fn, .int .i64 mn], .int .i64 k] w fun e w' => e = .returned (.bool true) ∧ Below w.heap.size w w' := by
 by_cases h0 : Fd.lerr x n = 0
 ·by_cases hc0 : c.err = 0
  ·by_cases hq0 : Ak.qErr c.err l fn mn = 0
   ·by_cases hkb : 1 ≤ k ∧ k ≤ 4
    ·exact asks_f c l sa sc fn mn hsc hsm a n ca x k w hx hF hn hc hG hmx ht hr h0 hc0 hq0 hkb
    ·exact asks_e c l sa sc fn mn hsc hsm a n ca x k w hx hF hn hc hG hmx ht hr h0 hc0 hq0 hkb
   ·by_cases hkb : 1 ≤ k ∧ k ≤ 4
    ·exact asks_d c l sa sc fn mn hsc hsm a n ca x k w hx hF hn hc hG hmx ht hr h0 hc0 hq0 hkb
    ·exact asks_c c l sa sc fn mn hsc hsm a n ca x k w hx hF hn hc hG hmx ht hr h0 hc0 hq0 hkb
  ·exact asks_b c l sa sc fn mn hsc hsm a n ca x k w hx hF hn hc hG hmx ht hr h0 hc0
 ·exact asks_a c l sa sc fn mn hsc hsm a n ca x k w hx hF hn hc hG hmx ht hr h0
end Go.Proofs.YtimjmjmpaicdbaaGreatDoor
