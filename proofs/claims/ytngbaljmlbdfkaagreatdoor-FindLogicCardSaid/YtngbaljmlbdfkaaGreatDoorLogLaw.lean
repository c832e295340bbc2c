/- A condition of right conditions: its error is none or 'too large'. Plain. -/
import Derived.Test.YtngbaljmlbdfkaaGreatDoorHdMath
import Derived.Test.YtngbaljmlbdfkaaGreatDoorCndErr
import Derived.Test.YtngbaljmlbdfkaaGreatDoorHdCl
namespace Go.Proofs.YtngbaljmlbdfkaaGreatDoor
open Go.RowKit Go.Sort Go.Shelf
set_option linter.unusedVariables false
namespace Cnd
theorem errL_large : ∀ (l : List (Cnd × Nat)) (i : Nat), (∀ p ∈ l, p.1.bare = 0) → errL i l = 0 ∨ errL i l = 4
  | [], i, _ => .inl rfl
  | p :: l, i, h => by
    rw [errL]
    by_cases h0 : errAt i p = 0
    · rw [if_pos h0]; exact errL_large l (i + 1) fun q hq => h q (List.mem_cons_of_mem _ hq)
    · rw [if_neg h0]
      have hb := h p (List.mem_cons_self ..)
      unfold errAt at h0 ⊢
      split at h0
      · rename_i g; rw [if_pos g]; exact .inr rfl
      · exact absurd hb h0
theorem aheadK_bare {f : Nat → List (Cnd × Nat) → List (Cnd × Nat)} (k : Nat) (hf : ∀ i l, i < k → (∀ p ∈ l, p.1.bare = 0) → ∀ p ∈ f i l, p.1.bare = 0) : ∀ j, j ≤ k → ∀ l, (∀ p ∈ l, p.1.bare = 0) → ∀ p ∈ aheadK f j l, p.1.bare = 0
  | 0, _, l, h => h
  | j + 1, hj, l, h => hf j _ (by omega) (aheadK_bare k hf j (by omega) l h)
theorem ahead_bare : ∀ (c : Cnd), c.Good → ∀ (d : Nat) (l : List (Cnd × Nat)), (∀ p ∈ l, p.1.bare = 0) → ∀ p ∈ ahead c d l, p.1.bare = 0 := by
  refine Cnd.ind (fun h => h.elim) fun c hne ih hG d l hl => ?_
  by_cases h1 : 100 < l.length
  · rw [ahead_full hne h1]; exact hl
  · have hl2 : ∀ p ∈ l ++ [(c, d)], p.1.bare = 0 := by
      intro p hp
      rcases List.mem_append.1 hp with h | h
      · exact hl p h
      · rw [List.mem_singleton] at h; subst h; exact (bare_eq hne).trans hG.bare
    by_cases h2 : 12 < d
    · rw [ahead_deep hne (by omega) h2]; exact hl2
    · rw [ahead_eq hne (by omega) (by omega)]
      exact aheadK_bare c.kn (fun i l hi hl => ih i (hG.each i hi) (d + 1) l hl) c.kn (Nat.le_refl _) _ hl2
theorem err_good {c : Cnd} (h : c.Good) : c.err = 0 ∨ c.err = 4 := errL_large _ 0 (ahead_bare c h 0 [] fun p hp => by cases hp)
/-- A condition of conditions alone. -/
def of (op : Int) (ka : Option Addr) (kn : Nat) (kids : Nat → Cnd) : Cnd := .mk op ka kn kn kids ⟨#[]⟩ 0 0 none 0 0 (fun _ => 0) (fun _ => 0)
theorem of_good {op : Int} {ka : Option Addr} {kn : Nat} {kids : Nat → Cnd} (hop : (op = 3 ∧ kn = 1) ∨ (op = 1 ∧ kn = 2) ∨ (op = 2 ∧ kn = 2)) (h : ∀ i, i < kn → (kids i).Good) : (of op ka kn kids).Good := by
  refine ⟨⟨?_, ?_⟩, h⟩
  · rcases hop with ⟨rfl, rfl⟩ | ⟨rfl, rfl⟩ | ⟨rfl, rfl⟩ <;> decide +kernel
  · rcases hop with ⟨_, rfl⟩ | ⟨_, rfl⟩ | ⟨_, rfl⟩ <;> decide +kernel
theorem of_fits {op : Int} {ka : Option Addr} {kn : Nat} {kids : Nat → Cnd} (hk : kn ≤ 100) (h : ∀ i, i < kn → (kids i).Fits) : (of op ka kn kids).Fits :=
  ⟨by omega, by omega, by show (0 : Nat) ≤ _; omega, h⟩
theorem holds_not {p : Ph} {ka : Option Addr} {kids : Nat → Cnd} : (of 3 ka 1 kids).holds p = !(kids 0).holds p := rfl
theorem holds_all {p : Ph} {ka : Option Addr} {kids : Nat → Cnd} : (of 1 ka 2 kids).holds p = ((kids 0).holds p && (kids 1).holds p) := by
  show Hd.all (fun i => (kids i).holds p) 2 = _
  simp [Hd.all]
theorem holds_any {p : Ph} {ka : Option Addr} {kids : Nat → Cnd} : (of 2 ka 2 kids).holds p = ((kids 0).holds p || (kids 1).holds p) := by
  show Fd.hit (fun i => (kids i).holds p) 2 = _
  simp [Fd.hit]
/-- 'placed', as awakeFind writes it. -/
def plc : Cnd := .mk 13 none 0 0 (fun _ => .zero) ⟨#[]⟩ 0 0 none 0 0 (fun _ => 0) (fun _ => 0)
theorem plc_in (w : World) : plc.In w := ⟨fun h => absurd h (by omega), fun i h => absurd h (by omega), fun h => absurd h (by omega)⟩
theorem plc_fits : plc.Fits := ⟨by decide, by decide, by decide, fun i h => absurd h (by omega)⟩
theorem plc_err : plc.err = 0 := by
  have hG : plc.Good := ⟨⟨by decide +kernel, by decide⟩, fun i h => absurd h (by omega)⟩
  have h := Cnd.ahead_eq (c := plc) (by intro e; cases e) (d := 0) (l := []) (by simp) (by omega)
  unfold err
  rw [h]
  show errL 0 (aheadK _ 0 [(plc, 0)]) = 0
  rw [aheadK, errL]
  have h0 : errAt 0 (plc, 0) = 0 := (if_neg (by omega)).trans ((bare_eq (by intro e; cases e)).trans hG.bare)
  rw [if_pos h0]; rfl
end Cnd
end Go.Proofs.YtngbaljmlbdfkaaGreatDoor
namespace Go.Proofs.YtngbaljmlbdfkaaGreatDoor
open Go.RowKit Go.Sort Go.Shelf
set_option linter.unusedVariables false
theorem wordAt13 (s0 s1 s2 s3 s4 s5 s6 s7 s8 s9 s10 s11 s12 s13 s14 s15 s16 : ByteArray) (w : World) : (Instr.index 169 (.agg #[.string s0, .string s1, .string s2, .string s3, .string s4, .string s5, .string s6, .string s7, .string s8, .string s9, .string s10, .string s11, .string s12, .string s13, .string s14, .string s15, .string s16]) (.int .i64 13)).run Tryz.prog w = .ok (.string s13) w := by kernel_rfl
set_option maxRecDepth 100000 in
set_option maxHeartbeats 2000000 in
theorem opWord_13 (w : World) : Calls Tryz.prog 120 #[.int .i64 13] w fun e w' => e = .returned (.string ⟨#[112, 108, 97, 99, 101, 100]⟩) ∧ w = w' := by
  have hix := wordAt13
  go_enter Tryz.func120, Tryz.ntmps120
  go_wp2_with fail
  go_ret
  exact ⟨rfl, rfl⟩
set_option maxRecDepth 100000 in
set_option maxHeartbeats 2000000 in
theorem condText_placed (w : World) : Calls Tryz.prog 73 #[.agg #[.int .i64 13, .slice none 0 0, .string ⟨#[]⟩, .int .i64 0, .int .i64 0, .slice none 0 0]] w fun e w' => e = .returned (.tuple #[.string ⟨#[112, 108, 97, 99, 101, 100]⟩, .int .i64 0]) ∧ Below w.heap.size w w' := by
  obtain ⟨W1, hW1, hP, hz1, hB1⟩ := box w #[.int .i64 13, .slice none 0 0, .string ⟨#[]⟩, .int .i64 0, .int .i64 0, .slice none 0 0] 26
  have HW1 := Lib.hid hW1
  obtain ⟨l0, l1, l2, l3, l4, l5⟩ := hP.six
  clear hW1 hz1
  go_enter Tryz.func73, Tryz.ntmps73
  go_upto_region 1 with fail
  rw [HW1.out]
  go_wp2_with (go_at_call 120; (with_reducible refine (opWord_13 _).mono ?_); rintro e w4 ⟨rfl, rfl⟩)
  go_ret2
  exact ⟨rfl, hB1⟩
set_option maxRecDepth 100000 in
set_option maxHeartbeats 2000000 in
theorem condText_awake (w : World) : Calls Tryz.prog 43 #[.agg #[.int .i64 13, .slice none 0 0, .string ⟨#[]⟩, .int .i64 0, .int .i64 0, .slice none 0 0]] w fun e w' => e = .returned (.tuple #[.string ⟨#[112, 108, 97, 99, 101, 100]⟩, .int .i64 0]) ∧ Below w.heap.size w w' := by
  obtain ⟨W1, hW1, hP, hz1, hB1⟩ := box w #[.int .i64 13, .slice none 0 0, .string ⟨#[]⟩, .int .i64 0, .int .i64 0, .slice none 0 0] 26
  have HW1 := Lib.hid hW1
  obtain ⟨l0, l1, l2, l3, l4, l5⟩ := hP.six
  have HC : Hid (Calls Tryz.prog 20 #[.agg #[.int .i64 13, .slice none 0 0, .string ⟨#[]⟩, .int .i64 0, .int .i64 0, .slice none 0 0]] W1 fun e w' => e = .returned (.int .i64 0) ∧ Below W1.heap.size W1 w') := Lib.hid (by
    have h := checkCond_is Cnd.plc W1 (Cnd.plc_in _) Cnd.plc_fits
    rw [Cnd.plc_err] at h
    exact h)
  clear hW1 hz1
  go_enter Tryz.func43, Tryz.ntmps43
  go_upto_region 1 with fail
  rw [HW1.out]
  go_wp2_with (first
    | (go_at_call 20; (with_reducible refine HC.out.mono ?_); rintro e w4 ⟨rfl, hB4⟩; obtain ⟨l0, l1, l2, l3, l4, l5⟩ := (hP.keep hB4).six)
    | (go_at_call 73; (with_reducible refine (condText_placed _).mono ?_); rintro e w5 ⟨rfl, hB5⟩))
  go_ret2
  exact ⟨rfl, below_up hB1 (below_up hB4 hB5)⟩
set_option maxRecDepth 100000 in
set_option maxHeartbeats 2000000 in
theorem awakeFind_is (w : World) : Calls Tryz.prog 15 #[] w fun e w' => e = .returned (.bool true) ∧ Below w.heap.size w w' := by
  have HC := Lib.hid (condText_awake w)
  go_enter Tryz.func15, Tryz.ntmps15
  go_wp2_with (go_at_call 43; (with_reducible refine HC.out.mono ?_); rintro e w4 ⟨rfl, hB4⟩)
  go_ret
  exact ⟨rfl, hB4⟩
end Go.Proofs.YtngbaljmlbdfkaaGreatDoor
namespace Go.Proofs.YtngbaljmlbdfkaaGreatDoor
open Go.RowKit Go.Sort Go.Shelf
set_option linter.unusedVariables false
theorem holds_some (p : Ph) (c : Cnd) (hF : p.Fits) (hG : c.Fits) (w : World) (hI : p.In w) (hc : c.In w) (hmx : MxL w) :
    Calls Tryz.prog 16 #[.agg #[.int .i64 p.id, .string p.file, .int .i64 p.mom, .int .i64 p.zone, .slice p.wa p.wn p.wc, .int .i64 p.W, .int .i64 p.H, .int .i64 p.turn, .int .i64 p.stars, .slice p.ta p.tn p.tc, .string p.cap, .slice p.pa p.pn p.pc, .bool p.hid], .agg #[.int .i64 c.op, .slice c.ka c.kn c.kc, .string c.text, .int .i64 c.low, .int .i64 c.high, .slice c.aa c.an c.ac]] w fun e w' => ∃ (y : Bool) (q : Int), e = .returned (.tuple #[.bool y, .int .i64 q]) ∧ Below w.heap.size w w' := by
  by_cases h : Hd.err p.err c = 0
  · obtain ⟨h1, h2⟩ := Hd.err_0 h
    exact (holds_ok p c hF hG w hI hc hmx h1 h2).mono fun e w' ⟨he, hb⟩ => ⟨_, _, he, hb⟩
  · exact (holds_err p c hF hG w hI hc _ rfl h).mono fun e w' ⟨he, hb⟩ => ⟨_, _, he, hb⟩
set_option maxRecDepth 100000 in
set_option maxHeartbeats 4000000 in
theorem logic_a (p : Ph) (c d : Cnd) (w : World) (hI : p.In w) (hF : p.Fits) (hc : c.In w) (hG : c.Fits) (hd : d.In w) (hH : d.Fits) (hmx : MxL w) (e1 : Hd.err p.err c ≠ 0) :
    Calls Tryz.prog 4 #[.agg #[.int .i64 p.id, .string p.file, .int .i64 p.mom, .int .i64 p.zone, .slice p.wa p.wn p.wc, .int .i64 p.W, .int .i64 p.H, .int .i64 p.turn, .int .i64 p.stars, .slice p.ta p.tn p.tc, .string p.cap, .slice p.pa p.pn p.pc, .bool p.hid], .agg #[.int .i64 c.op, .slice c.ka c.kn c.kc, .string c.text, .int .i64 c.low, .int .i64 c.high, .slice c.aa c.an c.ac], .agg #[.int .i64 d.op, .slice d.ka d.kn d.kc, .string d.text, .int .i64 d.low, .int .i64 d.high, .slice d.aa d.an d.ac]] w fun e w' => e = .returned (.bool true) ∧ Below w.heap.size w w' := by
  obtain ⟨W1, hW1, hP, hz1, hB1⟩ := box w #[.int .i64 p.id, .string p.file, .int .i64 p.mom, .int .i64 p.zone, .slice p.wa p.wn p.wc, .int .i64 p.W, .int .i64 p.H, .int .i64 p.turn, .int .i64 p.stars, .slice p.ta p.tn p.tc, .string p.cap, .slice p.pa p.pn p.pc, .bool p.hid] 49
  obtain ⟨W2, hW2, hC, hz2, hB2⟩ := box W1 #[.int .i64 c.op, .slice c.ka c.kn c.kc, .string c.text, .int .i64 c.low, .int .i64 c.high, .slice c.aa c.an c.ac] 26
  obtain ⟨W3, hW3, hD, hz3, hB3⟩ := box W2 #[.int .i64 d.op, .slice d.ka d.kn d.kc, .string d.text, .int .i64 d.low, .int .i64 d.high, .slice d.aa d.an d.ac] 26
  have HW1 := Lib.hid hW1; have HW2 := Lib.hid hW2; have HW3 := Lib.hid hW3
  rw [hz1] at hC hz2
  rw [hz2] at hD
  have hB23 := below_up hB2 hB3
  have hB := below_up hB1 hB23
  have hP := hP.keep hB23
  have hC := hC.keep hB3
  have HPP := Lib.hid hP; have HCC := Lib.hid hC; have HDD := Lib.hid hD
  clear hW1 hW2 hW3 hz1 hz2 hz3
  have HA := Lib.hid (awakeFind_is W3)
  have H1 := Lib.hid (fun W (hb : Below w.heap.size w W) => holds_err p c hF hG W (hI.keep hb) (Cnd.In.keep hb hc) _ rfl e1)
  have H2 := Lib.hid (fun W (hb : Below w.heap.size w W) => holds_some p d hF hH W (hI.keep hb) (Cnd.In.keep hb hd) (hmx.below hb))
  clear hI hF hc hd hG hH
  generalize Hd.err p.err c = q at *
  have g1 : (q == 0) = false := by simpa using e1
  have k1 : (q != 0) = true := by simpa using e1
  go_enter Tryz.func4, Tryz.ntmps4
  go_upto_region 1 with fail
  rw [HW1.out, HW2.out, HW3.out]
  go_wp2_with (first
    | (go_at_call 15; (with_reducible refine HA.out.mono ?_); rintro e w4 ⟨rfl, hB4⟩; have hB4w := below_up hB hB4; obtain ⟨q0, q1, q2, q3, q4, q5, q6, q7, q8, q9, q10, q11, q12⟩ := (hP.keep hB4).photo; obtain ⟨l0, l1, l2, l3, l4, l5⟩ := (hC.keep hB4).six; obtain ⟨r0, r1, r2, r3, r4, r5⟩ := (hD.keep hB4).six))
  go_wp2_with (first
    | (go_at_call 16; (with_reducible refine (H1.out _ hB4w).mono ?_); rintro e w5 ⟨rfl, hB5⟩; have hB5w := below_up hB4w hB5; have hB45 := below_up hB4 hB5; obtain ⟨q0, q1, q2, q3, q4, q5, q6, q7, q8, q9, q10, q11, q12⟩ := (hP.keep hB45).photo; obtain ⟨l0, l1, l2, l3, l4, l5⟩ := (hC.keep hB45).six; obtain ⟨r0, r1, r2, r3, r4, r5⟩ := (hD.keep hB45).six)
    | (go_at_call 16; (with_reducible refine (H2.out _ hB5w).mono ?_); rintro e w6 ⟨y6, q6', rfl, hB6⟩; have hB6w := below_up hB5w hB6))
  go_ret
  exact ⟨rfl, hB6w⟩
set_option maxRecDepth 100000 in
set_option maxHeartbeats 4000000 in
theorem logic_b (p : Ph) (c d : Cnd) (w : World) (hI : p.In w) (hF : p.Fits) (hc : c.In w) (hG : c.Fits) (hd : d.In w) (hH : d.Fits) (hmx : MxL w) (e1 : Hd.err p.err c = 0) (e2 : Hd.err p.err d ≠ 0) :
    Calls Tryz.prog 4 #[.agg #[.int .i64 p.id, .string p.file, .int .i64 p.mom, .int .i64 p.zone, .slice p.wa p.wn p.wc, .int .i64 p.W, .int .i64 p.H, .int .i64 p.turn, .int .i64 p.stars, .slice p.ta p.tn p.tc, .string p.cap, .slice p.pa p.pn p.pc, .bool p.hid], .agg #[.int .i64 c.op, .slice c.ka c.kn c.kc, .string c.text, .int .i64 c.low, .int .i64 c.high, .slice c.aa c.an c.ac], .agg #[.int .i64 d.op, .slice d.ka d.kn d.kc, .string d.text, .int .i64 d.low, .int .i64 d.high, .slice d.aa d.an d.ac]] w fun e w' => e = .returned (.bool true) ∧ Below w.heap.size w w' := by
  obtain ⟨e3, e4⟩ := Hd.err_0 e1
  obtain ⟨W1, hW1, hP, hz1, hB1⟩ := box w #[.int .i64 p.id, .string p.file, .int .i64 p.mom, .int .i64 p.zone, .slice p.wa p.wn p.wc, .int .i64 p.W, .int .i64 p.H, .int .i64 p.turn, .int .i64 p.stars, .slice p.ta p.tn p.tc, .string p.cap, .slice p.pa p.pn p.pc, .bool p.hid] 49
  obtain ⟨W2, hW2, hC, hz2, hB2⟩ := box W1 #[.int .i64 c.op, .slice c.ka c.kn c.kc, .string c.text, .int .i64 c.low, .int .i64 c.high, .slice c.aa c.an c.ac] 26
  obtain ⟨W3, hW3, hD, hz3, hB3⟩ := box W2 #[.int .i64 d.op, .slice d.ka d.kn d.kc, .string d.text, .int .i64 d.low, .int .i64 d.high, .slice d.aa d.an d.ac] 26
  have HW1 := Lib.hid hW1; have HW2 := Lib.hid hW2; have HW3 := Lib.hid hW3
  rw [hz1] at hC hz2
  rw [hz2] at hD
  have hB23 := below_up hB2 hB3
  have hB := below_up hB1 hB23
  have hP := hP.keep hB23
  have hC := hC.keep hB3
  have HPP := Lib.hid hP; have HCC := Lib.hid hC; have HDD := Lib.hid hD
  clear hW1 hW2 hW3 hz1 hz2 hz3
  have HA := Lib.hid (awakeFind_is W3)
  have H1 := Lib.hid (fun W (hb : Below w.heap.size w W) => holds_ok p c hF hG W (hI.keep hb) (Cnd.In.keep hb hc) (hmx.below hb) e3 e4)
  have H2 := Lib.hid (fun W (hb : Below w.heap.size w W) => holds_err p d hF hH W (hI.keep hb) (Cnd.In.keep hb hd) _ rfl e2)
  clear hI hF hc hd hG hH e1 e3 e4
  generalize Hd.err p.err d = q at *
  generalize c.holds p = x at *
  have g1 : (q == 0) = false := by simpa using e2
  have k1 : (q != 0) = true := by simpa using e2
  go_enter Tryz.func4, Tryz.ntmps4
  go_upto_region 1 with fail
  rw [HW1.out, HW2.out, HW3.out]
  go_wp2_with (first
    | (go_at_call 15; (with_reducible refine HA.out.mono ?_); rintro e w4 ⟨rfl, hB4⟩; have hB4w := below_up hB hB4; obtain ⟨q0, q1, q2, q3, q4, q5, q6, q7, q8, q9, q10, q11, q12⟩ := (hP.keep hB4).photo; obtain ⟨l0, l1, l2, l3, l4, l5⟩ := (hC.keep hB4).six; obtain ⟨r0, r1, r2, r3, r4, r5⟩ := (hD.keep hB4).six))
  cases x
  · go_wp2_with (first
      | (go_at_call 16; (with_reducible refine (H1.out _ hB4w).mono ?_); rintro e w5 ⟨rfl, hB5⟩; have hB5w := below_up hB4w hB5; have hB45 := below_up hB4 hB5; obtain ⟨q0, q1, q2, q3, q4, q5, q6, q7, q8, q9, q10, q11, q12⟩ := (hP.keep hB45).photo; obtain ⟨l0, l1, l2, l3, l4, l5⟩ := (hC.keep hB45).six; obtain ⟨r0, r1, r2, r3, r4, r5⟩ := (hD.keep hB45).six)
      | (go_at_call 16; (with_reducible refine (H2.out _ hB5w).mono ?_); rintro e w6 ⟨rfl, hB6⟩; have hB6w := below_up hB5w hB6))
    go_ret
    exact ⟨rfl, hB6w⟩
  · go_wp2_with (first
      | (go_at_call 16; (with_reducible refine (H1.out _ hB4w).mono ?_); rintro e w5 ⟨rfl, hB5⟩; have hB5w := below_up hB4w hB5; have hB45 := below_up hB4 hB5; obtain ⟨q0, q1, q2, q3, q4, q5, q6, q7, q8, q9, q10, q11, q12⟩ := (hP.keep hB45).photo; obtain ⟨l0, l1, l2, l3, l4, l5⟩ := (hC.keep hB45).six; obtain ⟨r0, r1, r2, r3, r4, r5⟩ := (hD.keep hB45).six)
      | (go_at_call 16; (with_reducible refine (H2.out _ hB5w).mono ?_); rintro e w6 ⟨rfl, hB6⟩; have hB6w := below_up hB5w hB6))
    go_ret
    exact ⟨rfl, hB6w⟩
theorem Blk.seven {w : World} {b : Nat} {t : TypeId} {c0 c1 c2 c3 c4 c5 c6 : Value} (h : Blk w b #[c0, c1, c2, c3, c4, c5, c6] t) : w.cell? ⟨b, 0, none⟩ = some c0 ∧ w.cell? ⟨b, 1, none⟩ = some c1 ∧ w.cell? ⟨b, 2, none⟩ = some c2 ∧ w.cell? ⟨b, 3, none⟩ = some c3 ∧ w.cell? ⟨b, 4, none⟩ = some c4 ∧ w.cell? ⟨b, 5, none⟩ = some c5 ∧ w.cell? ⟨b, 6, none⟩ = some c6 := by
  simp only [h.cell]; exact ⟨rfl, rfl, rfl, rfl, rfl, rfl, rfl⟩
def Cnd.pair (c d : Cnd) (i : Nat) : Cnd := if i = 0 then c else d
/-- A condition of one, in memory. -/
theorem Cnd.one_in {w : World} {b : Nat} {c : Cnd} {t : TypeId} (h : Blk w b #[.int .i64 c.op, .slice c.ka c.kn c.kc, .string c.text, .int .i64 c.low, .int .i64 c.high, .slice c.aa c.an c.ac] t) (hc : c.In w) (op : Int) : (Cnd.of op (some ⟨b, 0, none⟩) 1 (fun _ => c)).In w := by
  refine ⟨fun _ => ⟨b, 0, rfl, h.lt, fun i hi j v hv => ?_⟩, fun i hi => hc, fun h => absurd h (by omega)⟩
  obtain rfl : i = 0 := by omega
  rw [hc.cells] at hv
  rw [Nat.zero_mul, Nat.add_zero, Nat.zero_add, h.cell]
  simpa using hv
theorem Cnd.two_in {w : World} {b : Nat} {c d : Cnd} {t : TypeId} (h : Blk w b #[.int .i64 c.op, .slice c.ka c.kn c.kc, .string c.text, .int .i64 c.low, .int .i64 c.high, .slice c.aa c.an c.ac, .int .i64 d.op, .slice d.ka d.kn d.kc, .string d.text, .int .i64 d.low, .int .i64 d.high, .slice d.aa d.an d.ac] t) (hc : c.In w) (hd : d.In w) (op : Int) : (Cnd.of op (some ⟨b, 0, none⟩) 2 (Cnd.pair c d)).In w := by
  refine ⟨fun _ => ⟨b, 0, rfl, h.lt, fun i hi j v hv => ?_⟩, fun i hi => ?_, fun h => absurd h (by omega)⟩
  · have hi2 : i = 0 ∨ i = 1 := by omega
    rw [Nat.zero_add, h.cell]
    rcases hi2 with rfl | rfl
    · rw [show Cnd.pair c d 0 = c from rfl, hc.cells] at hv
      have hj := (List.getElem?_eq_some_iff.1 hv).1
      simp at hj
      have : j = 0 ∨ j = 1 ∨ j = 2 ∨ j = 3 ∨ j = 4 ∨ j = 5 := by omega
      rcases this with rfl | rfl | rfl | rfl | rfl | rfl <;> simpa using hv
    · rw [show Cnd.pair c d 1 = d from rfl, hd.cells] at hv
      have hj := (List.getElem?_eq_some_iff.1 hv).1
      simp at hj
      have : j = 0 ∨ j = 1 ∨ j = 2 ∨ j = 3 ∨ j = 4 ∨ j = 5 := by omega
      rcases this with rfl | rfl | rfl | rfl | rfl | rfl <;> simpa using hv
  · unfold Cnd.pair; split
    · exact hc
    · exact hd
/-- What stands in the list of three. -/
def LogAt (w : World) (bs : Nat) (p : Ph) (j : Nat) : Prop :=
  ∃ (C : Cnd) (want : Bool), C.Good ∧ C.Fits ∧ C.In w ∧ C.holds p = want ∧
    w.cell? ⟨bs, j * 7, none⟩ = some (.int .i64 C.op) ∧ w.cell? ⟨bs, j * 7 + 1, none⟩ = some (.slice C.ka C.kn C.kc) ∧ w.cell? ⟨bs, j * 7 + 2, none⟩ = some (.string C.text) ∧ w.cell? ⟨bs, j * 7 + 3, none⟩ = some (.int .i64 C.low) ∧ w.cell? ⟨bs, j * 7 + 4, none⟩ = some (.int .i64 C.high) ∧ w.cell? ⟨bs, j * 7 + 5, none⟩ = some (.slice C.aa C.an C.ac) ∧ w.cell? ⟨bs, j * 7 + 6, none⟩ = some (.bool want)
theorem logAt_all {w : World} {bs b1 b2 b3 : Nat} {p : Ph} {c d : Cnd} {t t1 t2 t3 : TypeId} {u1 u2 u3 : Bool} (h : Blk w bs #[.int .i64 3, .slice (some ⟨b1, 0, none⟩) 1 1, .string ⟨#[]⟩, .int .i64 0, .int .i64 0, .slice none 0 0, .bool u1, .int .i64 1, .slice (some ⟨b2, 0, none⟩) 2 2, .string ⟨#[]⟩, .int .i64 0, .int .i64 0, .slice none 0 0, .bool u2, .int .i64 2, .slice (some ⟨b3, 0, none⟩) 2 2, .string ⟨#[]⟩, .int .i64 0, .int .i64 0, .slice none 0 0, .bool u3] t) (h1 : Blk w b1 #[.int .i64 c.op, .slice c.ka c.kn c.kc, .string c.text, .int .i64 c.low, .int .i64 c.high, .slice c.aa c.an c.ac] t1) (h2 : Blk w b2 #[.int .i64 c.op, .slice c.ka c.kn c.kc, .string c.text, .int .i64 c.low, .int .i64 c.high, .slice c.aa c.an c.ac, .int .i64 d.op, .slice d.ka d.kn d.kc, .string d.text, .int .i64 d.low, .int .i64 d.high, .slice d.aa d.an d.ac] t2) (h3 : Blk w b3 #[.int .i64 c.op, .slice c.ka c.kn c.kc, .string c.text, .int .i64 c.low, .int .i64 c.high, .slice c.aa c.an c.ac, .int .i64 d.op, .slice d.ka d.kn d.kc, .string d.text, .int .i64 d.low, .int .i64 d.high, .slice d.aa d.an d.ac] t3)
    (hc : c.In w) (hd : d.In w) (gc : c.Good) (gd : d.Good) (fc : c.Fits) (fd : d.Fits) (e1 : (!c.holds p) = u1) (e2 : (c.holds p && d.holds p) = u2) (e3 : (c.holds p || d.holds p) = u3) : ∀ j, j < 3 → LogAt w bs p j := by
  have hp : ∀ (Q : Cnd → Prop), Q c → Q d → ∀ i, i < 2 → Q (Cnd.pair c d i) := by
    intro Q a b i _; unfold Cnd.pair; split
    · exact a
    · exact b
  intro j hj
  have : j = 0 ∨ j = 1 ∨ j = 2 := by omega
  rcases this with rfl | rfl | rfl
  · refine ⟨Cnd.of 3 (some ⟨b1, 0, none⟩) 1 (fun _ => c), u1, Cnd.of_good (.inl ⟨rfl, rfl⟩) (fun _ _ => gc), Cnd.of_fits (by omega) (fun _ _ => fc), Cnd.one_in h1 hc 3, e1, ?_⟩
    simp only [h.cell]; exact ⟨rfl, rfl, rfl, rfl, rfl, rfl, rfl⟩
  · refine ⟨Cnd.of 1 (some ⟨b2, 0, none⟩) 2 (Cnd.pair c d), u2, Cnd.of_good (.inr (.inl ⟨rfl, rfl⟩)) (hp Cnd.Good gc gd), Cnd.of_fits (by omega) (hp Cnd.Fits fc fd), Cnd.two_in h2 hc hd 1, Cnd.holds_all.trans e2, ?_⟩
    simp only [h.cell]; exact ⟨rfl, rfl, rfl, rfl, rfl, rfl, rfl⟩
  · refine ⟨Cnd.of 2 (some ⟨b3, 0, none⟩) 2 (Cnd.pair c d), u3, Cnd.of_good (.inr (.inr ⟨rfl, rfl⟩)) (hp Cnd.Good gc gd), Cnd.of_fits (by omega) (hp Cnd.Fits fc fd), Cnd.two_in h3 hc hd 2, Cnd.holds_any.trans e3, ?_⟩
    simp only [h.cell]; exact ⟨rfl, rfl, rfl, rfl, rfl, rfl, rfl⟩
set_option maxRecDepth 100000 in
set_option maxHeartbeats 8000000 in
theorem logic_c (p : Ph) (c d : Cnd) (w : World) (hI : p.In w) (hF : p.Fits) (hc : c.In w) (hG : c.Fits) (hd : d.In w) (hH : d.Fits) (hmx : MxL w) (e1 : Hd.err p.err c = 0) (e2 : Hd.err p.err d = 0) :
    Calls Tryz.prog 4 #[.agg #[.int .i64 p.id, .string p.file, .int .i64 p.mom, .int .i64 p.zone, .slice p.wa p.wn p.wc, .int .i64 p.W, .int .i64 p.H, .int .i64 p.turn, .int .i64 p.stars, .slice p.ta p.tn p.tc, .string p.cap, .slice p.pa p.pn p.pc, .bool p.hid], .agg #[.int .i64 c.op, .slice c.ka c.kn c.kc, .string c.text, .int .i64 c.low, .int .i64 c.high, .slice c.aa c.an c.ac], .agg #[.int .i64 d.op, .slice d.ka d.kn d.kc, .string d.text, .int .i64 d.low, .int .i64 d.high, .slice d.aa d.an d.ac]] w fun e w' => e = .returned (.bool true) ∧ Below w.heap.size w w' := by
  obtain ⟨e3, e4⟩ := Hd.err_0 e1
  obtain ⟨_, e5⟩ := Hd.err_0 e2
  obtain ⟨W1, hW1, hP, hz1, hB1⟩ := box w #[.int .i64 p.id, .string p.file, .int .i64 p.mom, .int .i64 p.zone, .slice p.wa p.wn p.wc, .int .i64 p.W, .int .i64 p.H, .int .i64 p.turn, .int .i64 p.stars, .slice p.ta p.tn p.tc, .string p.cap, .slice p.pa p.pn p.pc, .bool p.hid] 49
  obtain ⟨W2, hW2, hC, hz2, hB2⟩ := box W1 #[.int .i64 c.op, .slice c.ka c.kn c.kc, .string c.text, .int .i64 c.low, .int .i64 c.high, .slice c.aa c.an c.ac] 26
  obtain ⟨W3, hW3, hD, hz3, hB3⟩ := box W2 #[.int .i64 d.op, .slice d.ka d.kn d.kc, .string d.text, .int .i64 d.low, .int .i64 d.high, .slice d.aa d.an d.ac] 26
  have HW1 := Lib.hid hW1; have HW2 := Lib.hid hW2; have HW3 := Lib.hid hW3
  rw [hz1] at hC hz2
  rw [hz2] at hD
  have hB23 := below_up hB2 hB3
  have hB := below_up hB1 hB23
  have hP := hP.keep hB23
  have hC := hC.keep hB3
  have HPP := Lib.hid hP; have HCC := Lib.hid hC; have HDD := Lib.hid hD
  clear hW1 hW2 hW3 hz1 hz2 hz3
  have HA := Lib.hid (awakeFind_is W3)
  have H1 := Lib.hid (fun W (hb : Below w.heap.size w W) => holds_ok p c hF hG W (hI.keep hb) (Cnd.In.keep hb hc) (hmx.below hb) e3 e4)
  have H2 := Lib.hid (fun W (hb : Below w.heap.size w W) => holds_ok p d hF hH W (hI.keep hb) (Cnd.In.keep hb hd) (hmx.below hb) e3 e5)
  have HIC := Lib.hid hc; have HID := Lib.hid hd; have HGC := Lib.hid (Cnd.good_of hc e4); have HGD := Lib.hid (Cnd.good_of hd e5)
  have HFC := Lib.hid hG; have HFD := Lib.hid hH; have HFP := Lib.hid hF; have HIP := Lib.hid hI; have HMX := Lib.hid hmx; have HPE := Lib.hid e3
  obtain ⟨x, hx⟩ : ∃ x, c.holds p = x := ⟨_, rfl⟩
  obtain ⟨y, hy⟩ : ∃ y, d.holds p = y := ⟨_, rfl⟩
  rw [hx] at H1
  rw [hy] at H2
  have HU1 : Hid ((!c.holds p) = (!x)) := Lib.hid (by rw [hx])
  have HU2 : Hid ((c.holds p && d.holds p) = (x && y)) := Lib.hid (by rw [hx, hy])
  have HU3 : Hid ((c.holds p || d.holds p) = (x || y)) := Lib.hid (by rw [hx, hy])
  clear hI hF hc hd hG hH e1 e2 e3 e4 e5 hx hy hmx
  go_enter Tryz.func4, Tryz.ntmps4
  go_upto_region 1 with fail
  rw [HW1.out, HW2.out, HW3.out]
  go_wp2_with (first
    | (go_at_call 15; (with_reducible refine HA.out.mono ?_); rintro e w4 ⟨rfl, hB4⟩; have hB4w := below_up hB hB4; obtain ⟨q0, q1, q2, q3, q4, q5, q6, q7, q8, q9, q10, q11, q12⟩ := (hP.keep hB4).photo; obtain ⟨l0, l1, l2, l3, l4, l5⟩ := (hC.keep hB4).six; obtain ⟨r0, r1, r2, r3, r4, r5⟩ := (hD.keep hB4).six))
  cases x
  · have HU1 : Hid ((!c.holds p) = true) := HU1
    have HU2 : Hid ((c.holds p && d.holds p) = false) := HU2
    have HU3 : Hid ((c.holds p || d.holds p) = y) := HU3
    -- true false y: what is wanted; 53: the slice's type
    go_upto_region 7 with (first
      | (go_at_call 16; (with_reducible refine (H1.out _ hB4w).mono ?_); rintro e w5 ⟨rfl, hB5⟩; have hB5w := below_up hB4w hB5; have hB45 := below_up hB4 hB5; obtain ⟨q0, q1, q2, q3, q4, q5, q6, q7, q8, q9, q10, q11, q12⟩ := (hP.keep hB45).photo; obtain ⟨l0, l1, l2, l3, l4, l5⟩ := (hC.keep hB45).six; obtain ⟨r0, r1, r2, r3, r4, r5⟩ := (hD.keep hB45).six)
      | (go_at_call 16; (with_reducible refine (H2.out _ hB5w).mono ?_); rintro e w6 ⟨rfl, hB6⟩; have hB6w := below_up hB5w hB6; have hB46 := below_up hB45 hB6; obtain ⟨q0, q1, q2, q3, q4, q5, q6, q7, q8, q9, q10, q11, q12⟩ := (hP.keep hB46).photo; obtain ⟨l0, l1, l2, l3, l4, l5⟩ := (hC.keep hB46).six; obtain ⟨r0, r1, r2, r3, r4, r5⟩ := (hD.keep hB46).six))
    obtain ⟨X1, hX1, hY1, hy1, hA1⟩ := box w6 #[.int .i64 c.op, .slice c.ka c.kn c.kc, .string c.text, .int .i64 c.low, .int .i64 c.high, .slice c.aa c.an c.ac] 26
    obtain ⟨X2, hX2, hY2, hy2, hA2⟩ := box X1 #[.int .i64 c.op, .slice c.ka c.kn c.kc, .string c.text, .int .i64 c.low, .int .i64 c.high, .slice c.aa c.an c.ac, .int .i64 d.op, .slice d.ka d.kn d.kc, .string d.text, .int .i64 d.low, .int .i64 d.high, .slice d.aa d.an d.ac] 26
    obtain ⟨X3, hX3, hY3, hy3, hA3⟩ := box X2 #[.int .i64 c.op, .slice c.ka c.kn c.kc, .string c.text, .int .i64 c.low, .int .i64 c.high, .slice c.aa c.an c.ac, .int .i64 d.op, .slice d.ka d.kn d.kc, .string d.text, .int .i64 d.low, .int .i64 d.high, .slice d.aa d.an d.ac] 26
    rw [hy1] at hY2 hy2
    rw [hy2] at hY3 hy3
    obtain ⟨X4, hX4, hY4, hy4, hA4⟩ := box X3 #[.int .i64 3, .slice (some ⟨w6.heap.size, 0, none⟩) 1 1, .string ⟨#[]⟩, .int .i64 0, .int .i64 0, .slice none 0 0, .bool true, .int .i64 1, .slice (some ⟨(w6.heap.size + 1), 0, none⟩) 2 2, .string ⟨#[]⟩, .int .i64 0, .int .i64 0, .slice none 0 0, .bool false, .int .i64 2, .slice (some ⟨(w6.heap.size + 1 + 1), 0, none⟩) 2 2, .string ⟨#[]⟩, .int .i64 0, .int .i64 0, .slice none 0 0, .bool y] 53
    rw [hy3] at hY4
    have hA34 := below_up hA3 hA4
    have hA24 := below_up hA2 hA34
    have hA14 := below_up hA1 hA24
    have hX4w := below_up hB6w hA14
    have hX4B := below_up hB46 hA14
    have HAT := Lib.hid (logAt_all hY4 (hY1.keep hA24) (hY2.keep hA34) (hY3.keep hA4) (Cnd.In.keep hX4w HIC.out) (Cnd.In.keep hX4w HID.out) HGC.out HGD.out HFC.out HFD.out HU1.out HU2.out HU3.out)
    have HX1 := Lib.hid hX1; have HX2 := Lib.hid hX2; have HX3 := Lib.hid hX3; have HX4 := Lib.hid hX4
    have HX4W := Lib.hid hX4w; have HX4B := Lib.hid hX4B
    have hbs : w6.heap.size + 1 + 1 + 1 < X4.heap.size := hY4.lt
    have HBS := Lib.hid hbs
    have hs6 := (hD.keep hB46).lt
    have ha00 : w.heap.size < w6.heap.size := by omega
    have ha01 : w.heap.size < w6.heap.size + 1 := by omega
    have ha02 : w.heap.size < w6.heap.size + 1 + 1 := by omega
    have ha03 : w.heap.size < w6.heap.size + 1 + 1 + 1 := by omega
    have ha10 : w.heap.size + 1 < w6.heap.size := by omega
    have ha11 : w.heap.size + 1 < w6.heap.size + 1 := by omega
    have ha12 : w.heap.size + 1 < w6.heap.size + 1 + 1 := by omega
    have ha13 : w.heap.size + 1 < w6.heap.size + 1 + 1 + 1 := by omega
    have ha20 : w.heap.size + 1 + 1 < w6.heap.size := by omega
    have ha21 : w.heap.size + 1 + 1 < w6.heap.size + 1 := by omega
    have ha22 : w.heap.size + 1 + 1 < w6.heap.size + 1 + 1 := by omega
    have ha23 : w.heap.size + 1 + 1 < w6.heap.size + 1 + 1 + 1 := by omega
    clear hX1 hX2 hX3 hX4 hs6 hY1 hY2 hY3 hY4 hy1 hy2 hy3 hy4 hA1 hA2 hA3 hA4 hA34 hA24 hA14 hX4w hX4B hbs
    go_wp2_with fail
    rw [HX1.out, HX2.out, HX3.out, HX4.out]
    go_loopg [67] 3 (fun gk i wr => ∃ j : Nat, j ≤ 3 ∧ gk = 3 - j ∧ i = .int .i64 j ∧ Below X4.heap.size X4 wr)
    case atStart => exact ⟨0, by omega, rfl, rfl, Below.refl _ _⟩
    case round =>
      obtain ⟨j, hj, rfl, rfl, hBr⟩ := hrel
      have hBrw := below_up HX4W.out hBr
      by_cases hlt : j < 3
      · obtain ⟨C, want, gC, fC, iC, eC, c0, c1, c2, c3, c4, c5, c6⟩ := HAT.out j hlt
        rw [← hBr.cell HBS.out] at c0 c1 c2 c3 c4 c5 c6
        obtain ⟨Z1, hZ1, hZ, hz1, hBZ⟩ := box wr #[.int .i64 C.op, .slice C.ka C.kn C.kc, .string C.text, .int .i64 C.low, .int .i64 C.high, .slice C.aa C.an C.ac, .bool want] 53
        have HZ1 := Lib.hid hZ1
        have hBZ4 := below_up hBr hBZ
        have hBZw := below_up HX4W.out hBZ4
        clear q0 q1 q2 q3 q4 q5 q6 q7 q8 q9 q10 q11 q12 l0 l1 l2 l3 l4 l5 r0 r1 r2 r3 r4 r5
        obtain ⟨q0, q1, q2, q3, q4, q5, q6, q7, q8, q9, q10, q11, q12⟩ := (HPP.out.keep (below_up HX4B.out hBZ4)).photo
        obtain ⟨z0, z1, z2, z3, z4, z5, z6⟩ := hZ.seven
        have hlt3 : (j : Int) < 3 := by omega
        rcases Cnd.err_good gC with e4 | e4
        · have HH := Lib.hid (holds_ok p C HFP.out fC Z1 (HIP.out.keep hBZw) (Cnd.In.keep hBZ4 iC) (HMX.out.below hBZw) HPE.out e4)
          rw [eC] at HH
          clear hZ1 hz1 e4 eC iC gC fC
          go_upto_region 10 with fail
          rw [HZ1.out]
          go_wp2_with (go_at_call 16; (with_reducible refine HH.out.mono ?_); rintro e w9 ⟨rfl, hB9⟩; have z6 := (hZ.keep hB9).seven.2.2.2.2.2.2)
          go_roundg (3 - (j + 1))
          case rel => exact ⟨j + 1, by omega, rfl, by go_num, below_up hBZ4 hB9⟩
          case measure => omega
        · have HH := Lib.hid (holds_err p C HFP.out fC Z1 (HIP.out.keep hBZw) (Cnd.In.keep hBZ4 iC) 4 (by rw [Hd.err_yes HPE.out]; exact e4) (by decide))
          clear hZ1 hz1 e4 eC iC gC fC
          go_upto_region 10 with fail
          rw [HZ1.out]
          go_wp2_with (go_at_call 16; (with_reducible refine HH.out.mono ?_); rintro e w9 ⟨rfl, hB9⟩)
          go_roundg (3 - (j + 1))
          case rel => exact ⟨j + 1, by omega, rfl, by go_num, below_up hBZ4 hB9⟩
          case measure => omega
      · obtain rfl : j = 3 := by omega
        go_wp2_with fail
        go_ret
        exact ⟨rfl, hBrw⟩
  · have HU1 : Hid ((!c.holds p) = false) := HU1
    have HU2 : Hid ((c.holds p && d.holds p) = y) := HU2
    have HU3 : Hid ((c.holds p || d.holds p) = true) := HU3
    -- false y true: what is wanted; 53: the slice's type
    go_upto_region 7 with (first
      | (go_at_call 16; (with_reducible refine (H1.out _ hB4w).mono ?_); rintro e w5 ⟨rfl, hB5⟩; have hB5w := below_up hB4w hB5; have hB45 := below_up hB4 hB5; obtain ⟨q0, q1, q2, q3, q4, q5, q6, q7, q8, q9, q10, q11, q12⟩ := (hP.keep hB45).photo; obtain ⟨l0, l1, l2, l3, l4, l5⟩ := (hC.keep hB45).six; obtain ⟨r0, r1, r2, r3, r4, r5⟩ := (hD.keep hB45).six)
      | (go_at_call 16; (with_reducible refine (H2.out _ hB5w).mono ?_); rintro e w6 ⟨rfl, hB6⟩; have hB6w := below_up hB5w hB6; have hB46 := below_up hB45 hB6; obtain ⟨q0, q1, q2, q3, q4, q5, q6, q7, q8, q9, q10, q11, q12⟩ := (hP.keep hB46).photo; obtain ⟨l0, l1, l2, l3, l4, l5⟩ := (hC.keep hB46).six; obtain ⟨r0, r1, r2, r3, r4, r5⟩ := (hD.keep hB46).six))
    obtain ⟨X1, hX1, hY1, hy1, hA1⟩ := box w6 #[.int .i64 c.op, .slice c.ka c.kn c.kc, .string c.text, .int .i64 c.low, .int .i64 c.high, .slice c.aa c.an c.ac] 26
    obtain ⟨X2, hX2, hY2, hy2, hA2⟩ := box X1 #[.int .i64 c.op, .slice c.ka c.kn c.kc, .string c.text, .int .i64 c.low, .int .i64 c.high, .slice c.aa c.an c.ac, .int .i64 d.op, .slice d.ka d.kn d.kc, .string d.text, .int .i64 d.low, .int .i64 d.high, .slice d.aa d.an d.ac] 26
    obtain ⟨X3, hX3, hY3, hy3, hA3⟩ := box X2 #[.int .i64 c.op, .slice c.ka c.kn c.kc, .string c.text, .int .i64 c.low, .int .i64 c.high, .slice c.aa c.an c.ac, .int .i64 d.op, .slice d.ka d.kn d.kc, .string d.text, .int .i64 d.low, .int .i64 d.high, .slice d.aa d.an d.ac] 26
    rw [hy1] at hY2 hy2
    rw [hy2] at hY3 hy3
    obtain ⟨X4, hX4, hY4, hy4, hA4⟩ := box X3 #[.int .i64 3, .slice (some ⟨w6.heap.size, 0, none⟩) 1 1, .string ⟨#[]⟩, .int .i64 0, .int .i64 0, .slice none 0 0, .bool false, .int .i64 1, .slice (some ⟨(w6.heap.size + 1), 0, none⟩) 2 2, .string ⟨#[]⟩, .int .i64 0, .int .i64 0, .slice none 0 0, .bool y, .int .i64 2, .slice (some ⟨(w6.heap.size + 1 + 1), 0, none⟩) 2 2, .string ⟨#[]⟩, .int .i64 0, .int .i64 0, .slice none 0 0, .bool true] 53
    rw [hy3] at hY4
    have hA34 := below_up hA3 hA4
    have hA24 := below_up hA2 hA34
    have hA14 := below_up hA1 hA24
    have hX4w := below_up hB6w hA14
    have hX4B := below_up hB46 hA14
    have HAT := Lib.hid (logAt_all hY4 (hY1.keep hA24) (hY2.keep hA34) (hY3.keep hA4) (Cnd.In.keep hX4w HIC.out) (Cnd.In.keep hX4w HID.out) HGC.out HGD.out HFC.out HFD.out HU1.out HU2.out HU3.out)
    have HX1 := Lib.hid hX1; have HX2 := Lib.hid hX2; have HX3 := Lib.hid hX3; have HX4 := Lib.hid hX4
    have HX4W := Lib.hid hX4w; have HX4B := Lib.hid hX4B
    have hbs : w6.heap.size + 1 + 1 + 1 < X4.heap.size := hY4.lt
    have HBS := Lib.hid hbs
    have hs6 := (hD.keep hB46).lt
    have ha00 : w.heap.size < w6.heap.size := by omega
    have ha01 : w.heap.size < w6.heap.size + 1 := by omega
    have ha02 : w.heap.size < w6.heap.size + 1 + 1 := by omega
    have ha03 : w.heap.size < w6.heap.size + 1 + 1 + 1 := by omega
    have ha10 : w.heap.size + 1 < w6.heap.size := by omega
    have ha11 : w.heap.size + 1 < w6.heap.size + 1 := by omega
    have ha12 : w.heap.size + 1 < w6.heap.size + 1 + 1 := by omega
    have ha13 : w.heap.size + 1 < w6.heap.size + 1 + 1 + 1 := by omega
    have ha20 : w.heap.size + 1 + 1 < w6.heap.size := by omega
    have ha21 : w.heap.size + 1 + 1 < w6.heap.size + 1 := by omega
    have ha22 : w.heap.size + 1 + 1 < w6.heap.size + 1 + 1 := by omega
    have ha23 : w.heap.size + 1 + 1 < w6.heap.size + 1 + 1 + 1 := by omega
    clear hX1 hX2 hX3 hX4 hs6 hY1 hY2 hY3 hY4 hy1 hy2 hy3 hy4 hA1 hA2 hA3 hA4 hA34 hA24 hA14 hX4w hX4B hbs
    go_wp2_with fail
    rw [HX1.out, HX2.out, HX3.out, HX4.out]
    go_loopg [67] 3 (fun gk i wr => ∃ j : Nat, j ≤ 3 ∧ gk = 3 - j ∧ i = .int .i64 j ∧ Below X4.heap.size X4 wr)
    case atStart => exact ⟨0, by omega, rfl, rfl, Below.refl _ _⟩
    case round =>
      obtain ⟨j, hj, rfl, rfl, hBr⟩ := hrel
      have hBrw := below_up HX4W.out hBr
      by_cases hlt : j < 3
      · obtain ⟨C, want, gC, fC, iC, eC, c0, c1, c2, c3, c4, c5, c6⟩ := HAT.out j hlt
        rw [← hBr.cell HBS.out] at c0 c1 c2 c3 c4 c5 c6
        obtain ⟨Z1, hZ1, hZ, hz1, hBZ⟩ := box wr #[.int .i64 C.op, .slice C.ka C.kn C.kc, .string C.text, .int .i64 C.low, .int .i64 C.high, .slice C.aa C.an C.ac, .bool want] 53
        have HZ1 := Lib.hid hZ1
        have hBZ4 := below_up hBr hBZ
        have hBZw := below_up HX4W.out hBZ4
        clear q0 q1 q2 q3 q4 q5 q6 q7 q8 q9 q10 q11 q12 l0 l1 l2 l3 l4 l5 r0 r1 r2 r3 r4 r5
        obtain ⟨q0, q1, q2, q3, q4, q5, q6, q7, q8, q9, q10, q11, q12⟩ := (HPP.out.keep (below_up HX4B.out hBZ4)).photo
        obtain ⟨z0, z1, z2, z3, z4, z5, z6⟩ := hZ.seven
        have hlt3 : (j : Int) < 3 := by omega
        rcases Cnd.err_good gC with e4 | e4
        · have HH := Lib.hid (holds_ok p C HFP.out fC Z1 (HIP.out.keep hBZw) (Cnd.In.keep hBZ4 iC) (HMX.out.below hBZw) HPE.out e4)
          rw [eC] at HH
          clear hZ1 hz1 e4 eC iC gC fC
          go_upto_region 10 with fail
          rw [HZ1.out]
          go_wp2_with (go_at_call 16; (with_reducible refine HH.out.mono ?_); rintro e w9 ⟨rfl, hB9⟩; have z6 := (hZ.keep hB9).seven.2.2.2.2.2.2)
          go_roundg (3 - (j + 1))
          case rel => exact ⟨j + 1, by omega, rfl, by go_num, below_up hBZ4 hB9⟩
          case measure => omega
        · have HH := Lib.hid (holds_err p C HFP.out fC Z1 (HIP.out.keep hBZw) (Cnd.In.keep hBZ4 iC) 4 (by rw [Hd.err_yes HPE.out]; exact e4) (by decide))
          clear hZ1 hz1 e4 eC iC gC fC
          go_upto_region 10 with fail
          rw [HZ1.out]
          go_wp2_with (go_at_call 16; (with_reducible refine HH.out.mono ?_); rintro e w9 ⟨rfl, hB9⟩)
          go_roundg (3 - (j + 1))
          case rel => exact ⟨j + 1, by omega, rfl, by go_num, below_up hBZ4 hB9⟩
          case measure => omega
      · obtain rfl : j = 3 := by omega
        go_wp2_with fail
        go_ret
        exact ⟨rfl, hBrw⟩
theorem findLogic_walk (p : Ph) (c d : Cnd) (w : World) (hI : p.In w) (hF : p.Fits) (hc : c.In w) (hG : c.Fits) (hd : d.In w) (hH : d.Fits) (hmx : MxL w) :
    Calls Tryz.prog 4 #[.agg #[.int .i64 p.id, .string p.file, .int .i64 p.mom, .int .i64 p.zone, .slice p.wa p.wn p.wc, .int .i64 p.W, .int .i64 p.H, .int .i64 p.turn, .int .i64 p.stars, .slice p.ta p.tn p.tc, .string p.cap, .slice p.pa p.pn p.pc, .bool p.hid], .agg #[.int .i64 c.op, .slice c.ka c.kn c.kc, .string c.text, .int .i64 c.low, .int .i64 c.high, .slice c.aa c.an c.ac], .agg #[.int .i64 d.op, .slice d.ka d.kn d.kc, .string d.text, .int .i64 d.low, .int .i64 d.high, .slice d.aa d.an d.ac]] w fun e w' => e = .returned (.bool true) ∧ Below w.heap.size w w' := by
  by_cases e1 : Hd.err p.err c = 0
  · by_cases e2 : Hd.err p.err d = 0
    · exact logic_c p c d w hI hF hc hG hd hH hmx e1 e2
    · exact logic_b p c d w hI hF hc hG hd hH hmx e1 e2
  · exact logic_a p c d w hI hF hc hG hd hH hmx e1
end Go.Proofs.YtngbaljmlbdfkaaGreatDoor
