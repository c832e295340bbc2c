/- Parts of the proof, no condition: ZoneMath, FdSmall, HdMath, Secs, TxRef, RsMath, IdsOf, CntIs, HdCl. -/
import Derived.Test.YtimjmjmpaicdbaaGreatDoorPc20
import Derived.Lib.IndexMore
import Derived.Laws.IdiomStrings
import Derived.Lib.QuietBelow
import Derived.Deep.Cut
import Derived.Deep.RegionHeld3
set_option maxRecDepth 100000
set_option maxHeartbeats 2000000
set_option linter.unusedVariables false
namespace Go.Proofs.YtimjmjmpaicdbaaGreatDoor.Zn
structure Right (f : Int) (F O : Nat → Int) (n : Nat) : Prop where
 few : n ≤ 200
 first : -840 ≤ f ∧ f ≤ 840
 mom : ∀ i, i < n → (0 ≤ F i ∧ F i ≤ 6311433599) ∧ (-840 ≤ O i ∧ O i ≤ 840)
 up : ∀ i, i + 1 < n → F i < F (i + 1)
end Go.Proofs.YtimjmjmpaicdbaaGreatDoor.Zn
namespace Go.Proofs.YtimjmjmpaicdbaaGreatDoor
open Go.RowKit Go.Sort Go.Shelf
theorem localP_is (p : Ph) (w : World) (hm : 0 ≤ p.mom ∧ p.mom ≤ 6311433599) (hz : -840 ≤ p.zone ∧ p.zone ≤ 840) : Calls Tryz.prog 84 #[.agg #[.int .i64 p.id, .string p.file, .int .i64 p.mom, .int .i64 p.zone, .slice p.wa p.wn p.wc, .int .i64 p.W, .int .i64 p.H, .int .i64 p.turn, .int .i64 p.stars, .slice p.ta p.tn p.tc, .string p.cap, .slice p.pa p.pn p.pc, .bool p.hid]] w fun e w' => e = .returned (.int .i64 (p.mom + 60 * p.zone)) ∧ Below w.heap.size w w' := by
 obtain ⟨W1, hW1, hP, hz1, hB1⟩ := bxP w p
 have HW1 := Lib.hid hW1
 clear hW1 hz1
 obtain ⟨q0, q1, q2, q3, q4, q5, q6, q7, q8, q9, q10, q11, q12⟩ := hP.photo
 go_enter Tryz.func84, Tryz.ntmps84
 go_wp2_with fail
 rw [HW1.out]
 go_wp2_with fail
 go_ret
 exact ⟨rfl, hB1⟩
namespace Hd
theorem dist_is (a o a' o' : Int) : ∃ e : Int, ∀ w : World, Calls Tryz.prog 137 #[.agg #[.int .i64 a, .int .i64 o], .agg #[.int .i64 a', .int .i64 o']] w fun r w' => r = .returned (.tuple #[.int .i64 (dist a o a' o'), .int .i64 e]) ∧ Below w.heap.size w w' :=
 Classical.choose_spec (distW_is a o a' o')
theorem all_no {f : Nat → Bool} {n j : Nat} (hj : j < n) (h : f j = false) : all f n = false := by
 induction n with
 | zero => omega
 | succ n ih =>
   unfold all
   by_cases e : j = n
   ·subst e; rw [h]; simp
   ·rw [ih (by omega)]; rfl
theorem all_yes {f : Nat → Bool} {n : Nat} (h : ∀ j, j < n → f j = true) : all f n = true := by
 induction n with
 | zero => rfl
 | succ n ih => unfold all; rw [ih (fun j hj => h j (by omega)), h n (by omega)]; rfl
end Hd
structure Ph.Right (p : Ph) : Prop where
 fits : p.Fits
 shape : (1 ≤ p.W ∧ p.W ≤ 100000) ∧ (1 ≤ p.H ∧ p.H ≤ 100000) ∧ (1 ≤ p.turn ∧ p.turn ≤ 8)
 time : (-1 ≤ p.mom ∧ p.mom ≤ 6311433599) ∧ (-840 ≤ p.zone ∧ p.zone ≤ 840)
 cap : p.cap.size ≤ 200




theorem higher_is (p : Ph) (hp : p.Right) (w : World) : Calls Tryz.prog 130 #[.agg #[.int .i64 p.id, .string p.file, .int .i64 p.mom, .int .i64 p.zone, .slice p.wa p.wn p.wc, .int .i64 p.W, .int .i64 p.H, .int .i64 p.turn, .int .i64 p.stars, .slice p.ta p.tn p.tc, .string p.cap, .slice p.pa p.pn p.pc, .bool p.hid]] w fun e w' => e = .returned (.int .i64 (Hd.tall p)) ∧ Below w.heap.size w w' := by
 obtain ⟨⟨a1, a2⟩, ⟨b1, b2⟩, c1, c2⟩ := hp.shape
 obtain ⟨W1, hW1, hP, hz1, hB1⟩ := bxP w p
 have HW1 := Lib.hid hW1
 clear hW1 hz1
 obtain ⟨q0, q1, q2, q3, q4, q5, q6, q7, q8, q9, q10, q11, q12⟩ := hP.photo
 unfold Hd.tall
 by_cases h : 4 < p.turn
 ·rw [if_pos h]
  have h5 : 5 ≤ p.turn := by omega
  have e1 : IntKind.i64.wrap (p.W - p.H) = p.W - p.H := by rw [IntKind.wrap_i64]; omega
  go_enter Tryz.func130, Tryz.ntmps130
  go_wp2_with fail
  rw [HW1.out]
  go_wp2_with fail
  go_ret
  exact ⟨rfl, hB1⟩
 ·rw [if_neg h]
  have h5 : ¬ 5 ≤ p.turn := by omega
  have e1 : IntKind.i64.wrap (p.H - p.W) = p.H - p.W := by rw [IntKind.wrap_i64]; omega
  go_enter Tryz.func130, Tryz.ntmps130
  go_wp2_with fail
  rw [HW1.out]
  go_wp2_with fail
  go_ret
  exact ⟨rfl, hB1⟩
theorem inBox_is (a o : Int) (x : Option Addr) (n ca : Nat) (lat lon : Nat → Int) (w : World) (hr : Row2 w x n (fun i => .int .i64 (lat i)) (fun i => .int .i64 (lon i))) (hn : n = 2) :
  Calls Tryz.prog 139 #[.agg #[.int .i64 a, .int .i64 o], .slice x n ca] w fun e w' => e = .returned (.bool (Hd.box a o (lat 0) (lon 0) (lat 1) (lon 1))) ∧ Below w.heap.size w w' := by
 subst hn
 obtain ⟨W1, hW1, hP, hz1, hB1⟩ := box w #[.int .i64 a, .int .i64 o] 112
 have HW1 := Lib.hid hW1
 obtain ⟨b, off, rfl, hb, hc⟩ := (hr.keep hB1) (by omega)
 have x0 := (hc 0 (by omega)).1; have x1 := (hc 0 (by omega)).2; have x2 := (hc 1 (by omega)).1; have x3 := (hc 1 (by omega)).2
 simp only [Nat.zero_mul, Nat.one_mul, Nat.add_zero] at x0 x1 x2 x3
 generalize lat 0 = a0 at *; generalize lon 0 = o0 at *; generalize lat 1 = a1 at *; generalize lon 1 = o1 at *
 obtain ⟨p0, p1⟩ := hP.two
 clear hW1 hz1 hr hc
 have k0 := cell_regrown x0; have k1 := cell_regrown x1; have k2 := cell_regrown x2; have k3 := cell_regrown x3; have m0 := cell_regrown p0; have m1 := cell_regrown p1
 unfold Hd.box
 cases h1 : decide (a0 ≤ a ∧ a ≤ a1)
 ·rw [if_neg (of_decide_eq_false h1)]
  have HO := Lib.hid (fun dd os => Calls.regrown_of ((outsideF_is a a0 a1 false h1 (grow (redrawn W1 dd) os)).mono fun e w' h => ⟨h.1, h.2 ▸ Below.refl _ _⟩))
  clear h1
  go_enter Tryz.func139, Tryz.ntmps139
  go_wp2_with fail
  rw [HW1.out]
  refine wp_region_quiet_below (by kernel_rfl) (by kernel_rfl) ?_
  repeat (go_big_quiet_step ((go_at_call 32; with_reducible exact HO.out _ _)))
  refine wpQuiet_nil ?_
  intro _ hw'
  obtain ⟨⟨dq, osq⟩, hw''⟩ := hw'
  subst hw''
  have hBy3 := below_regrown W1 dq osq
  generalize grow (redrawn W1 dq) osq = y3 at *
  clear dq osq
  go_wp2_with fail
  go_ret
  exact ⟨rfl, below_up hB1 hBy3⟩
 ·rw [if_pos (of_decide_eq_true h1)]
  have HO := Lib.hid (fun dd os => Calls.regrown_of ((outsideF_is a a0 a1 true h1 (grow (redrawn W1 dd) os)).mono fun e w' h => ⟨h.1, h.2 ▸ Below.refl _ _⟩))
  clear h1
  by_cases h2 : o0 ≤ o1
  ·rw [if_pos h2]
   have HP := Lib.hid (fun V => outsideF_is o o0 o1 (decide (o0 ≤ o ∧ o ≤ o1)) rfl V)
   go_enter Tryz.func139, Tryz.ntmps139
   go_wp2_with fail
   rw [HW1.out]
   refine wp_region_quiet_below (by kernel_rfl) (by kernel_rfl) ?_
   repeat (go_big_quiet_step ((go_at_call 32; with_reducible exact HO.out _ _)))
   refine wpQuiet_nil ?_
   intro _ hw'
   obtain ⟨⟨dq, osq⟩, hw''⟩ := hw'
   subst hw''
   have hBy3 := below_regrown W1 dq osq
   generalize grow (redrawn W1 dq) osq = y3 at *
   clear dq osq
   have hP := hP.keep hBy3
   have x0' := (hBy3.cell (p := ⟨b, off, none⟩) hb).trans x0; have x1' := (hBy3.cell (p := ⟨b, off + 1, none⟩) hb).trans x1; have x2' := (hBy3.cell (p := ⟨b, off + 2, none⟩) hb).trans x2; have x3' := (hBy3.cell (p := ⟨b, off + 2 + 1, none⟩) hb).trans x3
   obtain ⟨p0', p1'⟩ := hP.two
   have hb' := Nat.lt_of_lt_of_le hb hBy3.size
   clear k0 k1 k2 k3 m0 m1 x0 x1 x2 x3 p0 p1
   have k0 := cell_regrown x0'; have k1 := cell_regrown x1'; have k2 := cell_regrown x2'; have k3 := cell_regrown x3'
   go_wp2_with fail
   refine wp_region_quiet_below (by kernel_rfl) (by kernel_rfl) ?_
   repeat (go_big_quiet_step (fail))
   refine wpQuiet_nil ?_
   intro _ hw'
   obtain ⟨⟨dq, osq⟩, hw''⟩ := hw'
   subst hw''
   have hBy4 := below_regrown y3 dq osq
   generalize grow (redrawn y3 dq) osq = y4 at *
   clear dq osq
   obtain ⟨p0', p1'⟩ := (hP.keep hBy4).two
   clear k0 k1 k2 k3
   go_wp2_with (go_at_call 32; (with_reducible refine (HP.out _).mono ?_); rintro e w7 ⟨rfl, rfl⟩)
   go_ret
   exact ⟨ret_bool (by simp), below_up hB1 (below_up hBy3 hBy4)⟩
  ·rw [if_neg h2]
   have h2' : decide (o0 ≤ o1) = false := by simpa using h2
   go_enter Tryz.func139, Tryz.ntmps139
   go_wp2_with fail
   rw [HW1.out]
   refine wp_region_quiet_below (by kernel_rfl) (by kernel_rfl) ?_
   repeat (go_big_quiet_step ((go_at_call 32; with_reducible exact HO.out _ _)))
   refine wpQuiet_nil ?_
   intro _ hw'
   obtain ⟨⟨dq, osq⟩, hw''⟩ := hw'
   subst hw''
   have hBy3 := below_regrown W1 dq osq
   generalize grow (redrawn W1 dq) osq = y3 at *
   clear dq osq
   have hP := hP.keep hBy3
   have x0' := (hBy3.cell (p := ⟨b, off, none⟩) hb).trans x0; have x1' := (hBy3.cell (p := ⟨b, off + 1, none⟩) hb).trans x1; have x2' := (hBy3.cell (p := ⟨b, off + 2, none⟩) hb).trans x2; have x3' := (hBy3.cell (p := ⟨b, off + 2 + 1, none⟩) hb).trans x3
   obtain ⟨p0', p1'⟩ := hP.two
   have hb' := Nat.lt_of_lt_of_le hb hBy3.size
   clear k0 k1 k2 k3 m0 m1 x0 x1 x2 x3 p0 p1
   have k0 := cell_regrown x0'; have k1 := cell_regrown x1'; have k2 := cell_regrown x2'; have k3 := cell_regrown x3'
   go_wp2_with fail
   refine wp_region_quiet_below (by kernel_rfl) (by kernel_rfl) ?_
   repeat (go_big_quiet_step (fail))
   refine wpQuiet_nil ?_
   intro _ hw'
   obtain ⟨⟨dq, osq⟩, hw''⟩ := hw'
   subst hw''
   have hBy4 := below_regrown y3 dq osq
   generalize grow (redrawn y3 dq) osq = y4 at *
   clear dq osq
   obtain ⟨p0', p1'⟩ := (hP.keep hBy4).two
   clear k0 k1 k2 k3
   by_cases h3 : o0 ≤ o
   ·go_wp2_with fail
    go_ret
    exact ⟨ret_bool (by simp <;> omega), below_up hB1 (below_up hBy3 hBy4)⟩
   ·go_wp2_with fail
    go_ret
    exact ⟨ret_bool (by simp <;> omega), below_up hB1 (below_up hBy3 hBy4)⟩


end Go.Proofs.YtimjmjmpaicdbaaGreatDoor
namespace Go.Proofs.YtimjmjmpaicdbaaGreatDoor
open Go.RowKit Go.Sort
namespace Sc
instance (s : List UInt8) (d b : UInt8) : Decidable (good s d b) := by unfold good; infer_instance
end Sc
end Go.Proofs.YtimjmjmpaicdbaaGreatDoor
namespace Go.Proofs.YtimjmjmpaicdbaaGreatDoor
open Go.RowKit Go.Sort Go.Shelf
namespace Tx
def CT (s : Int) : ByteArray := P2 (s / 3600) ++ ⟨#[58]⟩ ++ P2 (s / 60 % 60) ++ ⟨#[58]⟩ ++ P2 (s % 60)
end Tx
end Go.Proofs.YtimjmjmpaicdbaaGreatDoor
namespace Go.Proofs.YtimjmjmpaicdbaaGreatDoor
namespace Ft
end Ft
namespace Dg
end Dg
namespace Ft
end Ft
namespace Rs
instance (s : List UInt8) : Decidable (shape s) := by unfold shape; infer_instance
instance (s : List UInt8) : Decidable (parts s) := by unfold parts; infer_instance
instance (s : List UInt8) : Decidable (fine s) := by unfold fine; infer_instance
end Rs
end Go.Proofs.YtimjmjmpaicdbaaGreatDoor
namespace Go.Proofs.YtimjmjmpaicdbaaGreatDoor
open Go.RowKit Go.Sort Go.Shelf
def Ph.zero : Ph := ⟨0, 0, 0, 0, 0, 0, 0, ⟨#[]⟩, ⟨#[]⟩, none, 0, 0, fun _ => 0, fun _ => 0, none, 0, 0, fun _ => ⟨#[]⟩, none, 0, 0, fun _ => 0, false⟩
theorem Ph.zero_in (w : World) : Ph.zero.In w := ⟨fun h => absurd h (by show ¬ 0 < 0; omega), fun h => absurd h (by show ¬ 0 < 0; omega), fun h => absurd h (by show ¬ 0 < 0; omega)⟩
namespace Fd
def phCells (p : Ph) : List Value := [.int .i64 p.id, .string p.file, .int .i64 p.mom, .int .i64 p.zone, .slice p.wa p.wn p.wc, .int .i64 p.W, .int .i64 p.H, .int .i64 p.turn, .int .i64 p.stars, .slice p.ta p.tn p.tc, .string p.cap, .slice p.pa p.pn p.pc, .bool p.hid]
def phFlat (l : List Ph) : List Value := l.flatMap phCells
theorem phFlat_cons (p : Ph) (l : List Ph) : phFlat (p :: l) = phCells p ++ phFlat l := by simp [phFlat]
theorem phFlat_len (l : List Ph) : (phFlat l).length = l.length * 13 := by
 induction l with
 | nil => rfl
 | cons p l ih =>
   have h13 : (phCells p).length = 13 := rfl
   rw [phFlat_cons, List.length_append, List.length_cons, ih, h13]; omega
theorem phFlat_get (l : List Ph) : ∀ i, i < l.length → ∀ j, j < 13 → (phFlat l)[i * 13 + j]? = (phCells (l[i]?.getD Ph.zero))[j]? := by
 induction l with
 | nil => intro i h; simp at h
 | cons p l ih =>
   intro i h j hj
   have h13 : (phCells p).length = 13 := rfl
   cases i with
   | zero => rw [phFlat_cons, Nat.zero_mul, Nat.zero_add, List.getElem?_append_left (by omega)]; rfl
   | succ k =>
     rw [phFlat_cons, List.getElem?_append_right (by omega), h13, show (k + 1) * 13 + j - 13 = k * 13 + j by omega, ih k (by simpa using h) j hj]; simp
end Fd
theorem PhAt.of_cells {w : World} {b o : Nat} {p : Ph} (h : ∀ j, j < 13 → w.cell? ⟨b, o + j, none⟩ = (Fd.phCells p)[j]?) : PhAt w b o p :=
 ⟨h 0 (by omega), h 1 (by omega), h 2 (by omega), h 3 (by omega), h 4 (by omega), h 5 (by omega), h 6 (by omega), h 7 (by omega), h 8 (by omega), h 9 (by omega), h 10 (by omega), h 11 (by omega), h 12 (by omega)⟩
theorem Ph.in_getD {w : World} {L : List Ph} (hI : ∀ p, p ∈ L → p.In w) (i : Nat) : (L[i]?.getD Ph.zero).In w := by
 rcases Nat.lt_or_ge i L.length with h | h
 ·rw [List.getElem?_eq_getElem h]; exact hI _ (List.getElem_mem h)
 ·rw [List.getElem?_eq_none h]; exact Ph.zero_in w
theorem Phs.of_own {w : World} {base n : Nat} {e : TypeId} {v : Value} {L : List Ph} (h : w.ownsRow base e 13 v n (Fd.phFlat L)) (hI : ∀ p, p ∈ L → p.In w) :
  ∃ a ca, v = .slice a n ca ∧ n ≤ ca ∧ ca ≤ 9223372036854775807 ∧ Phs w a n (fun i => L[i]?.getD Ph.zero) := by
 have hlen := h.1
 rw [Fd.phFlat_len] at hlen
 have h0 := h
 rcases h.2 with ⟨rfl, rfl⟩ | ⟨g, cap, cur, rfl, hg, hc, hk, hm, _⟩
 ·exact ⟨none, 0, rfl, by omega, by omega, ⟨fun hn => by omega, fun i hi => by omega⟩⟩
 ·have hm2 : cap ≤ 9223372036854775807 := hm
  refine ⟨_, _, rfl, hk, hm2, ⟨fun hn => ⟨g, 0, rfl, (h0.lt g rfl).2, fun i hi => PhAt.of_cells fun j hj => ?_⟩, fun i hi => Ph.in_getD hI i⟩⟩
  rw [Nat.zero_add, h0.cellAt (i * 13 + j) (by omega), Fd.phFlat_get L i (by omega) j hj]
namespace Fd
end Fd
namespace Fd
end Fd
def MxL (w : World) : Prop := ∃ m, w.cell? ⟨0, 0, none⟩ = some (.int .i64 m)
theorem MxL.below {w w' : World} (h : MxL w) (hb : Below w.heap.size w w') : MxL w' := by
 obtain ⟨m, hm⟩ := h
 exact ⟨m, (hb.cell (World.block_lt_of_cell? w _ hm)).trans hm⟩
theorem ask1_is (p : Ph) (hp : p.Right) (b : Nat) (op : Int) (ka : Option Addr) (kn kc : Nat) (text : ByteArray) (lo hi : Int) (aa : Option Addr) (an ac : Nat) (V : World) (hb : Blk V b #[.int .i64 op, .slice ka kn kc, .string text, .int .i64 lo, .int .i64 hi, .slice aa an ac] 25) (hI : p.In V) :
  Calls Tryz.prog 120 #[.agg #[.int .i64 p.id, .string p.file, .int .i64 p.mom, .int .i64 p.zone, .slice p.wa p.wn p.wc, .int .i64 p.W, .int .i64 p.H, .int .i64 p.turn, .int .i64 p.stars, .slice p.ta p.tn p.tc, .string p.cap, .slice p.pa p.pn p.pc, .bool p.hid], .pointer (some ⟨b, 0, none⟩)] V fun e w' => e = .returned (.bool (Fd.hit (fun i => text.toList == (p.tag i).toList) p.tn)) ∧ Below V.heap.size V w' := by
 obtain ⟨W1, hW1, hP, hz1, hB1⟩ := bxP V p
 have HW1 := Lib.hid hW1
 obtain ⟨q0, q1, q2, q3, q4, q5, q6, q7, q8, q9, q10, q11, q12⟩ := hP.photo
 have HI1 := Lib.hid (hI.keep hB1)
 clear hW1 hz1
 obtain ⟨l0, l1, l2, l3, l4, l5⟩ := (hb.keep hB1).six
 have HC := Lib.hid (hasS_is p.ta p.tn p.tc p.tag text W1 HI1.out.tags hp.fits.tn)
 clear hI
 go_enter Tryz.func120, Tryz.ntmps120
 go_upto_region 1 with fail
 rw [HW1.out]
 go_wp2_with (go_at_call 121; (with_reducible refine HC.out.mono ?_); rintro e w4 ⟨rfl, hB4⟩)
 go_ret
 exact ⟨rfl, below_up hB1 hB4⟩
theorem ask3_is (p : Ph) (hp : p.Right) (b : Nat) (op : Int) (ka : Option Addr) (kn kc : Nat) (text : ByteArray) (lo hi : Int) (aa : Option Addr) (an ac : Nat) (V : World) (hb : Blk V b #[.int .i64 op, .slice ka kn kc, .string text, .int .i64 lo, .int .i64 hi, .slice aa an ac] 25) (hI : p.In V) :
  Calls Tryz.prog 125 #[.agg #[.int .i64 p.id, .string p.file, .int .i64 p.mom, .int .i64 p.zone, .slice p.wa p.wn p.wc, .int .i64 p.W, .int .i64 p.H, .int .i64 p.turn, .int .i64 p.stars, .slice p.ta p.tn p.tc, .string p.cap, .slice p.pa p.pn p.pc, .bool p.hid], .pointer (some ⟨b, 0, none⟩)] V fun e w' => e = .returned (.bool (Fd.hit (fun i => lo == p.who i) p.pn)) ∧ Below V.heap.size V w' := by
 obtain ⟨W1, hW1, hP, hz1, hB1⟩ := bxP V p
 have HW1 := Lib.hid hW1
 obtain ⟨q0, q1, q2, q3, q4, q5, q6, q7, q8, q9, q10, q11, q12⟩ := hP.photo
 have HI1 := Lib.hid (hI.keep hB1)
 clear hW1 hz1
 obtain ⟨l0, l1, l2, l3, l4, l5⟩ := (hb.keep hB1).six
 have HC := Lib.hid (hasI_is p.pa p.pn p.pc p.who lo W1 HI1.out.people hp.fits.pn)
 clear hI
 go_enter Tryz.func125, Tryz.ntmps125
 go_upto_region 1 with fail
 rw [HW1.out]
 go_wp2_with (go_at_call 126; (with_reducible refine HC.out.mono ?_); rintro e w4 ⟨rfl, hB4⟩)
 go_ret
 exact ⟨rfl, below_up hB1 hB4⟩
theorem ask4_is (p : Ph) (b : Nat) (op : Int) (ka : Option Addr) (kn kc : Nat) (text : ByteArray) (lo hi : Int) (aa : Option Addr) (an ac : Nat) (V : World) (hb : Blk V b #[.int .i64 op, .slice ka kn kc, .string text, .int .i64 lo, .int .i64 hi, .slice aa an ac] 25) (hI : p.In V) :
  Calls Tryz.prog 127 #[.agg #[.int .i64 p.id, .string p.file, .int .i64 p.mom, .int .i64 p.zone, .slice p.wa p.wn p.wc, .int .i64 p.W, .int .i64 p.H, .int .i64 p.turn, .int .i64 p.stars, .slice p.ta p.tn p.tc, .string p.cap, .slice p.pa p.pn p.pc, .bool p.hid], .pointer (some ⟨b, 0, none⟩)] V fun e w' => e = .returned (.bool (decide (lo ≤ p.stars ∧ p.stars ≤ hi))) ∧ Below V.heap.size V w' := by
 obtain ⟨W1, hW1, hP, hz1, hB1⟩ := bxP V p
 have HW1 := Lib.hid hW1
 obtain ⟨q0, q1, q2, q3, q4, q5, q6, q7, q8, q9, q10, q11, q12⟩ := hP.photo
 have HI1 := Lib.hid (hI.keep hB1)
 clear hW1 hz1
 obtain ⟨l0, l1, l2, l3, l4, l5⟩ := (hb.keep hB1).six
 have HC := Lib.hid (fun W => outsideF_is p.stars lo hi _ rfl W)
 clear hI
 go_enter Tryz.func127, Tryz.ntmps127
 go_upto_region 1 with fail
 rw [HW1.out]
 go_wp2_with (go_at_call 32; (with_reducible refine (HC.out _).mono ?_); rintro e w4 ⟨rfl, rfl⟩)
 go_ret
 exact ⟨ret_bool (by simp), hB1⟩
theorem ask5_is (p : Ph) (hp : p.Right) (b : Nat) (op : Int) (ka : Option Addr) (kn kc : Nat) (text : ByteArray) (lo hi : Int) (aa : Option Addr) (an ac : Nat) (V : World) (hb : Blk V b #[.int .i64 op, .slice ka kn kc, .string text, .int .i64 lo, .int .i64 hi, .slice aa an ac] 25) (hI : p.In V) :
  Calls Tryz.prog 128 #[.agg #[.int .i64 p.id, .string p.file, .int .i64 p.mom, .int .i64 p.zone, .slice p.wa p.wn p.wc, .int .i64 p.W, .int .i64 p.H, .int .i64 p.turn, .int .i64 p.stars, .slice p.ta p.tn p.tc, .string p.cap, .slice p.pa p.pn p.pc, .bool p.hid], .pointer (some ⟨b, 0, none⟩)] V fun e w' => e = .returned (.bool (decide (0 ≤ p.mom) && decide (lo ≤ p.mom + 60 * p.zone ∧ p.mom + 60 * p.zone ≤ hi))) ∧ Below V.heap.size V w' := by
 obtain ⟨⟨t1, t2⟩, t3⟩ := hp.time
 obtain ⟨W1, hW1, hP, hz1, hB1⟩ := bxP V p
 have HW1 := Lib.hid hW1
 obtain ⟨q0, q1, q2, q3, q4, q5, q6, q7, q8, q9, q10, q11, q12⟩ := hP.photo
 have HI1 := Lib.hid (hI.keep hB1)
 clear hW1 hz1
 obtain ⟨l0, l1, l2, l3, l4, l5⟩ := (hb.keep hB1).six
 have HO := Lib.hid (fun dd os => Calls.regrown_of ((outsideF_is (p.mom + 60 * p.zone) lo hi (decide (lo ≤ p.mom + 60 * p.zone ∧ p.mom + 60 * p.zone ≤ hi)) rfl (grow (redrawn W1 dd) os)).mono fun e w' h => ⟨h.1, h.2 ▸ Below.refl _ _⟩))
 have k0 := cell_regrown q0; have k1 := cell_regrown q1; have k2 := cell_regrown q2; have k3 := cell_regrown q3; have k4 := cell_regrown q4; have k5 := cell_regrown q5; have k6 := cell_regrown q6; have k7 := cell_regrown q7; have k8 := cell_regrown q8; have k9 := cell_regrown q9; have k10 := cell_regrown q10; have k11 := cell_regrown q11; have k12 := cell_regrown q12
 have m3 := cell_regrown l3; have m4 := cell_regrown l4
 clear hI
 by_cases h0 : 0 ≤ p.mom
 ·have HL := Lib.hid (fun dd os => Calls.regrown_of (localP_is p (grow (redrawn W1 dd) os) ⟨h0, t2⟩ t3))
  have e0 : decide (0 ≤ p.mom) = true := by simpa using h0
  rw [e0]
  go_enter Tryz.func128, Tryz.ntmps128
  go_upto_region 1 with fail
  rw [HW1.out]
  refine wp_region_quiet_below (by kernel_rfl) (by kernel_rfl) ?_
  repeat (go_big_quiet_step ((first | (go_at_call 84; with_reducible exact HL.out _ _) | (go_at_call 32; with_reducible exact HO.out _ _))))
  refine wpQuiet_nil ?_
  intro _ hw'
  obtain ⟨⟨dq, osq⟩, hw''⟩ := hw'
  subst hw''
  have hBx3 := below_regrown W1 dq osq
  generalize grow (redrawn W1 dq) osq = x3 at *
  clear dq osq
  clear k0 k1 k2 k3 k4 k5 k6 k7 k8 k9 k10 k11 k12 m3 m4
  go_wp2_with fail
  go_ret
  exact ⟨ret_bool (by simp), below_up hB1 hBx3⟩
 ·have e0 : decide (0 ≤ p.mom) = false := by simpa using h0
  have e1 : (0 ≤ p.mom) = False := by simpa using h0
  rw [e0]
  go_enter Tryz.func128, Tryz.ntmps128
  go_upto_region 1 with fail
  rw [HW1.out]
  refine wp_region_quiet_below (by kernel_rfl) (by kernel_rfl) ?_
  repeat (go_big_quiet_step (fail))
  refine wpQuiet_nil ?_
  intro _ hw'
  obtain ⟨⟨dq, osq⟩, hw''⟩ := hw'
  subst hw''
  have hBx3 := below_regrown W1 dq osq
  generalize grow (redrawn W1 dq) osq = x3 at *
  clear dq osq
  clear k0 k1 k2 k3 k4 k5 k6 k7 k8 k9 k10 k11 k12 m3 m4
  go_wp2_with fail
  go_ret
  exact ⟨ret_bool (by simp), below_up hB1 hBx3⟩

theorem ask6_is (p : Ph) (hp : p.Right) (V : World) : Calls Tryz.prog 129 #[.agg #[.int .i64 p.id, .string p.file, .int .i64 p.mom, .int .i64 p.zone, .slice p.wa p.wn p.wc, .int .i64 p.W, .int .i64 p.H, .int .i64 p.turn, .int .i64 p.stars, .slice p.ta p.tn p.tc, .string p.cap, .slice p.pa p.pn p.pc, .bool p.hid]] V fun e w' => e = .returned (.bool (decide (0 < Hd.tall p))) ∧ Below V.heap.size V w' := by
 have hI := True.intro
 obtain ⟨W1, hW1, hP, hz1, hB1⟩ := bxP V p
 have HW1 := Lib.hid hW1
 obtain ⟨q0, q1, q2, q3, q4, q5, q6, q7, q8, q9, q10, q11, q12⟩ := hP.photo
 clear hW1 hz1
 have HC := Lib.hid (higher_is p hp W1)
 generalize Hd.tall p = t at *
 go_enter Tryz.func129, Tryz.ntmps129
 go_upto_region 1 with fail
 rw [HW1.out]
 go_wp2_with (go_at_call 130; (with_reducible refine HC.out.mono ?_); rintro e w4 ⟨rfl, hB4⟩)
 go_ret
 exact ⟨ret_bool (by first | rfl | simp), below_up hB1 hB4⟩

theorem ask7_is (p : Ph) (hp : p.Right) (V : World) : Calls Tryz.prog 131 #[.agg #[.int .i64 p.id, .string p.file, .int .i64 p.mom, .int .i64 p.zone, .slice p.wa p.wn p.wc, .int .i64 p.W, .int .i64 p.H, .int .i64 p.turn, .int .i64 p.stars, .slice p.ta p.tn p.tc, .string p.cap, .slice p.pa p.pn p.pc, .bool p.hid]] V fun e w' => e = .returned (.bool (decide (Hd.tall p < 0))) ∧ Below V.heap.size V w' := by
 have hI := True.intro
 obtain ⟨W1, hW1, hP, hz1, hB1⟩ := bxP V p
 have HW1 := Lib.hid hW1
 obtain ⟨q0, q1, q2, q3, q4, q5, q6, q7, q8, q9, q10, q11, q12⟩ := hP.photo
 clear hW1 hz1
 have HC := Lib.hid (higher_is p hp W1)
 generalize Hd.tall p = t at *
 go_enter Tryz.func131, Tryz.ntmps131
 go_upto_region 1 with fail
 rw [HW1.out]
 go_wp2_with (go_at_call 130; (with_reducible refine HC.out.mono ?_); rintro e w4 ⟨rfl, hB4⟩)
 go_ret
 exact ⟨ret_bool (by first | rfl | simp), below_up hB1 hB4⟩

theorem ask8_is (p : Ph) (hp : p.Right) (V : World) : Calls Tryz.prog 132 #[.agg #[.int .i64 p.id, .string p.file, .int .i64 p.mom, .int .i64 p.zone, .slice p.wa p.wn p.wc, .int .i64 p.W, .int .i64 p.H, .int .i64 p.turn, .int .i64 p.stars, .slice p.ta p.tn p.tc, .string p.cap, .slice p.pa p.pn p.pc, .bool p.hid]] V fun e w' => e = .returned (.bool (decide (Hd.tall p = 0))) ∧ Below V.heap.size V w' := by
 have hI := True.intro
 obtain ⟨W1, hW1, hP, hz1, hB1⟩ := bxP V p
 have HW1 := Lib.hid hW1
 obtain ⟨q0, q1, q2, q3, q4, q5, q6, q7, q8, q9, q10, q11, q12⟩ := hP.photo
 clear hW1 hz1
 have HC := Lib.hid (higher_is p hp W1)
 generalize Hd.tall p = t at *
 go_enter Tryz.func132, Tryz.ntmps132
 go_upto_region 1 with fail
 rw [HW1.out]
 go_wp2_with (go_at_call 130; (with_reducible refine HC.out.mono ?_); rintro e w4 ⟨rfl, hB4⟩)
 go_ret
 exact ⟨ret_bool (by first | rfl | simp), below_up hB1 hB4⟩
theorem ask9_is (p : Ph) (V : World) : Calls Tryz.prog 133 #[.agg #[.int .i64 p.id, .string p.file, .int .i64 p.mom, .int .i64 p.zone, .slice p.wa p.wn p.wc, .int .i64 p.W, .int .i64 p.H, .int .i64 p.turn, .int .i64 p.stars, .slice p.ta p.tn p.tc, .string p.cap, .slice p.pa p.pn p.pc, .bool p.hid]] V fun e w' => e = .returned (.bool (!(p.turn == 1))) ∧ Below V.heap.size V w' := by
 have hI := True.intro
 obtain ⟨W1, hW1, hP, hz1, hB1⟩ := bxP V p
 have HW1 := Lib.hid hW1
 obtain ⟨q0, q1, q2, q3, q4, q5, q6, q7, q8, q9, q10, q11, q12⟩ := hP.photo
 clear hW1 hz1
 go_enter Tryz.func133, Tryz.ntmps133
 go_upto_region 1 with fail
 rw [HW1.out]
 go_wp2_with fail
 go_ret
 exact ⟨ret_bool (by first | rfl | simp [bne]), hB1⟩
theorem ask13_is (p : Ph) (V : World) : Calls Tryz.prog 140 #[.agg #[.int .i64 p.id, .string p.file, .int .i64 p.mom, .int .i64 p.zone, .slice p.wa p.wn p.wc, .int .i64 p.W, .int .i64 p.H, .int .i64 p.turn, .int .i64 p.stars, .slice p.ta p.tn p.tc, .string p.cap, .slice p.pa p.pn p.pc, .bool p.hid]] V fun e w' => e = .returned (.bool p.hid) ∧ Below V.heap.size V w' := by
 obtain ⟨W1, hW1, hP, hz1, hB1⟩ := bxP V p
 have HW1 := Lib.hid hW1
 obtain ⟨q0, q1, q2, q3, q4, q5, q6, q7, q8, q9, q10, q11, q12⟩ := hP.photo
 clear hW1 hz1
 go_enter Tryz.func140, Tryz.ntmps140
 go_upto_region 1 with fail
 rw [HW1.out]
 go_wp2_with fail
 go_ret
 exact ⟨rfl, hB1⟩
theorem ask10_is (a o : Int) (V : World) : Calls Tryz.prog 135 #[.agg #[.int .i64 a, .int .i64 o]] V fun e w' => e = .returned (.bool true) ∧ Below V.heap.size V w' := by
 obtain ⟨W1, hW1, hP, hz1, hB1⟩ := box V #[.int .i64 a, .int .i64 o] 112
 have HW1 := Lib.hid hW1
 clear hW1 hz1
 go_enter Tryz.func135, Tryz.ntmps135
 go_upto_region 1 with fail
 rw [HW1.out]
 go_wp2_with fail
 go_ret
 exact ⟨rfl, hB1⟩
theorem ask11_is (a o : Int) (b : Nat) (op : Int) (ka : Option Addr) (kn kc : Nat) (text : ByteArray) (lo hi : Int) (aa : Option Addr) (an ac : Nat) (lat lon : Nat → Int) (V : World) (hb : Blk V b #[.int .i64 op, .slice ka kn kc, .string text, .int .i64 lo, .int .i64 hi, .slice aa an ac] 25) (hr : Row2 V aa an (fun i => .int .i64 (lat i)) (fun i => .int .i64 (lon i))) (hn : an = 1) :
  Calls Tryz.prog 136 #[.agg #[.int .i64 a, .int .i64 o], .pointer (some ⟨b, 0, none⟩)] V fun e w' => e = .returned (.bool (decide (Hd.dist a o (lat 0) (lon 0) ≤ lo))) ∧ Below V.heap.size V w' := by
 subst hn
 obtain ⟨W1, hW1, hP, hz1, hB1⟩ := box V #[.int .i64 a, .int .i64 o] 112
 have HW1 := Lib.hid hW1
 obtain ⟨p0, p1⟩ := hP.two
 have hb1 := hb.keep hB1
 obtain ⟨l0, l1, l2, l3, l4, l5⟩ := hb1.six
 obtain ⟨g, off, rfl, hg, hc⟩ := (hr.keep hB1) (by omega)
 have x0 := (hc 0 (by omega)).1; have x1 := (hc 0 (by omega)).2
 simp only [Nat.zero_mul, Nat.add_zero] at x0 x1
 obtain ⟨dd0, hdd⟩ := Hd.dist_is a o (lat 0) (lon 0)
 have HD := Lib.hid (fun dd os => Calls.regrown_of (hdd (grow (redrawn W1 dd) os)))
 have k0 := cell_regrown x0; have k1 := cell_regrown x1; have k5 := cell_regrown l5; have m0 := cell_regrown p0; have m1 := cell_regrown p1
 clear hW1 hz1 hr hc hdd
 generalize Hd.dist a o (lat 0) (lon 0) = d at *
 generalize lat 0 = a0 at *; generalize lon 0 = o0 at *
 go_enter Tryz.func136, Tryz.ntmps136
 go_upto_region 1 with fail
 rw [HW1.out]
 refine wp_region_quiet_below (by kernel_rfl) (by kernel_rfl) ?_
 repeat (go_big_quiet_step ((go_at_call 137; with_reducible exact HD.out _ _)))
 refine wpQuiet_nil ?_
 intro _ hw'
 obtain ⟨⟨dq, osq⟩, hw''⟩ := hw'
 subst hw''
 have hBx3 := below_regrown W1 dq osq
 generalize grow (redrawn W1 dq) osq = x3 at *
 clear dq osq
 obtain ⟨n0, n1, n2, n3, n4, n5⟩ := (hb1.keep hBx3).six
 clear k0 k1 k5 m0 m1
 go_wp2_with fail
 go_ret
 exact ⟨ret_bool (by simp), below_up hB1 hBx3⟩
theorem ask12_is (a o : Int) (b : Nat) (op : Int) (ka : Option Addr) (kn kc : Nat) (text : ByteArray) (lo hi : Int) (aa : Option Addr) (an ac : Nat) (lat lon : Nat → Int) (V : World) (hb : Blk V b #[.int .i64 op, .slice ka kn kc, .string text, .int .i64 lo, .int .i64 hi, .slice aa an ac] 25) (hr : Row2 V aa an (fun i => .int .i64 (lat i)) (fun i => .int .i64 (lon i))) (hn : an = 2) :
  Calls Tryz.prog 138 #[.agg #[.int .i64 a, .int .i64 o], .pointer (some ⟨b, 0, none⟩)] V fun e w' => e = .returned (.bool (Hd.box a o (lat 0) (lon 0) (lat 1) (lon 1))) ∧ Below V.heap.size V w' := by
 obtain ⟨W1, hW1, hP, hz1, hB1⟩ := box V #[.int .i64 a, .int .i64 o] 112
 have HW1 := Lib.hid hW1
 obtain ⟨p0, p1⟩ := hP.two
 obtain ⟨l0, l1, l2, l3, l4, l5⟩ := (hb.keep hB1).six
 have HC := Lib.hid (inBox_is a o aa an ac lat lon W1 (hr.keep hB1) hn)
 clear hW1 hz1 hr hn
 go_enter Tryz.func138, Tryz.ntmps138
 go_upto_region 1 with fail
 rw [HW1.out]
 go_wp2_with (go_at_call 139; (with_reducible refine HC.out.mono ?_); rintro e w4 ⟨rfl, hB4⟩)
 go_ret
 exact ⟨rfl, below_up hB1 hB4⟩
theorem plc1_is (g : Nat) (lb : Array Value) (eg : ∀ args w, (callFunc g args).run Tryz.prog w = .ok (.enter g args) w) (q : Bool) (p : Ph) (b : Nat) (V : World) (hb : Blk V b #[.func (.func g) #[] lb] 116) (hI : p.In V)
  (hc : 0 < p.wn → ∀ W, Below V.heap.size V W → Calls Tryz.prog g (#[.agg #[.int .i64 (p.lat 0), .int .i64 (p.lon 0)]] ++ lb) W fun e w' => e = .returned (.bool q) ∧ Below W.heap.size W w') :
  Calls Tryz.prog 172 #[.agg #[.int .i64 p.id, .string p.file, .int .i64 p.mom, .int .i64 p.zone, .slice p.wa p.wn p.wc, .int .i64 p.W, .int .i64 p.H, .int .i64 p.turn, .int .i64 p.stars, .slice p.ta p.tn p.tc, .string p.cap, .slice p.pa p.pn p.pc, .bool p.hid], .pointer (some ⟨b, 0, none⟩)] V fun e w' => e = .returned (.bool (decide (0 < p.wn) && q)) ∧ Below V.heap.size V w' := by
 obtain ⟨W1, hW1, hP, hz1, hB1⟩ := bxP V p
 have HW1 := Lib.hid hW1
 obtain ⟨q0, q1, q2, q3, q4, q5, q6, q7, q8, q9, q10, q11, q12⟩ := hP.photo
 have HI1 := Lib.hid (hI.keep hB1)
 clear hW1 hz1
 have l0 := (hb.keep hB1).one
 have k0 := cell_regrown l0
 have k4 := cell_regrown q4
 have hI1 := HI1.out.places
 by_cases h0 : 0 < p.wn
 ·obtain ⟨b2, off, hwa, hb2, hcc⟩ := hI1 h0
  have x0 := (hcc 0 h0).1; have x1 := (hcc 0 h0).2
  simp only [Nat.zero_mul, Nat.add_zero] at x0 x1
  rw [hwa] at k4 q4
  have HC := Lib.hid (fun dd os => Calls.regrown_of (hc h0 (grow (redrawn W1 dd) os) (below_up hB1 (below_regrown W1 dd os))))
  have y0 := cell_regrown x0; have y1 := cell_regrown x1
  have e0 : decide (0 < p.wn) = true := by simpa using h0
  rw [e0]
  clear hc hI hcc hI1 hwa
  generalize p.lat 0 = a0 at *; generalize p.lon 0 = o0 at *
  generalize p.wn = wn at *
  have h1 : (0 : Int) < (wn : Int) := by omega
  go_enter Tryz.func172, Tryz.ntmps172
  go_upto_region 1 with fail
  rw [HW1.out]
  refine wp_region_quiet_below (by kernel_rfl) (by kernel_rfl) ?_
  repeat (go_big_quiet_step ((go_at_fn g; with_reducible exact HC.out _ _)))
  refine wpQuiet_nil ?_
  intro _ hw'
  obtain ⟨⟨dq, osq⟩, hw''⟩ := hw'
  subst hw''
  have hBx3 := below_regrown W1 dq osq
  generalize grow (redrawn W1 dq) osq = x3 at *
  clear dq osq
  clear k0 k4 y0 y1
  go_wp2_with fail
  go_ret
  exact ⟨ret_bool (by simp), below_up hB1 hBx3⟩
 ·obtain ⟨wn, hwn⟩ : ∃ wn, p.wn = wn := ⟨_, rfl⟩
  obtain rfl : wn = 0 := by omega
  have e0 : decide (0 < p.wn) = false := by simpa using h0
  rw [e0]
  rw [hwn] at k4 q4
  clear hc hI hI1 hwn h0 e0
  go_enter Tryz.func172, Tryz.ntmps172
  go_upto_region 1 with fail
  rw [HW1.out]
  refine wp_region_quiet_below (by kernel_rfl) (by kernel_rfl) ?_
  repeat (go_big_quiet_step (fail))
  refine wpQuiet_nil ?_
  intro _ hw'
  obtain ⟨⟨dq, osq⟩, hw''⟩ := hw'
  subst hw''
  have hBx3 := below_regrown W1 dq osq
  generalize grow (redrawn W1 dq) osq = x3 at *
  clear dq osq
  clear k0 k4
  go_wp2_with fail
  go_ret
  exact ⟨ret_bool (by simp), below_up hB1 hBx3⟩
def NodeIs (f : Ph → Bool) (D : Nat → Prop) (w : World) (v : Value) : Prop :=
 ∃ T u g, v = .iface T u ∧ (∀ n W, (nilAhead (n + 1) T u "tintype/find.holds").run Tryz.prog W = .ok (some false) W) ∧ (∀ n W, (method (n + 1) T u "tintype/find.holds").run Tryz.prog W = .ok (g, u) W) ∧
   (∀ args W, (callFunc g args).run Tryz.prog W = .ok (.enter g args) W) ∧
   ∀ V (p : Ph), (∀ b, D b → V.heap[b]? = w.heap[b]?) → p.In V → p.Right → Calls Tryz.prog g #[u, .agg #[.int .i64 p.id, .string p.file, .int .i64 p.mom, .int .i64 p.zone, .slice p.wa p.wn p.wc, .int .i64 p.W, .int .i64 p.H, .int .i64 p.turn, .int .i64 p.stars, .slice p.ta p.tn p.tc, .string p.cap, .slice p.pa p.pn p.pc, .bool p.hid]] V fun e w' => e = .returned (.bool (f p)) ∧ Below V.heap.size V w'
theorem NodeIs.keep {f : Ph → Bool} {D : Nat → Prop} {w w' : World} {v : Value} (h : NodeIs f D w v) (hb : ∀ b, D b → w'.heap[b]? = w.heap[b]?) : NodeIs f D w' v := by
 obtain ⟨T, u, g, h1, h2, h3, h4, h5⟩ := h
 exact ⟨T, u, g, h1, h2, h3, h4, fun V p hV hI hR => h5 V p (fun b hD => (hV b hD).trans (hb b hD)) hI hR⟩
theorem NodeIs.below {f : Ph → Bool} {D : Nat → Prop} {w w' : World} {v : Value} (h : NodeIs f D w v) (hD : ∀ b, D b → b < w.heap.size) (hb : Below w.heap.size w w') : NodeIs f D w' v :=
 h.keep fun b h => hb.block b (hD b h)





theorem allHolds_is (p : Ph) (hR : p.Right) (f : Nat → Ph → Bool) (D : Nat → Prop) (a : Option Addr) (n ca : Nat) (x : Nat → Value) (w : World) (hr : Row w a n x) (hD : ∀ b, D b → b < w.heap.size) (hx : ∀ i, i < n → NodeIs (f i) D w (x i)) (hn : n ≤ 9223372036854775807) (hI : p.In w) :
  Calls Tryz.prog 305 #[.slice a n ca, .agg #[.int .i64 p.id, .string p.file, .int .i64 p.mom, .int .i64 p.zone, .slice p.wa p.wn p.wc, .int .i64 p.W, .int .i64 p.H, .int .i64 p.turn, .int .i64 p.stars, .slice p.ta p.tn p.tc, .string p.cap, .slice p.pa p.pn p.pc, .bool p.hid]] w fun e w' => e = .returned (.bool (Hd.all (fun i => f i p) n)) ∧ Below w.heap.size w w' := by
 obtain ⟨W1, hW1, hP, hz1, hB1⟩ := bxP w p
 have HW1 := Lib.hid hW1
 have HR := Lib.hid hr; have HX := Lib.hid hx; have HI := Lib.hid hI; have HD := Lib.hid hD
 have HY := Lib.hid (fun (h : ∀ j, j < n → f j p = true) => Hd.all_yes (f := fun i => f i p) h)
 have HN := Lib.hid (fun j (hj : j < n) (h : f j p = false) => Hd.all_no (f := fun i => f i p) hj h)
 generalize Hd.all (fun i => f i p) n = q at *
 clear hW1 hz1 hr hx hI hD
 go_enter Tryz.func305, Tryz.ntmps305
 go_upto_region 1 with fail
 rw [HW1.out]
 go_wp2_with fail
 go_loopg [9] n (fun gk i wr => ∃ j : Nat, j ≤ n ∧ gk = n - j ∧ i = .int .i64 j ∧ (∀ k, k < j → f k p = true) ∧ Below W1.heap.size W1 wr)
 case atStart => exact ⟨0, by omega, rfl, rfl, fun k hk => by omega, Below.refl _ _⟩
 case round =>
  obtain ⟨j, hj, rfl, rfl, hall, hB⟩ := hrel
  have HALL := Lib.hid hall; clear hall
  have hB0 := below_up hB1 hB
  by_cases hlt : j < n
  ·obtain ⟨b, off, rfl, hb, hcell⟩ := (HR.out.keep hB0) (by omega)
   have c0 := hcell j hlt
   clear hcell
   obtain ⟨T, u, g, hv, hn1, hn2, eg, hcall⟩ := (HX.out j hlt).below HD.out hB0
   rw [hv] at c0
   obtain ⟨q0, q1, q2, q3, q4, q5, q6, q7, q8, q9, q10, q11, q12⟩ := (hP.keep hB).photo
   have HC := Lib.hid (hcall wr p (fun _ _ => rfl) (HI.out.keep hB0) hR)
   clear hv hcall
   cases hf : f j p
   ·have HF := Lib.hid hf
    rw [hf] at HC
    clear hf
    go_wp2_with (go_at_fn g; refine HC.out.mono ?_; rintro e w5 ⟨rfl, hB5⟩)
    go_ret
    exact ⟨ret_bool (HN.out j hlt HF.out).symm, below_up hB0 hB5⟩
   ·have HF := Lib.hid hf
    rw [hf] at HC
    clear hf
    go_wp2_with (go_at_fn g; refine HC.out.mono ?_; rintro e w5 ⟨rfl, hB5⟩)
    go_roundg (n - (j + 1))
    case rel => exact ⟨j + 1, by omega, rfl, by go_num, fun k hk => by (by_cases e : k = j); (subst e; exact HF.out); exact HALL.out k (by omega), below_up hB hB5⟩
    case measure => omega
  ·obtain rfl : j = n := by omega
   go_wp2_with fail
   go_ret
   exact ⟨ret_bool (HY.out HALL.out).symm, hB0⟩

theorem someHolds_is (p : Ph) (hR : p.Right) (f : Nat → Ph → Bool) (D : Nat → Prop) (a : Option Addr) (n ca : Nat) (x : Nat → Value) (w : World) (hr : Row w a n x) (hD : ∀ b, D b → b < w.heap.size) (hx : ∀ i, i < n → NodeIs (f i) D w (x i)) (hn : n ≤ 9223372036854775807) (hI : p.In w) :
  Calls Tryz.prog 306 #[.slice a n ca, .agg #[.int .i64 p.id, .string p.file, .int .i64 p.mom, .int .i64 p.zone, .slice p.wa p.wn p.wc, .int .i64 p.W, .int .i64 p.H, .int .i64 p.turn, .int .i64 p.stars, .slice p.ta p.tn p.tc, .string p.cap, .slice p.pa p.pn p.pc, .bool p.hid]] w fun e w' => e = .returned (.bool (Fd.hit (fun i => f i p) n)) ∧ Below w.heap.size w w' := by
 obtain ⟨W1, hW1, hP, hz1, hB1⟩ := bxP w p
 have HW1 := Lib.hid hW1
 have HR := Lib.hid hr; have HX := Lib.hid hx; have HI := Lib.hid hI; have HD := Lib.hid hD
 have HY := Lib.hid (fun (h : ∀ j, j < n → f j p = false) => Hd.hit_no (f := fun i => f i p) h)
 have HN := Lib.hid (fun j (hj : j < n) (h : f j p = true) => Hd.hit_yes (f := fun i => f i p) hj h)
 generalize Fd.hit (fun i => f i p) n = q at *
 clear hW1 hz1 hr hx hI hD
 go_enter Tryz.func306, Tryz.ntmps306
 go_upto_region 1 with fail
 rw [HW1.out]
 go_wp2_with fail
 go_loopg [9] n (fun gk i wr => ∃ j : Nat, j ≤ n ∧ gk = n - j ∧ i = .int .i64 j ∧ (∀ k, k < j → f k p = false) ∧ Below W1.heap.size W1 wr)
 case atStart => exact ⟨0, by omega, rfl, rfl, fun k hk => by omega, Below.refl _ _⟩
 case round =>
  obtain ⟨j, hj, rfl, rfl, hall, hB⟩ := hrel
  have HALL := Lib.hid hall; clear hall
  have hB0 := below_up hB1 hB
  by_cases hlt : j < n
  ·obtain ⟨b, off, rfl, hb, hcell⟩ := (HR.out.keep hB0) (by omega)
   have c0 := hcell j hlt
   clear hcell
   obtain ⟨T, u, g, hv, hn1, hn2, eg, hcall⟩ := (HX.out j hlt).below HD.out hB0
   rw [hv] at c0
   obtain ⟨q0, q1, q2, q3, q4, q5, q6, q7, q8, q9, q10, q11, q12⟩ := (hP.keep hB).photo
   have HC := Lib.hid (hcall wr p (fun _ _ => rfl) (HI.out.keep hB0) hR)
   clear hv hcall
   cases hf : f j p
   ·have HF := Lib.hid hf
    rw [hf] at HC
    clear hf
    go_wp2_with (go_at_fn g; refine HC.out.mono ?_; rintro e w5 ⟨rfl, hB5⟩)
    go_roundg (n - (j + 1))
    case rel => exact ⟨j + 1, by omega, rfl, by go_num, fun k hk => by (by_cases e : k = j); (subst e; exact HF.out); exact HALL.out k (by omega), below_up hB hB5⟩
    case measure => omega
   ·have HF := Lib.hid hf
    rw [hf] at HC
    clear hf
    go_wp2_with (go_at_fn g; refine HC.out.mono ?_; rintro e w5 ⟨rfl, hB5⟩)
    go_ret
    exact ⟨ret_bool (HN.out j hlt HF.out).symm, below_up hB0 hB5⟩
  ·obtain rfl : j = n := by omega
   go_wp2_with fail
   go_ret
   exact ⟨ret_bool (HY.out HALL.out).symm, hB0⟩
def AskIs (f : Ph → Bool) (D : Nat → Prop) (w : World) (g : Nat) (lb : Array Value) : Prop :=
 (∀ args W, (callFunc g args).run Tryz.prog W = .ok (.enter g args) W) ∧
 ∀ V (p : Ph), (∀ b, D b → V.heap[b]? = w.heap[b]?) → p.In V → p.Right → Calls Tryz.prog g (#[.agg #[.int .i64 p.id, .string p.file, .int .i64 p.mom, .int .i64 p.zone, .slice p.wa p.wn p.wc, .int .i64 p.W, .int .i64 p.H, .int .i64 p.turn, .int .i64 p.stars, .slice p.ta p.tn p.tc, .string p.cap, .slice p.pa p.pn p.pc, .bool p.hid]] ++ lb) V fun e w' => e = .returned (.bool (f p)) ∧ Below V.heap.size V w'
def Dm (w0 w w' : World) (b : Nat) : Prop := b < w0.heap.size ∨ (w.heap.size ≤ b ∧ b < w'.heap.size)
def AskPost (w0 w : World) (f : Ph → Bool) (e : Ending) (w' : World) : Prop :=
 ∃ g lb, e = .returned (.func (.func g) #[] lb) ∧ AskIs f (Dm w0 w w') w' g lb ∧ Below w.heap.size w w'
theorem Row2.same {w0 V : World} {a : Option Addr} {n : Nat} {f g : Nat → Value} (h : Row2 w0 a n f g) (hb : ∀ b, b < w0.heap.size → V.heap[b]? = w0.heap[b]?) (hs : w0.heap.size ≤ V.heap.size) : Row2 V a n f g := by
 intro hn
 obtain ⟨b, off, rfl, hlt, hc⟩ := h hn
 have hcell : ∀ o, V.cell? ⟨b, o, none⟩ = w0.cell? ⟨b, o, none⟩ := fun o => by unfold World.cell?; rw [hb b hlt]
 exact ⟨b, off, rfl, Nat.lt_of_lt_of_le hlt hs, fun i hi => ⟨(hcell _).trans (hc i hi).1, (hcell _).trans (hc i hi).2⟩⟩
theorem MxL.same {w0 V : World} (h : MxL w0) (hb : ∀ b, b < w0.heap.size → V.heap[b]? = w0.heap[b]?) : MxL V := by
 obtain ⟨m, hm⟩ := h
 refine ⟨m, ?_⟩
 have hlt := World.block_lt_of_cell? w0 _ hm
 rw [← hm]
 unfold World.cell?
 rw [hb _ hlt]
structure AskAt (w0 w V w' : World) : Prop where
 same : ∀ b, b < w0.heap.size → V.heap[b]? = w0.heap[b]?
 new : ∀ b, w.heap.size ≤ b → b < w'.heap.size → V.heap[b]? = w'.heap[b]?
theorem askAt {w0 w V w' : World} (h0 : Below w0.heap.size w0 w) (h1 : Below w.heap.size w w') (hV : ∀ b, Dm w0 w w' b → V.heap[b]? = w'.heap[b]?) : AskAt w0 w V w' :=
 ⟨fun b hb => (hV b (.inl hb)).trans ((h1.block b (Nat.lt_of_lt_of_le hb h0.size)).trans (h0.block b hb)), fun b h1 h2 => hV b (.inr ⟨h1, h2⟩)⟩
theorem askAt_size {w0 w V w' : World} (h : AskAt w0 w V w') (h0 : Below w0.heap.size w0 w) : w0.heap.size ≤ V.heap.size := by
 rcases Nat.lt_or_ge V.heap.size w0.heap.size with g | g
 ·have := h.same _ g
  rw [Array.getElem?_eq_none (Nat.le_refl _)] at this
  rw [Array.getElem?_eq_getElem g] at this
  cases this
 ·exact g
theorem placed_fn (g : Nat) (lb : Array Value) (w : World) : Calls Tryz.prog 134 #[.func (.func g) #[] lb] w fun e w' => e = .returned (.func (.func 172) #[] #[.pointer (some ⟨w.heap.size, 0, none⟩)]) ∧ w' = w.alloc (.cells #[.func (.func g) #[] lb] 116) := by
 go_enter Tryz.func134, Tryz.ntmps134
 go_wp2_with fail
 go_ret
 exact ⟨rfl, rfl⟩
theorem egPlc : ∀ args W, (callFunc 172 args).run Tryz.prog W = .ok (.enter 172 args) W := enters_of Tryz.func172 (by kernel_rfl) rfl

theorem asking_4 (ka : Option Addr) (kn kc : Nat) (text : ByteArray) (lo hi : Int) (aa : Option Addr) (an ac : Nat) (lat lon : Nat → Int) (w0 w : World) (h0 : Below w0.heap.size w0 w) : Calls Tryz.prog 82 #[.agg #[.int .i64 4, .slice ka kn kc, .string text, .int .i64 lo, .int .i64 hi, .slice aa an ac]] w (AskPost w0 w fun p => Hd.leaf p 4 text lo hi lat lon) := by
 have eg : ∀ args W, (callFunc 120 args).run Tryz.prog W = .ok (.enter 120 args) W := enters_of Tryz.func120 (by kernel_rfl) rfl
 obtain ⟨W1, hW1, hP, hz1, hB1⟩ := box w #[.int .i64 4, .slice ka kn kc, .string text, .int .i64 lo, .int .i64 hi, .slice aa an ac] 25
 have HW1 := Lib.hid hW1
 obtain ⟨l0, l1, l2, l3, l4, l5⟩ := hP.six
 clear hW1 hz1
 go_enter Tryz.func82, Tryz.ntmps82
 go_upto_region 1 with fail
 rw [HW1.out]
 go_wp2_with fail
 go_ret
 refine ⟨_, _, rfl, ⟨eg, fun V p hV hI hR => ?_⟩, hB1⟩
 have hA := askAt h0 hB1 hV
 have hb : Blk V w.heap.size #[.int .i64 4, .slice ka kn kc, .string text, .int .i64 lo, .int .i64 hi, .slice aa an ac] 25 := (hA.new _ (Nat.le_refl _) hP.lt).trans hP
 exact ask1_is p hR _ 4 ka kn kc text lo hi aa an ac V hb hI

theorem asking_6 (ka : Option Addr) (kn kc : Nat) (text : ByteArray) (lo hi : Int) (aa : Option Addr) (an ac : Nat) (lat lon : Nat → Int) (w0 w : World) (h0 : Below w0.heap.size w0 w) : Calls Tryz.prog 82 #[.agg #[.int .i64 6, .slice ka kn kc, .string text, .int .i64 lo, .int .i64 hi, .slice aa an ac]] w (AskPost w0 w fun p => Hd.leaf p 6 text lo hi lat lon) := by
 have eg : ∀ args W, (callFunc 125 args).run Tryz.prog W = .ok (.enter 125 args) W := enters_of Tryz.func125 (by kernel_rfl) rfl
 obtain ⟨W1, hW1, hP, hz1, hB1⟩ := box w #[.int .i64 6, .slice ka kn kc, .string text, .int .i64 lo, .int .i64 hi, .slice aa an ac] 25
 have HW1 := Lib.hid hW1
 obtain ⟨l0, l1, l2, l3, l4, l5⟩ := hP.six
 clear hW1 hz1
 go_enter Tryz.func82, Tryz.ntmps82
 go_upto_region 1 with fail
 rw [HW1.out]
 go_wp2_with fail
 go_ret
 refine ⟨_, _, rfl, ⟨eg, fun V p hV hI hR => ?_⟩, hB1⟩
 have hA := askAt h0 hB1 hV
 have hb : Blk V w.heap.size #[.int .i64 6, .slice ka kn kc, .string text, .int .i64 lo, .int .i64 hi, .slice aa an ac] 25 := (hA.new _ (Nat.le_refl _) hP.lt).trans hP
 exact ask3_is p hR _ 6 ka kn kc text lo hi aa an ac V hb hI

theorem asking_7 (ka : Option Addr) (kn kc : Nat) (text : ByteArray) (lo hi : Int) (aa : Option Addr) (an ac : Nat) (lat lon : Nat → Int) (w0 w : World) (h0 : Below w0.heap.size w0 w) : Calls Tryz.prog 82 #[.agg #[.int .i64 7, .slice ka kn kc, .string text, .int .i64 lo, .int .i64 hi, .slice aa an ac]] w (AskPost w0 w fun p => Hd.leaf p 7 text lo hi lat lon) := by
 have eg : ∀ args W, (callFunc 127 args).run Tryz.prog W = .ok (.enter 127 args) W := enters_of Tryz.func127 (by kernel_rfl) rfl
 obtain ⟨W1, hW1, hP, hz1, hB1⟩ := box w #[.int .i64 7, .slice ka kn kc, .string text, .int .i64 lo, .int .i64 hi, .slice aa an ac] 25
 have HW1 := Lib.hid hW1
 obtain ⟨l0, l1, l2, l3, l4, l5⟩ := hP.six
 clear hW1 hz1
 go_enter Tryz.func82, Tryz.ntmps82
 go_upto_region 1 with fail
 rw [HW1.out]
 go_wp2_with fail
 go_ret
 refine ⟨_, _, rfl, ⟨eg, fun V p hV hI hR => ?_⟩, hB1⟩
 have hA := askAt h0 hB1 hV
 have hb : Blk V w.heap.size #[.int .i64 7, .slice ka kn kc, .string text, .int .i64 lo, .int .i64 hi, .slice aa an ac] 25 := (hA.new _ (Nat.le_refl _) hP.lt).trans hP
 exact ask4_is p _ 7 ka kn kc text lo hi aa an ac V hb hI

theorem asking_8 (ka : Option Addr) (kn kc : Nat) (text : ByteArray) (lo hi : Int) (aa : Option Addr) (an ac : Nat) (lat lon : Nat → Int) (w0 w : World) (h0 : Below w0.heap.size w0 w) : Calls Tryz.prog 82 #[.agg #[.int .i64 8, .slice ka kn kc, .string text, .int .i64 lo, .int .i64 hi, .slice aa an ac]] w (AskPost w0 w fun p => Hd.leaf p 8 text lo hi lat lon) := by
 have eg : ∀ args W, (callFunc 128 args).run Tryz.prog W = .ok (.enter 128 args) W := enters_of Tryz.func128 (by kernel_rfl) rfl
 obtain ⟨W1, hW1, hP, hz1, hB1⟩ := box w #[.int .i64 8, .slice ka kn kc, .string text, .int .i64 lo, .int .i64 hi, .slice aa an ac] 25
 have HW1 := Lib.hid hW1
 obtain ⟨l0, l1, l2, l3, l4, l5⟩ := hP.six
 clear hW1 hz1
 go_enter Tryz.func82, Tryz.ntmps82
 go_upto_region 1 with fail
 rw [HW1.out]
 go_wp2_with fail
 go_ret
 refine ⟨_, _, rfl, ⟨eg, fun V p hV hI hR => ?_⟩, hB1⟩
 have hA := askAt h0 hB1 hV
 have hb : Blk V w.heap.size #[.int .i64 8, .slice ka kn kc, .string text, .int .i64 lo, .int .i64 hi, .slice aa an ac] 25 := (hA.new _ (Nat.le_refl _) hP.lt).trans hP
 exact ask5_is p hR _ 8 ka kn kc text lo hi aa an ac V hb hI

theorem asking_9 (ka : Option Addr) (kn kc : Nat) (text : ByteArray) (lo hi : Int) (aa : Option Addr) (an ac : Nat) (lat lon : Nat → Int) (w0 w : World) (h0 : Below w0.heap.size w0 w) : Calls Tryz.prog 82 #[.agg #[.int .i64 9, .slice ka kn kc, .string text, .int .i64 lo, .int .i64 hi, .slice aa an ac]] w (AskPost w0 w fun p => Hd.leaf p 9 text lo hi lat lon) := by
 have eg : ∀ args W, (callFunc 129 args).run Tryz.prog W = .ok (.enter 129 args) W := enters_of Tryz.func129 (by kernel_rfl) rfl
 obtain ⟨W1, hW1, hP, hz1, hB1⟩ := box w #[.int .i64 9, .slice ka kn kc, .string text, .int .i64 lo, .int .i64 hi, .slice aa an ac] 25
 have HW1 := Lib.hid hW1
 obtain ⟨l0, l1, l2, l3, l4, l5⟩ := hP.six
 clear hW1 hz1
 go_enter Tryz.func82, Tryz.ntmps82
 go_upto_region 1 with fail
 rw [HW1.out]
 go_wp2_with fail
 go_ret
 refine ⟨_, _, rfl, ⟨eg, fun V p hV hI hR => ?_⟩, hB1⟩
 have hA := askAt h0 hB1 hV
 have hb : Blk V w.heap.size #[.int .i64 9, .slice ka kn kc, .string text, .int .i64 lo, .int .i64 hi, .slice aa an ac] 25 := (hA.new _ (Nat.le_refl _) hP.lt).trans hP
 exact ask6_is p hR V

theorem asking_10 (ka : Option Addr) (kn kc : Nat) (text : ByteArray) (lo hi : Int) (aa : Option Addr) (an ac : Nat) (lat lon : Nat → Int) (w0 w : World) (h0 : Below w0.heap.size w0 w) : Calls Tryz.prog 82 #[.agg #[.int .i64 10, .slice ka kn kc, .string text, .int .i64 lo, .int .i64 hi, .slice aa an ac]] w (AskPost w0 w fun p => Hd.leaf p 10 text lo hi lat lon) := by
 have eg : ∀ args W, (callFunc 131 args).run Tryz.prog W = .ok (.enter 131 args) W := enters_of Tryz.func131 (by kernel_rfl) rfl
 obtain ⟨W1, hW1, hP, hz1, hB1⟩ := box w #[.int .i64 10, .slice ka kn kc, .string text, .int .i64 lo, .int .i64 hi, .slice aa an ac] 25
 have HW1 := Lib.hid hW1
 obtain ⟨l0, l1, l2, l3, l4, l5⟩ := hP.six
 clear hW1 hz1
 go_enter Tryz.func82, Tryz.ntmps82
 go_upto_region 1 with fail
 rw [HW1.out]
 go_wp2_with fail
 go_ret
 refine ⟨_, _, rfl, ⟨eg, fun V p hV hI hR => ?_⟩, hB1⟩
 have hA := askAt h0 hB1 hV
 have hb : Blk V w.heap.size #[.int .i64 10, .slice ka kn kc, .string text, .int .i64 lo, .int .i64 hi, .slice aa an ac] 25 := (hA.new _ (Nat.le_refl _) hP.lt).trans hP
 exact ask7_is p hR V

theorem asking_11 (ka : Option Addr) (kn kc : Nat) (text : ByteArray) (lo hi : Int) (aa : Option Addr) (an ac : Nat) (lat lon : Nat → Int) (w0 w : World) (h0 : Below w0.heap.size w0 w) : Calls Tryz.prog 82 #[.agg #[.int .i64 11, .slice ka kn kc, .string text, .int .i64 lo, .int .i64 hi, .slice aa an ac]] w (AskPost w0 w fun p => Hd.leaf p 11 text lo hi lat lon) := by
 have eg : ∀ args W, (callFunc 132 args).run Tryz.prog W = .ok (.enter 132 args) W := enters_of Tryz.func132 (by kernel_rfl) rfl
 obtain ⟨W1, hW1, hP, hz1, hB1⟩ := box w #[.int .i64 11, .slice ka kn kc, .string text, .int .i64 lo, .int .i64 hi, .slice aa an ac] 25
 have HW1 := Lib.hid hW1
 obtain ⟨l0, l1, l2, l3, l4, l5⟩ := hP.six
 clear hW1 hz1
 go_enter Tryz.func82, Tryz.ntmps82
 go_upto_region 1 with fail
 rw [HW1.out]
 go_wp2_with fail
 go_ret
 refine ⟨_, _, rfl, ⟨eg, fun V p hV hI hR => ?_⟩, hB1⟩
 have hA := askAt h0 hB1 hV
 have hb : Blk V w.heap.size #[.int .i64 11, .slice ka kn kc, .string text, .int .i64 lo, .int .i64 hi, .slice aa an ac] 25 := (hA.new _ (Nat.le_refl _) hP.lt).trans hP
 exact ask8_is p hR V

theorem asking_12 (ka : Option Addr) (kn kc : Nat) (text : ByteArray) (lo hi : Int) (aa : Option Addr) (an ac : Nat) (lat lon : Nat → Int) (w0 w : World) (h0 : Below w0.heap.size w0 w) : Calls Tryz.prog 82 #[.agg #[.int .i64 12, .slice ka kn kc, .string text, .int .i64 lo, .int .i64 hi, .slice aa an ac]] w (AskPost w0 w fun p => Hd.leaf p 12 text lo hi lat lon) := by
 have eg : ∀ args W, (callFunc 133 args).run Tryz.prog W = .ok (.enter 133 args) W := enters_of Tryz.func133 (by kernel_rfl) rfl
 obtain ⟨W1, hW1, hP, hz1, hB1⟩ := box w #[.int .i64 12, .slice ka kn kc, .string text, .int .i64 lo, .int .i64 hi, .slice aa an ac] 25
 have HW1 := Lib.hid hW1
 obtain ⟨l0, l1, l2, l3, l4, l5⟩ := hP.six
 clear hW1 hz1
 go_enter Tryz.func82, Tryz.ntmps82
 go_upto_region 1 with fail
 rw [HW1.out]
 go_wp2_with fail
 go_ret
 refine ⟨_, _, rfl, ⟨eg, fun V p hV hI hR => ?_⟩, hB1⟩
 have hA := askAt h0 hB1 hV
 have hb : Blk V w.heap.size #[.int .i64 12, .slice ka kn kc, .string text, .int .i64 lo, .int .i64 hi, .slice aa an ac] 25 := (hA.new _ (Nat.le_refl _) hP.lt).trans hP
 exact ask9_is p V

theorem asking_16 (ka : Option Addr) (kn kc : Nat) (text : ByteArray) (lo hi : Int) (aa : Option Addr) (an ac : Nat) (lat lon : Nat → Int) (w0 w : World) (h0 : Below w0.heap.size w0 w) : Calls Tryz.prog 82 #[.agg #[.int .i64 16, .slice ka kn kc, .string text, .int .i64 lo, .int .i64 hi, .slice aa an ac]] w (AskPost w0 w fun p => Hd.leaf p 16 text lo hi lat lon) := by
 have eg : ∀ args W, (callFunc 140 args).run Tryz.prog W = .ok (.enter 140 args) W := enters_of Tryz.func140 (by kernel_rfl) rfl
 obtain ⟨W1, hW1, hP, hz1, hB1⟩ := box w #[.int .i64 16, .slice ka kn kc, .string text, .int .i64 lo, .int .i64 hi, .slice aa an ac] 25
 have HW1 := Lib.hid hW1
 obtain ⟨l0, l1, l2, l3, l4, l5⟩ := hP.six
 clear hW1 hz1
 go_enter Tryz.func82, Tryz.ntmps82
 go_upto_region 1 with fail
 rw [HW1.out]
 go_wp2_with fail
 go_ret
 refine ⟨_, _, rfl, ⟨eg, fun V p hV hI hR => ?_⟩, hB1⟩
 have hA := askAt h0 hB1 hV
 have hb : Blk V w.heap.size #[.int .i64 16, .slice ka kn kc, .string text, .int .i64 lo, .int .i64 hi, .slice aa an ac] 25 := (hA.new _ (Nat.le_refl _) hP.lt).trans hP
 exact ask13_is p V

theorem asking_13 (ka : Option Addr) (kn kc : Nat) (text : ByteArray) (lo hi : Int) (aa : Option Addr) (an ac : Nat) (lat lon : Nat → Int) (w0 w : World) (h0 : Below w0.heap.size w0 w) (hr : Row2 w0 aa an (fun i => .int .i64 (lat i)) (fun i => .int .i64 (lon i)))  : Calls Tryz.prog 82 #[.agg #[.int .i64 13, .slice ka kn kc, .string text, .int .i64 lo, .int .i64 hi, .slice aa an ac]] w (AskPost w0 w fun p => Hd.leaf p 13 text lo hi lat lon) := by
 have eg2 : ∀ args W, (callFunc 135 args).run Tryz.prog W = .ok (.enter 135 args) W := enters_of Tryz.func135 (by kernel_rfl) rfl
 have HC := Lib.hid (fun lb W => placed_fn 135 lb W)
 obtain ⟨W1, hW1, hP, hz1, hB1⟩ := box w #[.int .i64 13, .slice ka kn kc, .string text, .int .i64 lo, .int .i64 hi, .slice aa an ac] 25
 have HW1 := Lib.hid hW1
 obtain ⟨l0, l1, l2, l3, l4, l5⟩ := hP.six
 clear hW1 hz1
 go_enter Tryz.func82, Tryz.ntmps82
 go_upto_region 1 with fail
 rw [HW1.out]
 go_wp2_with (go_at_call 134; (with_reducible refine (HC.out _ _).mono ?_); rintro e w4 ⟨rfl, rfl⟩)
 go_ret
 have hBx := below_allocs hB1 (.cells #[.func (.func 135) #[] #[]] 116)
 refine ⟨_, _, rfl, ⟨egPlc, fun V p hV hI hR => ?_⟩, hBx⟩
 have hA := askAt h0 hBx hV
 have hs := askAt_size hA h0
 have hb : Blk V w.heap.size #[.int .i64 13, .slice ka kn kc, .string text, .int .i64 lo, .int .i64 hi, .slice aa an ac] 25 := (hA.new _ (Nat.le_refl _) (by have := hP.lt; simp; omega)).trans (hP.alloc _)
 have hb2 : Blk V W1.heap.size #[.func (.func 135) #[] #[]] 116 := (hA.new _ hB1.size (by simp)).trans (Blk.new W1 _ _)
 have hr2 := hr.same (V := V) hA.same hs
 have h := plc1_is 135 _ eg2 (true) p _ V hb2 hI (fun _ W hW => ask10_is _ _ W)
 first
  | with_reducible exact h
  | exact h
  | (rw [Bool.and_true] at h; exact h)

theorem asking_14 (ka : Option Addr) (kn kc : Nat) (text : ByteArray) (lo hi : Int) (aa : Option Addr) (an ac : Nat) (lat lon : Nat → Int) (w0 w : World) (h0 : Below w0.heap.size w0 w) (hr : Row2 w0 aa an (fun i => .int .i64 (lat i)) (fun i => .int .i64 (lon i))) (hn : Hid (an = 1)) : Calls Tryz.prog 82 #[.agg #[.int .i64 14, .slice ka kn kc, .string text, .int .i64 lo, .int .i64 hi, .slice aa an ac]] w (AskPost w0 w fun p => Hd.leaf p 14 text lo hi lat lon) := by
 have eg2 : ∀ args W, (callFunc 136 args).run Tryz.prog W = .ok (.enter 136 args) W := enters_of Tryz.func136 (by kernel_rfl) rfl
 have HC := Lib.hid (fun lb W => placed_fn 136 lb W)
 obtain ⟨W1, hW1, hP, hz1, hB1⟩ := box w #[.int .i64 14, .slice ka kn kc, .string text, .int .i64 lo, .int .i64 hi, .slice aa an ac] 25
 have HW1 := Lib.hid hW1
 obtain ⟨l0, l1, l2, l3, l4, l5⟩ := hP.six
 clear hW1 hz1
 go_enter Tryz.func82, Tryz.ntmps82
 go_upto_region 1 with fail
 rw [HW1.out]
 go_wp2_with (go_at_call 134; (with_reducible refine (HC.out _ _).mono ?_); rintro e w4 ⟨rfl, rfl⟩)
 go_ret
 have hBx := below_allocs hB1 (.cells #[.func (.func 136) #[] #[.pointer (some ⟨w.heap.size, 0, none⟩)]] 116)
 refine ⟨_, _, rfl, ⟨egPlc, fun V p hV hI hR => ?_⟩, hBx⟩
 have hA := askAt h0 hBx hV
 have hs := askAt_size hA h0
 have hb : Blk V w.heap.size #[.int .i64 14, .slice ka kn kc, .string text, .int .i64 lo, .int .i64 hi, .slice aa an ac] 25 := (hA.new _ (Nat.le_refl _) (by have := hP.lt; simp; omega)).trans (hP.alloc _)
 have hb2 : Blk V W1.heap.size #[.func (.func 136) #[] #[.pointer (some ⟨w.heap.size, 0, none⟩)]] 116 := (hA.new _ hB1.size (by simp)).trans (Blk.new W1 _ _)
 have hr2 := hr.same (V := V) hA.same hs
 have h := plc1_is 136 _ eg2 (decide (Hd.dist (p.lat 0) (p.lon 0) (lat 0) (lon 0) ≤ lo)) p _ V hb2 hI (fun _ W hW => ask11_is _ _ _ 14 ka kn kc text lo hi aa an ac lat lon W (hb.keep hW) (hr2.keep hW) hn.out)
 first
  | with_reducible exact h
  | exact h
  | (rw [Bool.and_true] at h; exact h)

theorem asking_15 (ka : Option Addr) (kn kc : Nat) (text : ByteArray) (lo hi : Int) (aa : Option Addr) (an ac : Nat) (lat lon : Nat → Int) (w0 w : World) (h0 : Below w0.heap.size w0 w) (hr : Row2 w0 aa an (fun i => .int .i64 (lat i)) (fun i => .int .i64 (lon i))) (hn : Hid (an = 2)) : Calls Tryz.prog 82 #[.agg #[.int .i64 15, .slice ka kn kc, .string text, .int .i64 lo, .int .i64 hi, .slice aa an ac]] w (AskPost w0 w fun p => Hd.leaf p 15 text lo hi lat lon) := by
 have eg2 : ∀ args W, (callFunc 138 args).run Tryz.prog W = .ok (.enter 138 args) W := enters_of Tryz.func138 (by kernel_rfl) rfl
 have HC := Lib.hid (fun lb W => placed_fn 138 lb W)
 obtain ⟨W1, hW1, hP, hz1, hB1⟩ := box w #[.int .i64 15, .slice ka kn kc, .string text, .int .i64 lo, .int .i64 hi, .slice aa an ac] 25
 have HW1 := Lib.hid hW1
 obtain ⟨l0, l1, l2, l3, l4, l5⟩ := hP.six
 clear hW1 hz1
 go_enter Tryz.func82, Tryz.ntmps82
 go_upto_region 1 with fail
 rw [HW1.out]
 go_wp2_with (go_at_call 134; (with_reducible refine (HC.out _ _).mono ?_); rintro e w4 ⟨rfl, rfl⟩)
 go_ret
 have hBx := below_allocs hB1 (.cells #[.func (.func 138) #[] #[.pointer (some ⟨w.heap.size, 0, none⟩)]] 116)
 refine ⟨_, _, rfl, ⟨egPlc, fun V p hV hI hR => ?_⟩, hBx⟩
 have hA := askAt h0 hBx hV
 have hs := askAt_size hA h0
 have hb : Blk V w.heap.size #[.int .i64 15, .slice ka kn kc, .string text, .int .i64 lo, .int .i64 hi, .slice aa an ac] 25 := (hA.new _ (Nat.le_refl _) (by have := hP.lt; simp; omega)).trans (hP.alloc _)
 have hb2 : Blk V W1.heap.size #[.func (.func 138) #[] #[.pointer (some ⟨w.heap.size, 0, none⟩)]] 116 := (hA.new _ hB1.size (by simp)).trans (Blk.new W1 _ _)
 have hr2 := hr.same (V := V) hA.same hs
 have h := plc1_is 138 _ eg2 (Hd.box (p.lat 0) (p.lon 0) (lat 0) (lon 0) (lat 1) (lon 1)) p _ V hb2 hI (fun _ W hW => ask12_is _ _ _ 15 ka kn kc text lo hi aa an ac lat lon W (hb.keep hW) (hr2.keep hW) hn.out)
 first
  | with_reducible exact h
  | exact h
  | (rw [Bool.and_true] at h; exact h)
theorem Dm.lt {w0 w w' : World} {b : Nat} (h0 : w0.heap.size ≤ w.heap.size) (h1 : w.heap.size ≤ w'.heap.size) (h : Dm w0 w w' b) : b < w'.heap.size := by
 rcases h with h | h <;> omega
theorem AskIs.keep {f : Ph → Bool} {D : Nat → Prop} {w V : World} {g : Nat} {lb : Array Value} (h : AskIs f D w g lb) (hV : ∀ b, D b → V.heap[b]? = w.heap[b]?) : AskIs f D V g lb :=
 ⟨h.1, fun V' p h' hI hR => h.2 V' p (fun b hb => (h' b hb).trans (hV b hb)) hI hR⟩
structure Kids (w0 w W1 : World) (c : Cnd) (j : Nat) (v : Value) (wr : World) : Prop where
 rows : ∃ xs, wr.ownsRow W1.heap.size 81 1 v j xs ∧ ∀ k, k < j → ∃ x D, xs[k]? = some x ∧ NodeIs (fun p => (c.kids k).holds p) D wr x ∧ ∀ b, D b → (b < w0.heap.size ∨ w.heap.size ≤ b) ∧ b < wr.heap.size ∧ v.ownBlock ≠ some b
 bel : Below W1.heap.size W1 wr
theorem Kids.next {w0 w W1 : World} {c : Cnd} {j : Nat} {v x : Value} {wr w7 w8 : World} {g cap : Nat} {E : Nat → Prop} (h : Kids w0 w W1 c j v wr) (hw0 : w0.heap.size ≤ w.heap.size) (hw : w.heap.size ≤ W1.heap.size) (hB7 : Below wr.heap.size wr w7) (hx : NodeIs (fun p => (c.kids j).holds p) E w7 x) (hE : ∀ b, E b → b < w0.heap.size ∨ (wr.heap.size ≤ b ∧ b < w7.heap.size)) (o : Obj)
  (xs : List Value) (hxs : wr.ownsRow W1.heap.size 81 1 v j xs) (hall : ∀ k, k < j → ∃ x D, xs[k]? = some x ∧ NodeIs (fun p => (c.kids k).holds p) D wr x ∧ ∀ b, D b → (b < w0.heap.size ∨ w.heap.size ≤ b) ∧ b < wr.heap.size ∧ v.ownBlock ≠ some b)
  (hown : w8.ownsRow W1.heap.size 81 1 (.slice (some ⟨g, 0, none⟩) (j + 1) cap) (j + 1) (xs ++ [x])) (hgr : (w7.alloc o).grownBy w8 v.ownBlock) (hnew : NewOr (w7.alloc o) v.ownBlock g) : Kids w0 w W1 c (j + 1) (.slice (some ⟨g, 0, none⟩) (j + 1) cap) w8 := by
 have hs7 := hB7.size
 have hs8 : w7.heap.size + 1 ≤ w8.heap.size := by have := hgr.size; simp at this; omega
 have hWr := h.bel.size
 have hlen : xs.length = j := by have := hxs.1; omega
 have hbl : ∀ b, b < w7.heap.size → v.ownBlock ≠ some b → w8.heap[b]? = w7.heap[b]? := by
  intro b hb hne
  rw [hgr.block b (by simp; omega) (fun e => hne e.symm)]
  exact Below.heap_alloc w7 o b hb
 have hlt : ∀ b, v.ownBlock = some b → W1.heap.size ≤ b ∧ b < wr.heap.size := hxs.lt
 refine ⟨⟨_, hown, ?_⟩, ?_⟩
 ·intro k hk
  by_cases e : k = j
  ·subst e
   refine ⟨x, E, by rw [List.getElem?_append_right (by omega)]; simp [hlen], hx.keep fun b hb => hbl b ?_ ?_, fun b hb => ⟨?_, ?_, ?_⟩⟩
   ·rcases hE b hb with h1 | h1 <;> omega
   ·intro e; have := hlt b e; rcases hE b hb with h1 | h1 <;> omega
   ·rcases hE b hb with h1 | h1 <;> omega
   ·rcases hE b hb with h1 | h1 <;> omega
   ·intro e
    have e : g = b := by simpa [Value.ownBlock] using e
    subst e
    rcases hnew with h1 | h1
    ·have := hlt g h1; rcases hE g hb with h2 | h2 <;> omega
    ·simp at h1; rcases hE g hb with h2 | h2 <;> omega
  ·obtain ⟨y, D, hy, hN, hD⟩ := hall k (by omega)
   refine ⟨y, D, by rw [List.getElem?_append_left (by omega)]; exact hy, hN.keep fun b hb => ?_, fun b hb => ⟨(hD b hb).1, ?_, ?_⟩⟩
   ·have := hD b hb
    exact (hbl b (by omega) this.2.2).trans (hB7.block b this.2.1)
   ·have := hD b hb; omega
   ·intro e
    have e : g = b := by simpa [Value.ownBlock] using e
    subst e
    have h3 := hD g hb
    rcases hnew with h1 | h1
    ·exact h3.2.2 h1
    ·simp at h1; omega
 ·refine h.bel.trans ((hB7.mono hWr).trans ?_)
  have hal : Below W1.heap.size w7 (w7.alloc o) := (Below.refl _ _).alloc (by omega) o
  refine hal.trans ⟨hgr.os, hgr.tape, hgr.output, hgr.size, fun b hb => hgr.block b (by simp; omega) fun e => ?_⟩
  have := hlt b e.symm; omega
namespace Fd
end Fd
def Hd.err (e : Int) (c : Cnd) : Int := if e = 0 then c.err else e
end Go.Proofs.YtimjmjmpaicdbaaGreatDoor
