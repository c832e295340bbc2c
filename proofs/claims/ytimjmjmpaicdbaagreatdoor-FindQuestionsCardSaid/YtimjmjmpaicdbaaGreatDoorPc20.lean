/- Parts of the proof, no condition: CxLaw, FdLib, OpenF. -/
import Derived.Test.YtimjmjmpaicdbaaGreatDoorPc19
import Derived.Test.YtimjmjmpaicdbaaGreatDoorPc12
import Derived.Test.YtimjmjmpaicdbaaGreatDoorPc1
import Derived.Deep.SlicePairs
import Derived.SliceStrings
import Derived.Test.YtimjmjmpaicdbaaGreatDoorPc4
set_option maxRecDepth 100000
set_option maxHeartbeats 4000000
set_option linter.unusedSimpArgs false
set_option linter.unusedVariables false
namespace Go.Proofs.YtimjmjmpaicdbaaGreatDoor
open Go.RowKit Go.Sort Go.Shelf
noncomputable def Cx.top (c : Cnd) : ByteArray × Int := if c.err = 0 then (if (Cx.txt c).2 = 0 then (Tx.mk (Cx.txt c).1, 0) else (⟨#[]⟩, 1)) else (⟨#[]⟩, c.err)
theorem Cx.top_err {c : Cnd} (h : c.err ≠ 0) : Cx.top c = (⟨#[]⟩, c.err) := if_neg h
theorem Cx.top_ok {c : Cnd} (h : c.err = 0) (h2 : (Cx.txt c).2 = 0) : Cx.top c = (Tx.mk (Cx.txt c).1, 0) := by unfold Cx.top; rw [if_pos h, if_pos h2]
theorem Cx.top_form {c : Cnd} (h : c.err = 0) (h2 : (Cx.txt c).2 ≠ 0) : Cx.top c = (⟨#[]⟩, 1) := by unfold Cx.top; rw [if_pos h, if_neg h2]
theorem condTextTop_is (c : Cnd) (w : World) (hI : c.In w) (hF : c.Fits) (ht : Tx.Tab w) (hmx : Mx w) :
  Calls Tryz.prog 6 #[.agg #[.int .i64 c.op, .slice c.ka c.kn c.kc, .string c.text, .int .i64 c.low, .int .i64 c.high, .slice c.aa c.an c.ac]] w fun e w' => e = .returned (.tuple #[.string (Cx.top c).1, .int .i64 (Cx.top c).2]) ∧ Below w.heap.size w w' := by
 obtain ⟨W1, hW1, hP, hz1, hB1⟩ := box w #[.int .i64 c.op, .slice c.ka c.kn c.kc, .string c.text, .int .i64 c.low, .int .i64 c.high, .slice c.aa c.an c.ac] 25
 have HW1 := Lib.hid hW1
 have hI1 := Cnd.In.keep hB1 hI
 have HP := Lib.hid hP
 obtain ⟨q0, q1, q2, q3, q4, q5⟩ := hP.six
 clear hW1 hP
 have HCC := Lib.hid (checkCond_is c W1 hI1 hF)
 by_cases h0 : c.err = 0
 ·have hg := Cnd.good_of hI h0
  have hcn := Cx.cnt_le hI h0
  have HTX := Lib.hid (fun W2 (hb : Below W1.heap.size W1 W2) => condText_is c hg hcn W2 (Cnd.In.keep hb hI1) (Tx.tab_below (Tx.tab_below ht hB1) hb) ((hmx.below hB1).below hb))
  have hor := Cx.txt_err hg
  have hsz : (Tx.mk (Cx.txt c).1).size ≤ 51200 := by
   have := Cx.txt_len c hg
   rw [Tx.mk_size]; omega
  have HTOP := Lib.hid (Cx.top_ok h0)
  have HTOPF := Lib.hid (Cx.top_form h0)
  rw [h0] at HCC
  clear hI hI1 hF ht hmx h0 hg hcn
  generalize Cx.top c = tp at *
  generalize Tx.mk (Cx.txt c).1 = S at *
  generalize (Cx.txt c).2 = e0 at *
  rcases hor with rfl | rfl
  ·have HT := Lib.hid (HTOP.out rfl)
   clear HTOP HTOPF
   go_enter Tryz.func6, Tryz.ntmps6
   go_wp2_with fail
   rw [HW1.out]
   go_wp2_with (first
    | (go_at_call 8; refine HCC.out.mono ?_; rintro e w2 ⟨rfl, hB2⟩; obtain ⟨r0, r1, r2, r3, r4, r5⟩ := (HP.out.keep hB2).six)
    | (go_at_call 21; refine (HTX.out _ hB2).mono ?_; rintro e w3 ⟨rfl, hB3⟩))
   go_ret2
   exact ⟨by rw [HT.out]; rfl, below_up (below_up hB1 hB2) hB3⟩
  ·have HT := Lib.hid (HTOPF.out (by decide))
   clear HTOP HTOPF
   go_enter Tryz.func6, Tryz.ntmps6
   go_wp2_with fail
   rw [HW1.out]
   go_wp2_with (first
    | (go_at_call 8; refine HCC.out.mono ?_; rintro e w2 ⟨rfl, hB2⟩; obtain ⟨r0, r1, r2, r3, r4, r5⟩ := (HP.out.keep hB2).six)
    | (go_at_call 21; refine (HTX.out _ hB2).mono ?_; rintro e w3 ⟨rfl, hB3⟩))
   go_ret2
   exact ⟨by rw [HT.out]; rfl, below_up (below_up hB1 hB2) hB3⟩
 ·have HT := Lib.hid (Cx.top_err h0)
  have h1 : (c.err != 0) = true := by simpa using h0
  clear hI hI1 hF ht hmx HP
  generalize Cx.top c = tp at *
  generalize c.err = q at *
  clear h0
  go_enter Tryz.func6, Tryz.ntmps6
  go_wp2_with fail
  rw [HW1.out]
  go_wp2_with (go_at_call 8; refine HCC.out.mono ?_; rintro e w2 ⟨rfl, hB2⟩)
  go_ret2
  exact ⟨by rw [HT.out]; rfl, below_up hB1 hB2⟩
theorem condTextLaw_is (c : Cnd) (w : World) (hI : c.In w) (hF : c.Fits) (hmx : Mx w) :
  Calls Tryz.prog 7 #[.agg #[.int .i64 c.op, .slice c.ka c.kn c.kc, .string c.text, .int .i64 c.low, .int .i64 c.high, .slice c.aa c.an c.ac]] w fun e w' => e = .returned (.tuple #[.string (Cx.top c).1, .int .i64 (Cx.top c).2]) ∧ Below w.heap.size w w' := by
 obtain ⟨W1, hW1, hP, hz1, hB1⟩ := box w #[.int .i64 c.op, .slice c.ka c.kn c.kc, .string c.text, .int .i64 c.low, .int .i64 c.high, .slice c.aa c.an c.ac] 25
 have HW1 := Lib.hid hW1
 have hI1 := Cnd.In.keep hB1 hI
 have HP := Lib.hid hP
 obtain ⟨q0, q1, q2, q3, q4, q5⟩ := hP.six
 clear hW1 hP
 have HCC := Lib.hid (condError_is c W1 hI1 hF)
 by_cases h0 : c.err = 0
 ·have hg := Cnd.good_of hI h0
  have hcn := Cx.cnt_le hI h0
  have HTX := Lib.hid (fun W2 (hb : Below W1.heap.size W1 W2) => condStr_is c hg hcn W2 (Cnd.In.keep hb hI1) ((hmx.below hB1).below hb))
  have hor := Cx.txt_err hg
  have hsz : (Tx.mk (Cx.txt c).1).size ≤ 51200 := by
   have := Cx.txt_len c hg
   rw [Tx.mk_size]; omega
  have HTOP := Lib.hid (Cx.top_ok h0)
  have HTOPF := Lib.hid (Cx.top_form h0)
  rw [h0] at HCC
  clear hI hI1 hF hmx h0 hg hcn
  generalize Cx.top c = tp at *
  generalize Tx.mk (Cx.txt c).1 = S at *
  generalize (Cx.txt c).2 = e0 at *
  rcases hor with rfl | rfl
  ·have HT := Lib.hid (HTOP.out rfl)
   rw [show ((0 : Int) == 0) = true from rfl] at HTX
   clear HTOP HTOPF
   go_enter Tryz.func7, Tryz.ntmps7
   go_wp2_with fail
   rw [HW1.out]
   go_wp2_with (first
    | (go_at_call 9; refine HCC.out.mono ?_; rintro e w2 ⟨rfl, hB2⟩; obtain ⟨r0, r1, r2, r3, r4, r5⟩ := (HP.out.keep hB2).six)
    | (go_at_call 22; refine (HTX.out _ hB2).mono ?_; rintro e w3 ⟨rfl, hB3⟩))
   go_ret2
   exact ⟨by rw [HT.out]; rfl, below_up (below_up hB1 hB2) hB3⟩
  ·have HT := Lib.hid (HTOPF.out (by decide))
   rw [show ((1 : Int) == 0) = false from rfl] at HTX
   clear HTOP HTOPF
   go_enter Tryz.func7, Tryz.ntmps7
   go_wp2_with fail
   rw [HW1.out]
   go_wp2_with (first
    | (go_at_call 9; refine HCC.out.mono ?_; rintro e w2 ⟨rfl, hB2⟩; obtain ⟨r0, r1, r2, r3, r4, r5⟩ := (HP.out.keep hB2).six)
    | (go_at_call 22; refine (HTX.out _ hB2).mono ?_; rintro e w3 ⟨rfl, hB3⟩))
   go_ret2
   exact ⟨by rw [HT.out]; rfl, below_up (below_up hB1 hB2) hB3⟩
 ·have HT := Lib.hid (Cx.top_err h0)
  have h1 : (c.err != 0) = true := by simpa using h0
  clear hI hI1 hF hmx HP
  generalize Cx.top c = tp at *
  generalize c.err = q at *
  clear h0
  go_enter Tryz.func7, Tryz.ntmps7
  go_wp2_with fail
  rw [HW1.out]
  go_wp2_with (go_at_call 9; refine HCC.out.mono ?_; rintro e w2 ⟨rfl, hB2⟩)
  go_ret2
  exact ⟨by rw [HT.out]; rfl, below_up hB1 hB2⟩
theorem findConds_walk (c : Cnd) (w : World) (hI : c.In w) (hF : c.Fits) (ht : Tx.Tab w) (hmx : Mx w) :
  Calls Tryz.prog 3 #[.agg #[.int .i64 c.op, .slice c.ka c.kn c.kc, .string c.text, .int .i64 c.low, .int .i64 c.high, .slice c.aa c.an c.ac]] w fun e w' => e = .returned (.bool true) ∧ Below w.heap.size w w' := by
 obtain ⟨W1, hW1, hP, hz1, hB1⟩ := box w #[.int .i64 c.op, .slice c.ka c.kn c.kc, .string c.text, .int .i64 c.low, .int .i64 c.high, .slice c.aa c.an c.ac] 25
 have HW1 := Lib.hid hW1
 have hI1 := Cnd.In.keep hB1 hI
 have HP := Lib.hid hP
 obtain ⟨q0, q1, q2, q3, q4, q5⟩ := hP.six
 clear hW1 hP
 have HI1 := Lib.hid hI1
 have H1 := Lib.hid (condTextTop_is c W1 hI1 hF (Tx.tab_below ht hB1) (hmx.below hB1))
 have H2 := Lib.hid (fun W2 (hb : Below W1.heap.size W1 W2) => condTextLaw_is c W2 (Cnd.In.keep hb hI1) hF ((hmx.below hB1).below hb))
 have H3 := Lib.hid (fun W2 (hb : Below W1.heap.size W1 W2) => checkCond_is c W2 (Cnd.In.keep hb hI1) hF)
 have H4 := Lib.hid (fun W2 (hb : Below W1.heap.size W1 W2) => condError_is c W2 (Cnd.In.keep hb hI1) hF)
 generalize (Cx.top c).1 = S at *
 generalize (Cx.top c).2 = e0 at *
 generalize c.err = q at *
 have hqq : (q == q) = true := by simp
 clear hI hI1 hF ht hmx
 go_enter Tryz.func3, Tryz.ntmps3
 go_wp2_with fail
 rw [HW1.out]
 go_wp2_with (first
  | (go_at_call 6; refine H1.out.mono ?_; rintro e w2 ⟨rfl, hB2⟩; obtain ⟨r0, r1, r2, r3, r4, r5⟩ := (HP.out.keep hB2).six)
  | (go_at_call 7; refine (H2.out _ hB2).mono ?_; rintro e w3 ⟨rfl, hB3⟩))
 obtain ⟨t0, t1, t2, t3, t4, t5⟩ := ((HP.out.keep hB2).keep hB3).six
 have HB3 := Lib.hid (below_up hB2 hB3)
 have HBW := Lib.hid (below_up (below_up hB1 hB2) hB3)
 have k0 := cell_regrown t0
 have k1 := cell_regrown t1
 have k2 := cell_regrown t2
 have k3 := cell_regrown t3
 have k4 := cell_regrown t4
 have k5 := cell_regrown t5
 have HC := Lib.hid (fun d os => Calls.regrown_of (H3.out (grow (redrawn w3 d) os) (below_up HB3.out (below_regrown w3 d os))))
 have HE := Lib.hid (fun d os => Calls.regrown_of (H4.out (grow (redrawn w3 d) os) (below_up HB3.out (below_regrown w3 d os))))
 clear t0 t1 t2 t3 t4 t5 r0 r1 r2 r3 r4 r5 q0 q1 q2 q3 q4 q5 hB1 hB2 hB3
 refine wp_region_quiet_below (by kernel_rfl) (by kernel_rfl) ?_
 repeat (go_big_quiet_step ((first | (go_at_call 8; with_reducible exact HC.out _ _) | (go_at_call 9; with_reducible exact HE.out _ _))))
 refine wpQuiet_nil ?_
 intro _ hw'
 obtain ⟨⟨dq, osq⟩, hw''⟩ := hw'
 subst hw''
 have hBw4 := below_regrown w3 dq osq
 generalize grow (redrawn w3 dq) osq = w4 at *
 clear dq osq
 go_wp2_with fail
 go_ret
 exact ⟨rfl, below_up HBW.out hBw4⟩
def PhAt (w : World) (b o : Nat) (p : Ph) : Prop :=
 w.cell? ⟨b, o, none⟩ = some (.int .i64 p.id) ∧ w.cell? ⟨b, o + 1, none⟩ = some (.string p.file) ∧ w.cell? ⟨b, o + 2, none⟩ = some (.int .i64 p.mom) ∧ w.cell? ⟨b, o + 3, none⟩ = some (.int .i64 p.zone) ∧ w.cell? ⟨b, o + 4, none⟩ = some (.slice p.wa p.wn p.wc) ∧ w.cell? ⟨b, o + 5, none⟩ = some (.int .i64 p.W) ∧ w.cell? ⟨b, o + 6, none⟩ = some (.int .i64 p.H) ∧ w.cell? ⟨b, o + 7, none⟩ = some (.int .i64 p.turn) ∧ w.cell? ⟨b, o + 8, none⟩ = some (.int .i64 p.stars) ∧ w.cell? ⟨b, o + 9, none⟩ = some (.slice p.ta p.tn p.tc) ∧ w.cell? ⟨b, o + 10, none⟩ = some (.string p.cap) ∧ w.cell? ⟨b, o + 11, none⟩ = some (.slice p.pa p.pn p.pc) ∧ w.cell? ⟨b, o + 12, none⟩ = some (.bool p.hid)
theorem PhAt.keep {w w' : World} {b o : Nat} {p : Ph} (h : PhAt w b o p) (hb : Below w.heap.size w w') (hl : b < w.heap.size) : PhAt w' b o p := by
 obtain ⟨h0, h1, h2, h3, h4, h5, h6, h7, h8, h9, h10, h11, h12⟩ := h
 exact ⟨(hb.cell hl).trans h0, (hb.cell hl).trans h1, (hb.cell hl).trans h2, (hb.cell hl).trans h3, (hb.cell hl).trans h4, (hb.cell hl).trans h5, (hb.cell hl).trans h6, (hb.cell hl).trans h7, (hb.cell hl).trans h8, (hb.cell hl).trans h9, (hb.cell hl).trans h10, (hb.cell hl).trans h11, (hb.cell hl).trans h12⟩
structure Phs (w : World) (a : Option Addr) (n : Nat) (x : Nat → Ph) : Prop where
 row : 0 < n → ∃ b off, a = some ⟨b, off, none⟩ ∧ b < w.heap.size ∧ ∀ i, i < n → PhAt w b (off + i * 13) (x i)
 each : ∀ i, i < n → (x i).In w
theorem Phs.keep {w w' : World} {a : Option Addr} {n : Nat} {x : Nat → Ph} (h : Phs w a n x) (hb : Below w.heap.size w w') : Phs w' a n x := by
 refine ⟨fun hn => ?_, fun i hi => (h.each i hi).keep hb⟩
 obtain ⟨b, off, rfl, hl, hc⟩ := h.row hn
 exact ⟨b, off, rfl, Nat.lt_of_lt_of_le hl hb.size, fun i hi => (hc i hi).keep hb hl⟩
namespace Fd
end Fd
end Go.Proofs.YtimjmjmpaicdbaaGreatDoor
namespace Go.Proofs.YtimjmjmpaicdbaaGreatDoor
open Go.ChangeShapes Go.WideShapes Go.ChangeAt Go.RowKit Go.Joins Go.Deep
section
variable {H : Type} {enc : TypeId × Value → H} {w : World} {base : Nat} {spare : Nat → Bool} {held : Bool}
theorem addr_add (b off j : Nat) : (⟨b, off, none⟩ : Addr).add j = ⟨b, off + j, none⟩ := by unfold Addr.add; split <;> simp_all
theorem cellsPlace : Tryz.prog.cellsOf 112 = 2 := by kernel_rfl
theorem open_placesF {v : Value} {n : Nat} {y : DataW H × List MemPlace} (hf : DataW.trod enc Tryz.prog w base spare held n 23 [v] = some y) :
  ∃ (a : Option Addr) (len cap : Nat) (S T : Nat → Int), v = .slice a len cap ∧ len ≤ 9223372036854775807 ∧ Row2 w a len (fun i => .int .i64 (S i)) (fun i => .int .i64 (T i)) := by
 rcases open_slice_pairs Tryz.underlying23 Tryz.underlying112 cellsPlace rfl rfl (by kernel_rfl) (by kernel_rfl) hf with ⟨hcs, _⟩ | ⟨x, l, c, m, n, V0, V1, D0, D1, P0, P1, hcs, _, hl, hm, hmm, _, hx⟩
 ·simp at hcs
  subst hcs
  exact ⟨none, 0, 0, fun _ => 0, fun _ => 0, rfl, by omega, fun h => by omega⟩
 ·simp at hcs
  subst hcs
  have hlm : l ≤ m := by rw [hmm]; split <;> omega
  obtain ⟨S, T, hr, hw⟩ := row2_of (w := w) (x := x) (V0 := V0) (V1 := V1) hlm (fun i hi => by
   obtain ⟨e0, e1, t0, t1⟩ := hx i hi
   obtain ⟨n0, q0, _, w0⟩ := DataW.trod_int Tryz.underlying3 t0
   obtain ⟨n1, q1, _, w1⟩ := DataW.trod_int Tryz.underlying3 t1
   exact ⟨e0, e1, ⟨n0, by simpa using q0, w0⟩, ⟨n1, by simpa using q1, w1⟩⟩)
  exact ⟨some x, l, c, S, T, rfl, by unfold maxLen at hm; omega, hr⟩
theorem some_at {α : Type} {xs : List α} {n i : Nat} (h : xs.length = n) (hi : i < n) : ∃ y, xs[i]? = some y := ⟨_, List.getElem?_eq_getElem (by omega)⟩
end
section
variable {H : Type} {enc : TypeId × Value → H} {w : World} {base : Nat} {spare : Nat → Bool} {held : Bool}
end
section
variable {H : Type} {enc : TypeId × Value → H} {w : World} {base : Nat} {spare : Nat → Bool} {held : Bool}
theorem cellsCond : Tryz.prog.cellsOf 25 = 6 := by kernel_rfl
theorem list6 {α : Type} {cs : List α} (h : cs.length = 6) : ∃ c0 c1 c2 c3 c4 c5, cs = [c0, c1, c2, c3, c4, c5] := by
 match cs, h with
 | [c0, c1, c2, c3, c4, c5], _ => exact ⟨c0, c1, c2, c3, c4, c5, rfl⟩
theorem open_cond_cells : ∀ (fuel : Nat) {cs : List Value} {y : DataW H × List MemPlace}, DataW.trod enc Tryz.prog w base spare held fuel 25 cs = some y → ∃ c : Cnd, cs = c.cells ∧ c.In w ∧ c.Fits := by
 intro fuel
 induction fuel using Nat.strongRecOn with
 | _ fuel ih =>
 intro cs y hf
 obtain ⟨xs, n, hfn, _, hl, hlen, hg⟩ := DataW.trod_struct Tryz.underlying25 hf
 have hlen : xs.length = 6 := hlen
 rw [cellsCond] at hl
 obtain ⟨c0, c1, c2, c3, c4, c5, rfl⟩ := list6 hl
 obtain ⟨y0, e0⟩ := some_at hlen (show 0 < 6 by omega)
 obtain ⟨y1, e1⟩ := some_at hlen (show 1 < 6 by omega)
 obtain ⟨y2, e2⟩ := some_at hlen (show 2 < 6 by omega)
 obtain ⟨y3, e3⟩ := some_at hlen (show 3 < 6 by omega)
 obtain ⟨y4, e4⟩ := some_at hlen (show 4 < 6 by omega)
 obtain ⟨y5, e5⟩ := some_at hlen (show 5 < 6 by omega)
 have g0 : DataW.trod enc Tryz.prog w base spare held n 3 [c0] = some y0 := (hg 0 _ rfl).trans e0
 have g1 : DataW.trod enc Tryz.prog w base spare held n 22 [c1] = some y1 := (hg 1 _ rfl).trans e1
 have g2 : DataW.trod enc Tryz.prog w base spare held n 9 [c2] = some y2 := (hg 2 _ rfl).trans e2
 have g3 : DataW.trod enc Tryz.prog w base spare held n 3 [c3] = some y3 := (hg 3 _ rfl).trans e3
 have g4 : DataW.trod enc Tryz.prog w base spare held n 3 [c4] = some y4 := (hg 4 _ rfl).trans e4
 have g5 : DataW.trod enc Tryz.prog w base spare held n 23 [c5] = some y5 := (hg 5 _ rfl).trans e5
 clear hg hf
 obtain ⟨op, q0, _, _⟩ := DataW.trod_int Tryz.underlying3 g0
 obtain ⟨text, q2, _, s2⟩ := DataW.trod_string Tryz.underlying9 g2
 obtain ⟨low, q3, _, _⟩ := DataW.trod_int Tryz.underlying3 g3
 obtain ⟨high, q4, _, _⟩ := DataW.trod_int Tryz.underlying3 g4
 obtain ⟨aa, an, ac, lat, lon, rfl, s5, r5⟩ := open_placesF g5
 simp only [List.cons.injEq, and_true] at q0 q2 q3 q4
 subst q0 q2 q3 q4
 have st : text.size ≤ 9223372036854775807 := by unfold maxLen at s2; omega
 rcases DataW.trod_slice Tryz.underlying22 g1 with ⟨hk, _⟩ | ⟨x, len, cap, elems, rest, m, hm, hcs, _, _, hlc, hcm, hel, hix, _, _⟩
 ·simp only [List.cons.injEq, and_true] at hk
  subst hk
  exact ⟨.mk op none 0 0 (fun _ => .zero) text low high aa an ac lat lon, rfl, ⟨fun h => by omega, fun i h => by omega, r5⟩, ⟨by omega, s5, st, fun i h => by omega⟩⟩
 ·simp only [List.cons.injEq, and_true] at hcs
  subst hcs
  have each : ∀ i, i < len → ∃ c : Cnd, (∀ k v, c.cells[k]? = some v → w.cell? (x.add (i * 6 + k)) = some v) ∧ c.In w ∧ c.Fits ∧ c.cells.length = 6 := by
   intro i hi
   have h := hix i hi
   rw [List.getElem?_eq_getElem (by omega)] at h
   obtain ⟨cs', h1, h2⟩ := Option.bind_eq_some_iff.1 h
   rw [cellsCond] at h1
   obtain ⟨_, hlen', hcell⟩ := World.cells?_some h1
   obtain ⟨q, hq, hI, hF⟩ := ih m (by omega) h2
   refine ⟨q, fun k v hk => ?_, hI, hF, by rw [← hq]; exact hlen'⟩
   rw [← hq] at hk
   have hk6 : k < 6 := by have := (List.getElem?_eq_some_iff.1 hk).1; omega
   have := hcell k (by omega)
   rw [Addr.add_add] at this
   rw [this, hk]
  obtain ⟨Q, hQ⟩ : ∃ Q : Nat → Cnd, ∀ i, i < len → (∀ k v, (Q i).cells[k]? = some v → w.cell? (x.add (i * 6 + k)) = some v) ∧ (Q i).In w ∧ (Q i).Fits ∧ (Q i).cells.length = 6 :=
   ⟨fun i => if h : i < len then Classical.choose (each i h) else .zero, fun i hi => by simp only [dif_pos hi]; exact Classical.choose_spec (each i hi)⟩
  refine ⟨.mk op (some x) len cap Q text low high aa an ac lat lon, rfl, ⟨fun h0 => ?_, fun i hi => (hQ i hi).2.1, r5⟩, ⟨by unfold maxLen at hcm; omega, s5, st, fun i hi => (hQ i hi).2.2.1⟩⟩
  obtain ⟨b, off, spot⟩ := x
  obtain ⟨v0, hv0⟩ : ∃ v, (Q 0).cells[0]? = some v := ⟨_, List.getElem?_eq_getElem (by rw [(hQ 0 h0).2.2.2]; omega)⟩
  have hc := (hQ 0 h0).1 0 v0 hv0
  have hspot : spot = none := by simpa [Addr.add] using World.cell?_spot hc
  subst hspot
  refine ⟨b, off, rfl, by simpa [Addr.add] using World.block_lt_of_cell? w _ hc, fun i hi j v hv => ?_⟩
  have := (hQ i hi).1 j v hv
  rwa [addr_add, ← Nat.add_assoc] at this
end
section
variable {H : Type} {enc : TypeId × Value → H} {w : World} {base : Nat} {spare : Nat → Bool} {held : Bool}
theorem open_cond {r : Reach} {b0 : Nat} {v : Value} {d : DataW H} {p : List MemPlace} (hv : Value.okWide Tryz.prog w r b0 25 v) (h : DataW.Trod enc Tryz.prog w base spare held 25 v d p) :
  ∃ q : Cnd, v = .agg #[.int .i64 q.op, .slice q.ka q.kn q.kc, .string q.text, .int .i64 q.low, .int .i64 q.high, .slice q.aa q.an q.ac] ∧ q.In w ∧ q.Fits := by
 obtain ⟨cs, rfl, hsz⟩ := okWide_struct Tryz.underlying25 hv
 obtain ⟨fuel, hf⟩ := h
 have hf : DataW.trod enc Tryz.prog w base spare held fuel 25 cs.toList = some (d, p) := by simpa [Value.cells] using hf
 obtain ⟨q, hq, hI, hF⟩ := open_cond_cells fuel hf
 refine ⟨q, ?_, hI, hF⟩
 rw [hI.cells] at hq
 rw [← hq]
end
end Go.Proofs.YtimjmjmpaicdbaaGreatDoor
