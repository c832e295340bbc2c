/- strings.Cut at this program; the cell of MaxLen. -/
import Derived.Test.YthldlffkgafgaaaDoorCutLays
import Derived.Test.YthldlffkgafgaaaDoorTxMath
import Derived.Test.YthldlffkgafgaaaDoorKit
import Derived.Shelf.Unicode.PredsPay
import Derived.Test.YthldlffkgafgaaaDoorSpOne3
namespace Go.Proofs.YthldlffkgafgaaaDoor
open Go.RowKit Go.Sort Go.Shelf
/-- The library's variable MaxLen holds some int. -/
def Mx (w : World) : Prop := ∃ m, w.cell? ⟨0, 0, none⟩ = some (.int .i64 m)
theorem Mx.below {w w' : World} (h : Mx w) (hb : Below w.heap.size w w') : Mx w' := by
  obtain ⟨m, hm⟩ := h
  exact ⟨m, cell_below hb hm⟩
theorem mx_of_shaped {w : World} (h : w.ShapedOpen Tryd.prog) : Mx w := Lay.cutM.s1_3 w h
theorem cut_is (s sep : List UInt8) (hs : s.length < 4294967281) (w : World) (hm : Mx w) :
    Calls Tryd.prog 62 #[.string (Tx.mk s), .string (Tx.mk sep)] w fun e w' => e = .returned (.tuple #[.string (Tx.mk (Lib.cut s sep).1), .string (Tx.mk (Lib.cut s sep).2.1), .bool (Lib.cut s sep).2.2]) ∧ Below w.heap.size w w' := by
  obtain ⟨m, hm⟩ := hm
  refine (Any.strings_Cut { Lay.cutM with } (Tx.mk s) (Tx.mk sep) m w (by rw [Tx.mk_size]; exact hs) hm).mono ?_
  rintro e w' ⟨rfl, n, rfl⟩
  exact ⟨rfl, below_drewN (Below.refl _ _) n⟩
theorem cut_len (s sep : List UInt8) : (Lib.cut s sep).1.length ≤ s.length ∧ (Lib.cut s sep).2.1.length ≤ s.length := by
  unfold Lib.cut
  split
  · simp; omega
  · simp
end Go.Proofs.YthldlffkgafgaaaDoor
namespace Go.Proofs.YthldlffkgafgaaaDoor
open Go.RowKit Go.Sort Go.Shelf
set_option linter.unusedVariables false
namespace Sp
/-- What a text of one or two units says. -/
def sp (fa ta ea fb tb eb : Int) (two : Bool) : Int × Int × Int :=
  if two = true then
    (if ea = 8 ∨ eb = 8 then (0, 0, 8) else if ea ≠ 0 ∨ eb ≠ 0 then (0, 0, 1) else if tb < fa then (0, 0, 5) else (fa, tb, 0))
  else (fa, ta, ea)
def span (s : List UInt8) : Int × Int × Int :=
  let a := kind (Lib.cut s [46, 46]).1
  let b := kind (Lib.cut s [46, 46]).2.1
  sp (outF a) (outT a) (outE a) (outF b) (outT b) (outE b) (Lib.cut s [46, 46]).2.2
theorem cum_le (y m : Int) (h : Cal.vld y m 1 = true) : Cal.num y m 1 ≤ Cal.num y m (Cal.len y m) := by
  have := Cal.len_bd y m; unfold Cal.num; omega
theorem out_cases (s : List UInt8) : (outE (kind s) = 0 ∧ 0 ≤ outF (kind s) ∧ outF (kind s) ≤ outT (kind s) ∧ outT (kind s) ≤ 6311433599) ∨ (outE (kind s) = 1 ∧ outF (kind s) = 0 ∧ outT (kind s) = 0) ∨ (outE (kind s) = 8 ∧ outF (kind s) = 0 ∧ outT (kind s) = 0) := by
  have key : ∀ a b : D3, (vld a = true → vld b = true → num a ≤ num b) → (outE (some (a, b)) = 0 ∧ 0 ≤ outF (some (a, b)) ∧ outF (some (a, b)) ≤ outT (some (a, b)) ∧ outT (some (a, b)) ≤ 6311433599) ∨ (outE (some (a, b)) = 1 ∧ outF (some (a, b)) = 0 ∧ outT (some (a, b)) = 0) ∨ (outE (some (a, b)) = 8 ∧ outF (some (a, b)) = 0 ∧ outT (some (a, b)) = 0) := by
    intro a b hab
    unfold outE outF outT
    by_cases h : vld a = true ∧ vld b = true
    · simp only [if_pos h]
      have h1 := num_bd h.1
      have h2 := num_bd h.2
      have h3 := hab h.1 h.2
      left; refine ⟨trivial, ?_, ?_, ?_⟩ <;> omega
    · simp only [if_neg h]
      right; left; simp
  have none8 : (outE none = 0 ∧ 0 ≤ outF none ∧ outF none ≤ outT none ∧ outT none ≤ 6311433599) ∨ (outE none = 1 ∧ outF none = 0 ∧ outT none = 0) ∨ (outE none = 8 ∧ outF none = 0 ∧ outT none = 0) := .inr (.inr ⟨rfl, rfl, rfl⟩)
  unfold kind
  split
  · split
    · apply key
      intro h _
      have h1 := (Cal.vld_iff _ _ _).1 h
      show Cal.num (Sc.fx s 0 4) 1 1 ≤ Cal.num (Sc.fx s 0 4) 12 31
      have := Cal.cum_bd (Sc.fx s 0 4) 12 (by omega) (by omega)
      have := Cal.cum_1 (Sc.fx s 0 4)
      unfold Cal.num; omega
    · exact none8
  · split
    · split
      · apply key
        intro h _
        exact cum_le _ _ h
      · exact none8
    · split
      · split
        · apply key
          intro _ _; omega
        · exact none8
      · exact none8
end Sp
/-- What Span returns. -/
def SpanPost (w : World) (r : Int × Int × Int) (e : Ending) (w' : World) : Prop := e = .returned (.tuple #[.agg #[.int .i64 r.1, .int .i64 r.2.1], .int .i64 r.2.2]) ∧ Below w.heap.size w w'
theorem SpanPost.mk {w w' : World} {r : Int × Int × Int} {F T E : Int} (h : r = (F, T, E)) (hB : Below w.heap.size w w') : SpanPost w r (.returned (.tuple #[.agg #[.int .i64 F, .int .i64 T], .int .i64 E])) w' := by rw [h]; exact ⟨rfl, hB⟩
/-- The contract of unit or one, of numbers of its own. -/
def UnitAt (f : FuncId) (x : ByteArray) (F T E : Int) : Prop := ∀ W, Calls Tryd.prog f #[.string x] W fun e w' => e = .returned (.tuple #[.agg #[.int .i64 F, .int .i64 T], .int .i64 E]) ∧ Below W.heap.size W w'
set_option maxRecDepth 100000 in
set_option maxHeartbeats 8000000 in
theorem span_two (x a b : ByteArray) (fa ta ea fb tb eb : Int) (w : World) (hmx : Mx w)
    (hcut : ∀ W, Mx W → Calls Tryd.prog 62 #[.string x, .string ⟨#[46, 46]⟩] W fun e w' => e = .returned (.tuple #[.string a, .string b, .bool true]) ∧ Below W.heap.size W w')
    (ha : UnitAt 63 a fa ta ea) (hb : UnitAt 63 b fb tb eb) (hea : ea = 0 ∨ ea = 1 ∨ ea = 8) (heb : eb = 0 ∨ eb = 1 ∨ eb = 8) :
    Calls Tryd.prog 27 #[.string x] w (SpanPost w (Sp.sp fa ta ea fb tb eb true)) := by
  have HA := Lib.hid ha
  have HB := Lib.hid hb
  clear ha hb
  rcases hea with rfl | rfl | rfl
  · rcases heb with rfl | rfl | rfl
    · by_cases hlt : tb < fa
      · have HO : Hid (Sp.sp fa ta 0 fb tb 0 true = (0, 0, 5)) := by show _ = _; simp [Sp.sp, hlt]
        -- two, of the program
        -- w.Span: the function; w.unit: the unit's function; : the result
        obtain ⟨W1, hW1, hP1, hz1, hB1⟩ := box w #[.int .i64 0, .int .i64 0] 45
        have HW1 := Lib.hid hW1
        have HCUT := Lib.hid (hcut W1 (hmx.below hB1))
        clear hcut hmx hW1
        go_enter Tryd.func27, Tryd.ntmps27
        go_wp2_with fail
        rw [HW1.out]
        go_at_call 62
        refine HCUT.out.mono ?_
        rintro e w2 ⟨rfl, hB2⟩
        have hQ1 := hP1.keep hB2
        have hBr := below_up hB1 hB2
        go_wp2_with fail
        go_at_call 63
        refine (HA.out _).mono ?_
        rintro e w3 ⟨rfl, hB3⟩
        have hQ1 := hQ1.keep hB3
        have hBr := below_up hBr hB3
        have hltw := hBr.size
        obtain ⟨c0, c1⟩ := hQ1.two
        have cf := hQ1.free
        have hlt3 : w.heap.size < w3.heap.size := by have := hB2.size; have := hB3.size; omega
        obtain ⟨W4, hW4, hP4, hz4, hB4⟩ := box w3 #[.int .i64 fa, .int .i64 ta] 45
        have HW4 := Lib.hid hW4
        have hQ4 := hQ1.keep hB4
        have hBr4 := below_up hBr hB4
        clear hW4
        obtain ⟨W5, hW5, hP5, hz5, hB5⟩ := box W4 #[.int .i64 fa, .int .i64 ta] 45
        have HW5 := Lib.hid hW5
        have hP4' := hP4.keep hB5
        have hQ5 := hQ4.keep hB5
        have hBr5 := below_up hBr4 hB5
        rw [hz4] at hP5
        clear hW5
        go_wp2_with fail
        rw [HW4.out, HW5.out]
        go_at_call 63
        refine (HB.out _).mono ?_
        rintro e w6 ⟨rfl, hB6⟩
        have hQ1 := hQ5.keep hB6
        have hA6 := hP4'.keep hB6
        have hC6 := hP5.keep hB6
        have hBr := below_up hBr5 hB6
        obtain ⟨c0, c1⟩ := hQ1.two
        have cf := hQ1.free
        obtain ⟨d0, d1⟩ := hA6.two
        obtain ⟨e0, e1⟩ := hC6.two
        have ef := hC6.free
        go_wp2_with fail
        refine bodyPost_ret (v := .tuple #[.agg #[.int .i64 0, .int .i64 0], .int .i64 5]) ?_ rfl ?_
        · simp [results, Tryd.results27, go_sem, c0, c1]
        · exact SpanPost.mk HO.out (((((hBr.setCell (by simp; omega) _).setCell (by simp; omega) _).setCell (Nat.le_refl _) _).setCell (Nat.le_refl _) _))
      · have HO : Hid (Sp.sp fa ta 0 fb tb 0 true = (fa, tb, 0)) := by show _ = _; simp [Sp.sp, hlt]
        -- two, of the program
        -- w.Span: the function; w.unit: the unit's function; : the result
        obtain ⟨W1, hW1, hP1, hz1, hB1⟩ := box w #[.int .i64 0, .int .i64 0] 45
        have HW1 := Lib.hid hW1
        have HCUT := Lib.hid (hcut W1 (hmx.below hB1))
        clear hcut hmx hW1
        go_enter Tryd.func27, Tryd.ntmps27
        go_wp2_with fail
        rw [HW1.out]
        go_at_call 62
        refine HCUT.out.mono ?_
        rintro e w2 ⟨rfl, hB2⟩
        have hQ1 := hP1.keep hB2
        have hBr := below_up hB1 hB2
        go_wp2_with fail
        go_at_call 63
        refine (HA.out _).mono ?_
        rintro e w3 ⟨rfl, hB3⟩
        have hQ1 := hQ1.keep hB3
        have hBr := below_up hBr hB3
        have hltw := hBr.size
        obtain ⟨c0, c1⟩ := hQ1.two
        have cf := hQ1.free
        have hlt3 : w.heap.size < w3.heap.size := by have := hB2.size; have := hB3.size; omega
        obtain ⟨W4, hW4, hP4, hz4, hB4⟩ := box w3 #[.int .i64 fa, .int .i64 ta] 45
        have HW4 := Lib.hid hW4
        have hQ4 := hQ1.keep hB4
        have hBr4 := below_up hBr hB4
        clear hW4
        obtain ⟨W5, hW5, hP5, hz5, hB5⟩ := box W4 #[.int .i64 fa, .int .i64 ta] 45
        have HW5 := Lib.hid hW5
        have hP4' := hP4.keep hB5
        have hQ5 := hQ4.keep hB5
        have hBr5 := below_up hBr4 hB5
        rw [hz4] at hP5
        clear hW5
        go_wp2_with fail
        rw [HW4.out, HW5.out]
        go_at_call 63
        refine (HB.out _).mono ?_
        rintro e w6 ⟨rfl, hB6⟩
        have hQ1 := hQ5.keep hB6
        have hA6 := hP4'.keep hB6
        have hC6 := hP5.keep hB6
        have hBr := below_up hBr5 hB6
        obtain ⟨c0, c1⟩ := hQ1.two
        have cf := hQ1.free
        obtain ⟨d0, d1⟩ := hA6.two
        obtain ⟨e0, e1⟩ := hC6.two
        have ef := hC6.free
        go_wp2_with fail
        refine bodyPost_ret (v := .tuple #[.agg #[.int .i64 fa, .int .i64 tb], .int .i64 0]) ?_ rfl ?_
        · simp [results, Tryd.results27, go_sem, c0, c1]
        · exact SpanPost.mk HO.out (((((hBr.setCell (by simp; omega) _).setCell (by simp; omega) _).setCell (Nat.le_refl _) _).setCell (Nat.le_refl _) _))
    · have HO : Hid (Sp.sp fa ta 0 fb tb 1 true = (0, 0, 1)) := by show _ = _; simp [Sp.sp]
      -- two, of the program
      -- w.Span: the function; w.unit: the unit's function; : the result
      obtain ⟨W1, hW1, hP1, hz1, hB1⟩ := box w #[.int .i64 0, .int .i64 0] 45
      have HW1 := Lib.hid hW1
      have HCUT := Lib.hid (hcut W1 (hmx.below hB1))
      clear hcut hmx hW1
      go_enter Tryd.func27, Tryd.ntmps27
      go_wp2_with fail
      rw [HW1.out]
      go_at_call 62
      refine HCUT.out.mono ?_
      rintro e w2 ⟨rfl, hB2⟩
      have hQ1 := hP1.keep hB2
      have hBr := below_up hB1 hB2
      go_wp2_with fail
      go_at_call 63
      refine (HA.out _).mono ?_
      rintro e w3 ⟨rfl, hB3⟩
      have hQ1 := hQ1.keep hB3
      have hBr := below_up hBr hB3
      have hltw := hBr.size
      obtain ⟨c0, c1⟩ := hQ1.two
      have cf := hQ1.free
      have hlt3 : w.heap.size < w3.heap.size := by have := hB2.size; have := hB3.size; omega
      obtain ⟨W4, hW4, hP4, hz4, hB4⟩ := box w3 #[.int .i64 fa, .int .i64 ta] 45
      have HW4 := Lib.hid hW4
      have hQ4 := hQ1.keep hB4
      have hBr4 := below_up hBr hB4
      clear hW4
      obtain ⟨W5, hW5, hP5, hz5, hB5⟩ := box W4 #[.int .i64 fa, .int .i64 ta] 45
      have HW5 := Lib.hid hW5
      have hP4' := hP4.keep hB5
      have hQ5 := hQ4.keep hB5
      have hBr5 := below_up hBr4 hB5
      rw [hz4] at hP5
      clear hW5
      go_wp2_with fail
      rw [HW4.out, HW5.out]
      go_at_call 63
      refine (HB.out _).mono ?_
      rintro e w6 ⟨rfl, hB6⟩
      have hQ1 := hQ5.keep hB6
      have hA6 := hP4'.keep hB6
      have hC6 := hP5.keep hB6
      have hBr := below_up hBr5 hB6
      obtain ⟨c0, c1⟩ := hQ1.two
      have cf := hQ1.free
      obtain ⟨d0, d1⟩ := hA6.two
      obtain ⟨e0, e1⟩ := hC6.two
      have ef := hC6.free
      go_wp2_with fail
      refine bodyPost_ret (v := .tuple #[.agg #[.int .i64 0, .int .i64 0], .int .i64 1]) ?_ rfl ?_
      · simp [results, Tryd.results27, go_sem, c0, c1]
      · exact SpanPost.mk HO.out (((((hBr.setCell (by simp; omega) _).setCell (by simp; omega) _).setCell (Nat.le_refl _) _).setCell (Nat.le_refl _) _))
    · have HO : Hid (Sp.sp fa ta 0 fb tb 8 true = (0, 0, 8)) := by show _ = _; simp [Sp.sp]
      -- two, of the program
      -- w.Span: the function; w.unit: the unit's function; : the result
      obtain ⟨W1, hW1, hP1, hz1, hB1⟩ := box w #[.int .i64 0, .int .i64 0] 45
      have HW1 := Lib.hid hW1
      have HCUT := Lib.hid (hcut W1 (hmx.below hB1))
      clear hcut hmx hW1
      go_enter Tryd.func27, Tryd.ntmps27
      go_wp2_with fail
      rw [HW1.out]
      go_at_call 62
      refine HCUT.out.mono ?_
      rintro e w2 ⟨rfl, hB2⟩
      have hQ1 := hP1.keep hB2
      have hBr := below_up hB1 hB2
      go_wp2_with fail
      go_at_call 63
      refine (HA.out _).mono ?_
      rintro e w3 ⟨rfl, hB3⟩
      have hQ1 := hQ1.keep hB3
      have hBr := below_up hBr hB3
      have hltw := hBr.size
      obtain ⟨c0, c1⟩ := hQ1.two
      have cf := hQ1.free
      have hlt3 : w.heap.size < w3.heap.size := by have := hB2.size; have := hB3.size; omega
      obtain ⟨W4, hW4, hP4, hz4, hB4⟩ := box w3 #[.int .i64 fa, .int .i64 ta] 45
      have HW4 := Lib.hid hW4
      have hQ4 := hQ1.keep hB4
      have hBr4 := below_up hBr hB4
      clear hW4
      obtain ⟨W5, hW5, hP5, hz5, hB5⟩ := box W4 #[.int .i64 fa, .int .i64 ta] 45
      have HW5 := Lib.hid hW5
      have hP4' := hP4.keep hB5
      have hQ5 := hQ4.keep hB5
      have hBr5 := below_up hBr4 hB5
      rw [hz4] at hP5
      clear hW5
      go_wp2_with fail
      rw [HW4.out, HW5.out]
      go_at_call 63
      refine (HB.out _).mono ?_
      rintro e w6 ⟨rfl, hB6⟩
      have hQ1 := hQ5.keep hB6
      have hA6 := hP4'.keep hB6
      have hC6 := hP5.keep hB6
      have hBr := below_up hBr5 hB6
      obtain ⟨c0, c1⟩ := hQ1.two
      have cf := hQ1.free
      obtain ⟨d0, d1⟩ := hA6.two
      obtain ⟨e0, e1⟩ := hC6.two
      have ef := hC6.free
      go_wp2_with fail
      refine bodyPost_ret (v := .tuple #[.agg #[.int .i64 0, .int .i64 0], .int .i64 8]) ?_ rfl ?_
      · simp [results, Tryd.results27, go_sem, c0, c1]
      · exact SpanPost.mk HO.out (((((hBr.setCell (by simp; omega) _).setCell (by simp; omega) _).setCell (Nat.le_refl _) _).setCell (Nat.le_refl _) _))
  · rcases heb with rfl | rfl | rfl
    · have HO : Hid (Sp.sp fa ta 1 fb tb 0 true = (0, 0, 1)) := by show _ = _; simp [Sp.sp]
      -- two, of the program
      -- w.Span: the function; w.unit: the unit's function; : the result
      obtain ⟨W1, hW1, hP1, hz1, hB1⟩ := box w #[.int .i64 0, .int .i64 0] 45
      have HW1 := Lib.hid hW1
      have HCUT := Lib.hid (hcut W1 (hmx.below hB1))
      clear hcut hmx hW1
      go_enter Tryd.func27, Tryd.ntmps27
      go_wp2_with fail
      rw [HW1.out]
      go_at_call 62
      refine HCUT.out.mono ?_
      rintro e w2 ⟨rfl, hB2⟩
      have hQ1 := hP1.keep hB2
      have hBr := below_up hB1 hB2
      go_wp2_with fail
      go_at_call 63
      refine (HA.out _).mono ?_
      rintro e w3 ⟨rfl, hB3⟩
      have hQ1 := hQ1.keep hB3
      have hBr := below_up hBr hB3
      have hltw := hBr.size
      obtain ⟨c0, c1⟩ := hQ1.two
      have cf := hQ1.free
      have hlt3 : w.heap.size < w3.heap.size := by have := hB2.size; have := hB3.size; omega
      obtain ⟨W4, hW4, hP4, hz4, hB4⟩ := box w3 #[.int .i64 fa, .int .i64 ta] 45
      have HW4 := Lib.hid hW4
      have hQ4 := hQ1.keep hB4
      have hBr4 := below_up hBr hB4
      clear hW4
      obtain ⟨W5, hW5, hP5, hz5, hB5⟩ := box W4 #[.int .i64 fa, .int .i64 ta] 45
      have HW5 := Lib.hid hW5
      have hP4' := hP4.keep hB5
      have hQ5 := hQ4.keep hB5
      have hBr5 := below_up hBr4 hB5
      rw [hz4] at hP5
      clear hW5
      go_wp2_with fail
      rw [HW4.out, HW5.out]
      go_at_call 63
      refine (HB.out _).mono ?_
      rintro e w6 ⟨rfl, hB6⟩
      have hQ1 := hQ5.keep hB6
      have hA6 := hP4'.keep hB6
      have hC6 := hP5.keep hB6
      have hBr := below_up hBr5 hB6
      obtain ⟨c0, c1⟩ := hQ1.two
      have cf := hQ1.free
      obtain ⟨d0, d1⟩ := hA6.two
      obtain ⟨e0, e1⟩ := hC6.two
      have ef := hC6.free
      go_wp2_with fail
      refine bodyPost_ret (v := .tuple #[.agg #[.int .i64 0, .int .i64 0], .int .i64 1]) ?_ rfl ?_
      · simp [results, Tryd.results27, go_sem, c0, c1]
      · exact SpanPost.mk HO.out (((((hBr.setCell (by simp; omega) _).setCell (by simp; omega) _).setCell (Nat.le_refl _) _).setCell (Nat.le_refl _) _))
    · have HO : Hid (Sp.sp fa ta 1 fb tb 1 true = (0, 0, 1)) := by show _ = _; simp [Sp.sp]
      -- two, of the program
      -- w.Span: the function; w.unit: the unit's function; : the result
      obtain ⟨W1, hW1, hP1, hz1, hB1⟩ := box w #[.int .i64 0, .int .i64 0] 45
      have HW1 := Lib.hid hW1
      have HCUT := Lib.hid (hcut W1 (hmx.below hB1))
      clear hcut hmx hW1
      go_enter Tryd.func27, Tryd.ntmps27
      go_wp2_with fail
      rw [HW1.out]
      go_at_call 62
      refine HCUT.out.mono ?_
      rintro e w2 ⟨rfl, hB2⟩
      have hQ1 := hP1.keep hB2
      have hBr := below_up hB1 hB2
      go_wp2_with fail
      go_at_call 63
      refine (HA.out _).mono ?_
      rintro e w3 ⟨rfl, hB3⟩
      have hQ1 := hQ1.keep hB3
      have hBr := below_up hBr hB3
      have hltw := hBr.size
      obtain ⟨c0, c1⟩ := hQ1.two
      have cf := hQ1.free
      have hlt3 : w.heap.size < w3.heap.size := by have := hB2.size; have := hB3.size; omega
      obtain ⟨W4, hW4, hP4, hz4, hB4⟩ := box w3 #[.int .i64 fa, .int .i64 ta] 45
      have HW4 := Lib.hid hW4
      have hQ4 := hQ1.keep hB4
      have hBr4 := below_up hBr hB4
      clear hW4
      obtain ⟨W5, hW5, hP5, hz5, hB5⟩ := box W4 #[.int .i64 fa, .int .i64 ta] 45
      have HW5 := Lib.hid hW5
      have hP4' := hP4.keep hB5
      have hQ5 := hQ4.keep hB5
      have hBr5 := below_up hBr4 hB5
      rw [hz4] at hP5
      clear hW5
      go_wp2_with fail
      rw [HW4.out, HW5.out]
      go_at_call 63
      refine (HB.out _).mono ?_
      rintro e w6 ⟨rfl, hB6⟩
      have hQ1 := hQ5.keep hB6
      have hA6 := hP4'.keep hB6
      have hC6 := hP5.keep hB6
      have hBr := below_up hBr5 hB6
      obtain ⟨c0, c1⟩ := hQ1.two
      have cf := hQ1.free
      obtain ⟨d0, d1⟩ := hA6.two
      obtain ⟨e0, e1⟩ := hC6.two
      have ef := hC6.free
      go_wp2_with fail
      refine bodyPost_ret (v := .tuple #[.agg #[.int .i64 0, .int .i64 0], .int .i64 1]) ?_ rfl ?_
      · simp [results, Tryd.results27, go_sem, c0, c1]
      · exact SpanPost.mk HO.out (((((hBr.setCell (by simp; omega) _).setCell (by simp; omega) _).setCell (Nat.le_refl _) _).setCell (Nat.le_refl _) _))
    · have HO : Hid (Sp.sp fa ta 1 fb tb 8 true = (0, 0, 8)) := by show _ = _; simp [Sp.sp]
      -- two, of the program
      -- w.Span: the function; w.unit: the unit's function; : the result
      obtain ⟨W1, hW1, hP1, hz1, hB1⟩ := box w #[.int .i64 0, .int .i64 0] 45
      have HW1 := Lib.hid hW1
      have HCUT := Lib.hid (hcut W1 (hmx.below hB1))
      clear hcut hmx hW1
      go_enter Tryd.func27, Tryd.ntmps27
      go_wp2_with fail
      rw [HW1.out]
      go_at_call 62
      refine HCUT.out.mono ?_
      rintro e w2 ⟨rfl, hB2⟩
      have hQ1 := hP1.keep hB2
      have hBr := below_up hB1 hB2
      go_wp2_with fail
      go_at_call 63
      refine (HA.out _).mono ?_
      rintro e w3 ⟨rfl, hB3⟩
      have hQ1 := hQ1.keep hB3
      have hBr := below_up hBr hB3
      have hltw := hBr.size
      obtain ⟨c0, c1⟩ := hQ1.two
      have cf := hQ1.free
      have hlt3 : w.heap.size < w3.heap.size := by have := hB2.size; have := hB3.size; omega
      obtain ⟨W4, hW4, hP4, hz4, hB4⟩ := box w3 #[.int .i64 fa, .int .i64 ta] 45
      have HW4 := Lib.hid hW4
      have hQ4 := hQ1.keep hB4
      have hBr4 := below_up hBr hB4
      clear hW4
      obtain ⟨W5, hW5, hP5, hz5, hB5⟩ := box W4 #[.int .i64 fa, .int .i64 ta] 45
      have HW5 := Lib.hid hW5
      have hP4' := hP4.keep hB5
      have hQ5 := hQ4.keep hB5
      have hBr5 := below_up hBr4 hB5
      rw [hz4] at hP5
      clear hW5
      go_wp2_with fail
      rw [HW4.out, HW5.out]
      go_at_call 63
      refine (HB.out _).mono ?_
      rintro e w6 ⟨rfl, hB6⟩
      have hQ1 := hQ5.keep hB6
      have hA6 := hP4'.keep hB6
      have hC6 := hP5.keep hB6
      have hBr := below_up hBr5 hB6
      obtain ⟨c0, c1⟩ := hQ1.two
      have cf := hQ1.free
      obtain ⟨d0, d1⟩ := hA6.two
      obtain ⟨e0, e1⟩ := hC6.two
      have ef := hC6.free
      go_wp2_with fail
      refine bodyPost_ret (v := .tuple #[.agg #[.int .i64 0, .int .i64 0], .int .i64 8]) ?_ rfl ?_
      · simp [results, Tryd.results27, go_sem, c0, c1]
      · exact SpanPost.mk HO.out (((((hBr.setCell (by simp; omega) _).setCell (by simp; omega) _).setCell (Nat.le_refl _) _).setCell (Nat.le_refl _) _))
  · have HO : Hid (Sp.sp fa ta 8 fb tb eb true = (0, 0, 8)) := by show _ = _; simp [Sp.sp]
    clear heb
    -- two, of the program
    -- w.Span: the function; w.unit: the unit's function; : the result
    obtain ⟨W1, hW1, hP1, hz1, hB1⟩ := box w #[.int .i64 0, .int .i64 0] 45
    have HW1 := Lib.hid hW1
    have HCUT := Lib.hid (hcut W1 (hmx.below hB1))
    clear hcut hmx hW1
    go_enter Tryd.func27, Tryd.ntmps27
    go_wp2_with fail
    rw [HW1.out]
    go_at_call 62
    refine HCUT.out.mono ?_
    rintro e w2 ⟨rfl, hB2⟩
    have hQ1 := hP1.keep hB2
    have hBr := below_up hB1 hB2
    go_wp2_with fail
    go_at_call 63
    refine (HA.out _).mono ?_
    rintro e w3 ⟨rfl, hB3⟩
    have hQ1 := hQ1.keep hB3
    have hBr := below_up hBr hB3
    have hltw := hBr.size
    obtain ⟨c0, c1⟩ := hQ1.two
    have cf := hQ1.free
    have hlt3 : w.heap.size < w3.heap.size := by have := hB2.size; have := hB3.size; omega
    obtain ⟨W4, hW4, hP4, hz4, hB4⟩ := box w3 #[.int .i64 fa, .int .i64 ta] 45
    have HW4 := Lib.hid hW4
    have hQ4 := hQ1.keep hB4
    have hBr4 := below_up hBr hB4
    clear hW4
    obtain ⟨W5, hW5, hP5, hz5, hB5⟩ := box W4 #[.int .i64 fa, .int .i64 ta] 45
    have HW5 := Lib.hid hW5
    have hP4' := hP4.keep hB5
    have hQ5 := hQ4.keep hB5
    have hBr5 := below_up hBr4 hB5
    rw [hz4] at hP5
    clear hW5
    go_wp2_with fail
    rw [HW4.out, HW5.out]
    go_at_call 63
    refine (HB.out _).mono ?_
    rintro e w6 ⟨rfl, hB6⟩
    have hQ1 := hQ5.keep hB6
    have hA6 := hP4'.keep hB6
    have hC6 := hP5.keep hB6
    have hBr := below_up hBr5 hB6
    obtain ⟨c0, c1⟩ := hQ1.two
    have cf := hQ1.free
    obtain ⟨d0, d1⟩ := hA6.two
    obtain ⟨e0, e1⟩ := hC6.two
    have ef := hC6.free
    go_wp2_with fail
    refine bodyPost_ret (v := .tuple #[.agg #[.int .i64 0, .int .i64 0], .int .i64 8]) ?_ rfl ?_
    · simp [results, Tryd.results27, go_sem, c0, c1]
    · exact SpanPost.mk HO.out (((((hBr.setCell (by simp; omega) _).setCell (by simp; omega) _).setCell (Nat.le_refl _) _).setCell (Nat.le_refl _) _))
set_option maxRecDepth 100000 in
set_option maxHeartbeats 8000000 in
theorem span_one (x a b : ByteArray) (fa ta ea : Int) (w : World) (hmx : Mx w)
    (hcut : ∀ W, Mx W → Calls Tryd.prog 62 #[.string x, .string ⟨#[46, 46]⟩] W fun e w' => e = .returned (.tuple #[.string a, .string b, .bool false]) ∧ Below W.heap.size W w')
    (ha : UnitAt 63 a fa ta ea) (hea : (ea = 0 ∧ fa ≤ ta) ∨ (ea = 1 ∧ fa = 0 ∧ ta = 0) ∨ (ea = 8 ∧ fa = 0 ∧ ta = 0)) :
    Calls Tryd.prog 27 #[.string x] w (SpanPost w (fa, ta, ea)) := by
  have HA := Lib.hid ha
  clear ha
  rcases hea with ⟨rfl, hle⟩ | ⟨rfl, rfl, rfl⟩ | ⟨rfl, rfl, rfl⟩
  · have hlt : ¬ ta < fa := by omega
    -- w.Span: the function; w.unit: the unit's function; : the result
    obtain ⟨W1, hW1, hP1, hz1, hB1⟩ := box w #[.int .i64 0, .int .i64 0] 45
    have HW1 := Lib.hid hW1
    have HCUT := Lib.hid (hcut W1 (hmx.below hB1))
    clear hcut hmx hW1
    go_enter Tryd.func27, Tryd.ntmps27
    go_wp2_with fail
    rw [HW1.out]
    go_at_call 62
    refine HCUT.out.mono ?_
    rintro e w2 ⟨rfl, hB2⟩
    have hQ1 := hP1.keep hB2
    have hBr := below_up hB1 hB2
    go_wp2_with fail
    go_at_call 63
    refine (HA.out _).mono ?_
    rintro e w3 ⟨rfl, hB3⟩
    have hQ1 := hQ1.keep hB3
    have hBr := below_up hBr hB3
    have hltw := hBr.size
    obtain ⟨c0, c1⟩ := hQ1.two
    have cf := hQ1.free
    have hlt3 : w.heap.size < w3.heap.size := by have := hB2.size; have := hB3.size; omega
    obtain ⟨W4, hW4, hP4, hz4, hB4⟩ := box w3 #[.int .i64 fa, .int .i64 ta] 45
    have HW4 := Lib.hid hW4
    have hQ4 := hQ1.keep hB4
    have hBr4 := below_up hBr hB4
    clear hW4
    have hS1 := (((hQ1.set 0 (.int .i64 fa)).set 1 (.int .i64 ta)).alloc (.cells #[.int .i64 fa, .int .i64 ta] 45)).alloc (.cells #[.int .i64 fa, .int .i64 ta] 45)
    go_wp2_with fail
    obtain ⟨s0, s1⟩ := hS1.two
    refine bodyPost_ret (v := .tuple #[.agg #[.int .i64 fa, .int .i64 ta], .int .i64 0]) ?_ rfl ?_
    · simp [results, Tryd.results27, go_sem, s0, s1]
    · first | exact SpanPost.mk rfl ((((hBr.setCell (Nat.le_refl _) _).setCell (Nat.le_refl _) _).alloc (by simp; omega) _).alloc (by simp; omega) _) | exact SpanPost.mk rfl ((hBr.alloc (by omega) _).alloc (by simp; omega) _)
  · obtain ⟨fa, hfa⟩ : ∃ fa : Int, fa = 0 := ⟨0, rfl⟩
    obtain ⟨ta, hta⟩ : ∃ ta : Int, ta = 0 := ⟨0, rfl⟩
    have HA2 : Hid (UnitAt 63 a fa ta 1) := by rw [hfa, hta]; exact HA
    clear HA
    have HA := HA2
    clear HA2 hfa hta
    show Calls Tryd.prog 27 #[.string x] w (SpanPost w (0, 0, 1))
    -- w.Span: the function; w.unit: the unit's function; : the result
    obtain ⟨W1, hW1, hP1, hz1, hB1⟩ := box w #[.int .i64 0, .int .i64 0] 45
    have HW1 := Lib.hid hW1
    have HCUT := Lib.hid (hcut W1 (hmx.below hB1))
    clear hcut hmx hW1
    go_enter Tryd.func27, Tryd.ntmps27
    go_wp2_with fail
    rw [HW1.out]
    go_at_call 62
    refine HCUT.out.mono ?_
    rintro e w2 ⟨rfl, hB2⟩
    have hQ1 := hP1.keep hB2
    have hBr := below_up hB1 hB2
    go_wp2_with fail
    go_at_call 63
    refine (HA.out _).mono ?_
    rintro e w3 ⟨rfl, hB3⟩
    have hQ1 := hQ1.keep hB3
    have hBr := below_up hBr hB3
    have hltw := hBr.size
    obtain ⟨c0, c1⟩ := hQ1.two
    have cf := hQ1.free
    have hlt3 : w.heap.size < w3.heap.size := by have := hB2.size; have := hB3.size; omega
    obtain ⟨W4, hW4, hP4, hz4, hB4⟩ := box w3 #[.int .i64 fa, .int .i64 ta] 45
    have HW4 := Lib.hid hW4
    have hQ4 := hQ1.keep hB4
    have hBr4 := below_up hBr hB4
    clear hW4
    have hS1 := (((hQ1.set 0 (.int .i64 0)).set 1 (.int .i64 0)).alloc (.cells #[.int .i64 fa, .int .i64 ta] 45)).alloc (.cells #[.int .i64 fa, .int .i64 ta] 45)
    go_wp2_with fail
    obtain ⟨s0, s1⟩ := hS1.two
    refine bodyPost_ret (v := .tuple #[.agg #[.int .i64 0, .int .i64 0], .int .i64 1]) ?_ rfl ?_
    · simp [results, Tryd.results27, go_sem, s0, s1]
    · first | exact SpanPost.mk rfl ((((hBr.setCell (Nat.le_refl _) _).setCell (Nat.le_refl _) _).alloc (by simp; omega) _).alloc (by simp; omega) _) | exact SpanPost.mk rfl ((hBr.alloc (by omega) _).alloc (by simp; omega) _)
  · obtain ⟨fa, hfa⟩ : ∃ fa : Int, fa = 0 := ⟨0, rfl⟩
    obtain ⟨ta, hta⟩ : ∃ ta : Int, ta = 0 := ⟨0, rfl⟩
    have HA2 : Hid (UnitAt 63 a fa ta 8) := by rw [hfa, hta]; exact HA
    clear HA
    have HA := HA2
    clear HA2 hfa hta
    show Calls Tryd.prog 27 #[.string x] w (SpanPost w (0, 0, 8))
    -- w.Span: the function; w.unit: the unit's function; : the result
    obtain ⟨W1, hW1, hP1, hz1, hB1⟩ := box w #[.int .i64 0, .int .i64 0] 45
    have HW1 := Lib.hid hW1
    have HCUT := Lib.hid (hcut W1 (hmx.below hB1))
    clear hcut hmx hW1
    go_enter Tryd.func27, Tryd.ntmps27
    go_wp2_with fail
    rw [HW1.out]
    go_at_call 62
    refine HCUT.out.mono ?_
    rintro e w2 ⟨rfl, hB2⟩
    have hQ1 := hP1.keep hB2
    have hBr := below_up hB1 hB2
    go_wp2_with fail
    go_at_call 63
    refine (HA.out _).mono ?_
    rintro e w3 ⟨rfl, hB3⟩
    have hQ1 := hQ1.keep hB3
    have hBr := below_up hBr hB3
    have hltw := hBr.size
    obtain ⟨c0, c1⟩ := hQ1.two
    have cf := hQ1.free
    have hlt3 : w.heap.size < w3.heap.size := by have := hB2.size; have := hB3.size; omega
    obtain ⟨W4, hW4, hP4, hz4, hB4⟩ := box w3 #[.int .i64 fa, .int .i64 ta] 45
    have HW4 := Lib.hid hW4
    have hQ4 := hQ1.keep hB4
    have hBr4 := below_up hBr hB4
    clear hW4
    have hS1 := (((hQ1.set 0 (.int .i64 0)).set 1 (.int .i64 0)).alloc (.cells #[.int .i64 fa, .int .i64 ta] 45)).alloc (.cells #[.int .i64 fa, .int .i64 ta] 45)
    go_wp2_with fail
    obtain ⟨s0, s1⟩ := hS1.two
    refine bodyPost_ret (v := .tuple #[.agg #[.int .i64 0, .int .i64 0], .int .i64 8]) ?_ rfl ?_
    · simp [results, Tryd.results27, go_sem, s0, s1]
    · first | exact SpanPost.mk rfl ((((hBr.setCell (Nat.le_refl _) _).setCell (Nat.le_refl _) _).alloc (by simp; omega) _).alloc (by simp; omega) _) | exact SpanPost.mk rfl ((hBr.alloc (by omega) _).alloc (by simp; omega) _)
set_option maxRecDepth 100000 in
set_option maxHeartbeats 8000000 in
theorem spanOf_two (x a b : ByteArray) (fa ta ea fb tb eb : Int) (w : World) (hmx : Mx w)
    (hcut : ∀ W, Mx W → Calls Tryd.prog 62 #[.string x, .string ⟨#[46, 46]⟩] W fun e w' => e = .returned (.tuple #[.string a, .string b, .bool true]) ∧ Below W.heap.size W w')
    (ha : UnitAt 64 a fa ta ea) (hb : UnitAt 64 b fb tb eb) (hea : ea = 0 ∨ ea = 1 ∨ ea = 8) (heb : eb = 0 ∨ eb = 1 ∨ eb = 8) :
    Calls Tryd.prog 28 #[.string x] w (SpanPost w (Sp.sp fa ta ea fb tb eb true)) := by
  have HA := Lib.hid ha
  have HB := Lib.hid hb
  clear ha hb
  rcases hea with rfl | rfl | rfl
  · rcases heb with rfl | rfl | rfl
    · by_cases hlt : tb < fa
      · have HO : Hid (Sp.sp fa ta 0 fb tb 0 true = (0, 0, 5)) := by show _ = _; simp [Sp.sp, hlt]
        -- R.SpanOf: the function; R.one: the unit's function; : the result
        obtain ⟨W1, hW1, hP1, hz1, hB1⟩ := box w #[.int .i64 0, .int .i64 0] 45
        have HW1 := Lib.hid hW1
        have HCUT := Lib.hid (hcut W1 (hmx.below hB1))
        clear hcut hmx hW1
        go_enter Tryd.func28, Tryd.ntmps28
        go_wp2_with fail
        rw [HW1.out]
        go_at_call 62
        refine HCUT.out.mono ?_
        rintro e w2 ⟨rfl, hB2⟩
        have hQ1 := hP1.keep hB2
        have hBr := below_up hB1 hB2
        go_wp2_with fail
        go_at_call 64
        refine (HA.out _).mono ?_
        rintro e w3 ⟨rfl, hB3⟩
        have hQ1 := hQ1.keep hB3
        have hBr := below_up hBr hB3
        have hltw := hBr.size
        obtain ⟨c0, c1⟩ := hQ1.two
        have cf := hQ1.free
        have hlt3 : w.heap.size < w3.heap.size := by have := hB2.size; have := hB3.size; omega
        obtain ⟨W4, hW4, hP4, hz4, hB4⟩ := box w3 #[.int .i64 fa, .int .i64 ta] 45
        have HW4 := Lib.hid hW4
        have hQ4 := hQ1.keep hB4
        have hBr4 := below_up hBr hB4
        clear hW4
        go_wp2_with fail
        rw [HW4.out]
        go_at_call 64
        refine (HB.out _).mono ?_
        rintro e w6 ⟨rfl, hB6⟩
        have hQ1 := hQ4.keep hB6
        have hA6 := hP4.keep hB6
        have hBr := below_up hBr4 hB6
        have hlt6 := hB6.size
        clear c0 c1 cf
        obtain ⟨c0, c1⟩ := hQ1.two
        have cf := hQ1.free
        obtain ⟨d0, d1⟩ := hA6.two
        have hlt4 : w3.heap.size < w6.heap.size := by omega
        have hlt7 : w.heap.size < w6.heap.size := by omega
        have hS1 := ((hQ1.set 0 (.int .i64 0)).set 1 (.int .i64 0)).alloc (.cells #[.int .i64 fb, .int .i64 tb] 45)
        go_wp2_with fail
        obtain ⟨s0, s1⟩ := hS1.two
        refine bodyPost_ret (v := .tuple #[.agg #[.int .i64 0, .int .i64 0], .int .i64 5]) ?_ rfl ?_
        · simp [results, Tryd.results28, go_sem, s0, s1]
        · first | exact SpanPost.mk HO.out (((hBr.setCell (Nat.le_refl _) _).setCell (Nat.le_refl _) _).alloc (by simp; omega) _) | exact SpanPost.mk HO.out (hBr.alloc (by omega) _)
      · have HO : Hid (Sp.sp fa ta 0 fb tb 0 true = (fa, tb, 0)) := by show _ = _; simp [Sp.sp, hlt]
        -- R.SpanOf: the function; R.one: the unit's function; : the result
        obtain ⟨W1, hW1, hP1, hz1, hB1⟩ := box w #[.int .i64 0, .int .i64 0] 45
        have HW1 := Lib.hid hW1
        have HCUT := Lib.hid (hcut W1 (hmx.below hB1))
        clear hcut hmx hW1
        go_enter Tryd.func28, Tryd.ntmps28
        go_wp2_with fail
        rw [HW1.out]
        go_at_call 62
        refine HCUT.out.mono ?_
        rintro e w2 ⟨rfl, hB2⟩
        have hQ1 := hP1.keep hB2
        have hBr := below_up hB1 hB2
        go_wp2_with fail
        go_at_call 64
        refine (HA.out _).mono ?_
        rintro e w3 ⟨rfl, hB3⟩
        have hQ1 := hQ1.keep hB3
        have hBr := below_up hBr hB3
        have hltw := hBr.size
        obtain ⟨c0, c1⟩ := hQ1.two
        have cf := hQ1.free
        have hlt3 : w.heap.size < w3.heap.size := by have := hB2.size; have := hB3.size; omega
        obtain ⟨W4, hW4, hP4, hz4, hB4⟩ := box w3 #[.int .i64 fa, .int .i64 ta] 45
        have HW4 := Lib.hid hW4
        have hQ4 := hQ1.keep hB4
        have hBr4 := below_up hBr hB4
        clear hW4
        go_wp2_with fail
        rw [HW4.out]
        go_at_call 64
        refine (HB.out _).mono ?_
        rintro e w6 ⟨rfl, hB6⟩
        have hQ1 := hQ4.keep hB6
        have hA6 := hP4.keep hB6
        have hBr := below_up hBr4 hB6
        have hlt6 := hB6.size
        clear c0 c1 cf
        obtain ⟨c0, c1⟩ := hQ1.two
        have cf := hQ1.free
        obtain ⟨d0, d1⟩ := hA6.two
        have hlt4 : w3.heap.size < w6.heap.size := by omega
        have hlt7 : w.heap.size < w6.heap.size := by omega
        have hS1 := ((hQ1.set 0 (.int .i64 fa)).set 1 (.int .i64 tb)).alloc (.cells #[.int .i64 fb, .int .i64 tb] 45)
        go_wp2_with fail
        obtain ⟨s0, s1⟩ := hS1.two
        refine bodyPost_ret (v := .tuple #[.agg #[.int .i64 fa, .int .i64 tb], .int .i64 0]) ?_ rfl ?_
        · simp [results, Tryd.results28, go_sem, s0, s1]
        · first | exact SpanPost.mk HO.out (((hBr.setCell (Nat.le_refl _) _).setCell (Nat.le_refl _) _).alloc (by simp; omega) _) | exact SpanPost.mk HO.out (hBr.alloc (by omega) _)
    · have HO : Hid (Sp.sp fa ta 0 fb tb 1 true = (0, 0, 1)) := by show _ = _; simp [Sp.sp]
      -- R.SpanOf: the function; R.one: the unit's function; : the result
      obtain ⟨W1, hW1, hP1, hz1, hB1⟩ := box w #[.int .i64 0, .int .i64 0] 45
      have HW1 := Lib.hid hW1
      have HCUT := Lib.hid (hcut W1 (hmx.below hB1))
      clear hcut hmx hW1
      go_enter Tryd.func28, Tryd.ntmps28
      go_wp2_with fail
      rw [HW1.out]
      go_at_call 62
      refine HCUT.out.mono ?_
      rintro e w2 ⟨rfl, hB2⟩
      have hQ1 := hP1.keep hB2
      have hBr := below_up hB1 hB2
      go_wp2_with fail
      go_at_call 64
      refine (HA.out _).mono ?_
      rintro e w3 ⟨rfl, hB3⟩
      have hQ1 := hQ1.keep hB3
      have hBr := below_up hBr hB3
      have hltw := hBr.size
      obtain ⟨c0, c1⟩ := hQ1.two
      have cf := hQ1.free
      have hlt3 : w.heap.size < w3.heap.size := by have := hB2.size; have := hB3.size; omega
      obtain ⟨W4, hW4, hP4, hz4, hB4⟩ := box w3 #[.int .i64 fa, .int .i64 ta] 45
      have HW4 := Lib.hid hW4
      have hQ4 := hQ1.keep hB4
      have hBr4 := below_up hBr hB4
      clear hW4
      go_wp2_with fail
      rw [HW4.out]
      go_at_call 64
      refine (HB.out _).mono ?_
      rintro e w6 ⟨rfl, hB6⟩
      have hQ1 := hQ4.keep hB6
      have hA6 := hP4.keep hB6
      have hBr := below_up hBr4 hB6
      have hlt6 := hB6.size
      clear c0 c1 cf
      obtain ⟨c0, c1⟩ := hQ1.two
      have cf := hQ1.free
      obtain ⟨d0, d1⟩ := hA6.two
      have hlt4 : w3.heap.size < w6.heap.size := by omega
      have hlt7 : w.heap.size < w6.heap.size := by omega
      have hS1 := ((hQ1.set 0 (.int .i64 0)).set 1 (.int .i64 0)).alloc (.cells #[.int .i64 fb, .int .i64 tb] 45)
      go_wp2_with fail
      obtain ⟨s0, s1⟩ := hS1.two
      refine bodyPost_ret (v := .tuple #[.agg #[.int .i64 0, .int .i64 0], .int .i64 1]) ?_ rfl ?_
      · simp [results, Tryd.results28, go_sem, s0, s1]
      · first | exact SpanPost.mk HO.out (((hBr.setCell (Nat.le_refl _) _).setCell (Nat.le_refl _) _).alloc (by simp; omega) _) | exact SpanPost.mk HO.out (hBr.alloc (by omega) _)
    · have HO : Hid (Sp.sp fa ta 0 fb tb 8 true = (0, 0, 8)) := by show _ = _; simp [Sp.sp]
      -- R.SpanOf: the function; R.one: the unit's function; : the result
      obtain ⟨W1, hW1, hP1, hz1, hB1⟩ := box w #[.int .i64 0, .int .i64 0] 45
      have HW1 := Lib.hid hW1
      have HCUT := Lib.hid (hcut W1 (hmx.below hB1))
      clear hcut hmx hW1
      go_enter Tryd.func28, Tryd.ntmps28
      go_wp2_with fail
      rw [HW1.out]
      go_at_call 62
      refine HCUT.out.mono ?_
      rintro e w2 ⟨rfl, hB2⟩
      have hQ1 := hP1.keep hB2
      have hBr := below_up hB1 hB2
      go_wp2_with fail
      go_at_call 64
      refine (HA.out _).mono ?_
      rintro e w3 ⟨rfl, hB3⟩
      have hQ1 := hQ1.keep hB3
      have hBr := below_up hBr hB3
      have hltw := hBr.size
      obtain ⟨c0, c1⟩ := hQ1.two
      have cf := hQ1.free
      have hlt3 : w.heap.size < w3.heap.size := by have := hB2.size; have := hB3.size; omega
      obtain ⟨W4, hW4, hP4, hz4, hB4⟩ := box w3 #[.int .i64 fa, .int .i64 ta] 45
      have HW4 := Lib.hid hW4
      have hQ4 := hQ1.keep hB4
      have hBr4 := below_up hBr hB4
      clear hW4
      go_wp2_with fail
      rw [HW4.out]
      go_at_call 64
      refine (HB.out _).mono ?_
      rintro e w6 ⟨rfl, hB6⟩
      have hQ1 := hQ4.keep hB6
      have hA6 := hP4.keep hB6
      have hBr := below_up hBr4 hB6
      have hlt6 := hB6.size
      clear c0 c1 cf
      obtain ⟨c0, c1⟩ := hQ1.two
      have cf := hQ1.free
      obtain ⟨d0, d1⟩ := hA6.two
      have hlt4 : w3.heap.size < w6.heap.size := by omega
      have hlt7 : w.heap.size < w6.heap.size := by omega
      have hS1 := ((hQ1.set 0 (.int .i64 0)).set 1 (.int .i64 0)).alloc (.cells #[.int .i64 fb, .int .i64 tb] 45)
      go_wp2_with fail
      obtain ⟨s0, s1⟩ := hS1.two
      refine bodyPost_ret (v := .tuple #[.agg #[.int .i64 0, .int .i64 0], .int .i64 8]) ?_ rfl ?_
      · simp [results, Tryd.results28, go_sem, s0, s1]
      · first | exact SpanPost.mk HO.out (((hBr.setCell (Nat.le_refl _) _).setCell (Nat.le_refl _) _).alloc (by simp; omega) _) | exact SpanPost.mk HO.out (hBr.alloc (by omega) _)
  · rcases heb with rfl | rfl | rfl
    · have HO : Hid (Sp.sp fa ta 1 fb tb 0 true = (0, 0, 1)) := by show _ = _; simp [Sp.sp]
      -- R.SpanOf: the function; R.one: the unit's function; : the result
      obtain ⟨W1, hW1, hP1, hz1, hB1⟩ := box w #[.int .i64 0, .int .i64 0] 45
      have HW1 := Lib.hid hW1
      have HCUT := Lib.hid (hcut W1 (hmx.below hB1))
      clear hcut hmx hW1
      go_enter Tryd.func28, Tryd.ntmps28
      go_wp2_with fail
      rw [HW1.out]
      go_at_call 62
      refine HCUT.out.mono ?_
      rintro e w2 ⟨rfl, hB2⟩
      have hQ1 := hP1.keep hB2
      have hBr := below_up hB1 hB2
      go_wp2_with fail
      go_at_call 64
      refine (HA.out _).mono ?_
      rintro e w3 ⟨rfl, hB3⟩
      have hQ1 := hQ1.keep hB3
      have hBr := below_up hBr hB3
      have hltw := hBr.size
      obtain ⟨c0, c1⟩ := hQ1.two
      have cf := hQ1.free
      have hlt3 : w.heap.size < w3.heap.size := by have := hB2.size; have := hB3.size; omega
      obtain ⟨W4, hW4, hP4, hz4, hB4⟩ := box w3 #[.int .i64 fa, .int .i64 ta] 45
      have HW4 := Lib.hid hW4
      have hQ4 := hQ1.keep hB4
      have hBr4 := below_up hBr hB4
      clear hW4
      go_wp2_with fail
      rw [HW4.out]
      go_at_call 64
      refine (HB.out _).mono ?_
      rintro e w6 ⟨rfl, hB6⟩
      have hQ1 := hQ4.keep hB6
      have hA6 := hP4.keep hB6
      have hBr := below_up hBr4 hB6
      have hlt6 := hB6.size
      clear c0 c1 cf
      obtain ⟨c0, c1⟩ := hQ1.two
      have cf := hQ1.free
      obtain ⟨d0, d1⟩ := hA6.two
      have hlt4 : w3.heap.size < w6.heap.size := by omega
      have hlt7 : w.heap.size < w6.heap.size := by omega
      have hS1 := ((hQ1.set 0 (.int .i64 0)).set 1 (.int .i64 0)).alloc (.cells #[.int .i64 fb, .int .i64 tb] 45)
      go_wp2_with fail
      obtain ⟨s0, s1⟩ := hS1.two
      refine bodyPost_ret (v := .tuple #[.agg #[.int .i64 0, .int .i64 0], .int .i64 1]) ?_ rfl ?_
      · simp [results, Tryd.results28, go_sem, s0, s1]
      · first | exact SpanPost.mk HO.out (((hBr.setCell (Nat.le_refl _) _).setCell (Nat.le_refl _) _).alloc (by simp; omega) _) | exact SpanPost.mk HO.out (hBr.alloc (by omega) _)
    · have HO : Hid (Sp.sp fa ta 1 fb tb 1 true = (0, 0, 1)) := by show _ = _; simp [Sp.sp]
      -- R.SpanOf: the function; R.one: the unit's function; : the result
      obtain ⟨W1, hW1, hP1, hz1, hB1⟩ := box w #[.int .i64 0, .int .i64 0] 45
      have HW1 := Lib.hid hW1
      have HCUT := Lib.hid (hcut W1 (hmx.below hB1))
      clear hcut hmx hW1
      go_enter Tryd.func28, Tryd.ntmps28
      go_wp2_with fail
      rw [HW1.out]
      go_at_call 62
      refine HCUT.out.mono ?_
      rintro e w2 ⟨rfl, hB2⟩
      have hQ1 := hP1.keep hB2
      have hBr := below_up hB1 hB2
      go_wp2_with fail
      go_at_call 64
      refine (HA.out _).mono ?_
      rintro e w3 ⟨rfl, hB3⟩
      have hQ1 := hQ1.keep hB3
      have hBr := below_up hBr hB3
      have hltw := hBr.size
      obtain ⟨c0, c1⟩ := hQ1.two
      have cf := hQ1.free
      have hlt3 : w.heap.size < w3.heap.size := by have := hB2.size; have := hB3.size; omega
      obtain ⟨W4, hW4, hP4, hz4, hB4⟩ := box w3 #[.int .i64 fa, .int .i64 ta] 45
      have HW4 := Lib.hid hW4
      have hQ4 := hQ1.keep hB4
      have hBr4 := below_up hBr hB4
      clear hW4
      go_wp2_with fail
      rw [HW4.out]
      go_at_call 64
      refine (HB.out _).mono ?_
      rintro e w6 ⟨rfl, hB6⟩
      have hQ1 := hQ4.keep hB6
      have hA6 := hP4.keep hB6
      have hBr := below_up hBr4 hB6
      have hlt6 := hB6.size
      clear c0 c1 cf
      obtain ⟨c0, c1⟩ := hQ1.two
      have cf := hQ1.free
      obtain ⟨d0, d1⟩ := hA6.two
      have hlt4 : w3.heap.size < w6.heap.size := by omega
      have hlt7 : w.heap.size < w6.heap.size := by omega
      have hS1 := ((hQ1.set 0 (.int .i64 0)).set 1 (.int .i64 0)).alloc (.cells #[.int .i64 fb, .int .i64 tb] 45)
      go_wp2_with fail
      obtain ⟨s0, s1⟩ := hS1.two
      refine bodyPost_ret (v := .tuple #[.agg #[.int .i64 0, .int .i64 0], .int .i64 1]) ?_ rfl ?_
      · simp [results, Tryd.results28, go_sem, s0, s1]
      · first | exact SpanPost.mk HO.out (((hBr.setCell (Nat.le_refl _) _).setCell (Nat.le_refl _) _).alloc (by simp; omega) _) | exact SpanPost.mk HO.out (hBr.alloc (by omega) _)
    · have HO : Hid (Sp.sp fa ta 1 fb tb 8 true = (0, 0, 8)) := by show _ = _; simp [Sp.sp]
      -- R.SpanOf: the function; R.one: the unit's function; : the result
      obtain ⟨W1, hW1, hP1, hz1, hB1⟩ := box w #[.int .i64 0, .int .i64 0] 45
      have HW1 := Lib.hid hW1
      have HCUT := Lib.hid (hcut W1 (hmx.below hB1))
      clear hcut hmx hW1
      go_enter Tryd.func28, Tryd.ntmps28
      go_wp2_with fail
      rw [HW1.out]
      go_at_call 62
      refine HCUT.out.mono ?_
      rintro e w2 ⟨rfl, hB2⟩
      have hQ1 := hP1.keep hB2
      have hBr := below_up hB1 hB2
      go_wp2_with fail
      go_at_call 64
      refine (HA.out _).mono ?_
      rintro e w3 ⟨rfl, hB3⟩
      have hQ1 := hQ1.keep hB3
      have hBr := below_up hBr hB3
      have hltw := hBr.size
      obtain ⟨c0, c1⟩ := hQ1.two
      have cf := hQ1.free
      have hlt3 : w.heap.size < w3.heap.size := by have := hB2.size; have := hB3.size; omega
      obtain ⟨W4, hW4, hP4, hz4, hB4⟩ := box w3 #[.int .i64 fa, .int .i64 ta] 45
      have HW4 := Lib.hid hW4
      have hQ4 := hQ1.keep hB4
      have hBr4 := below_up hBr hB4
      clear hW4
      go_wp2_with fail
      rw [HW4.out]
      go_at_call 64
      refine (HB.out _).mono ?_
      rintro e w6 ⟨rfl, hB6⟩
      have hQ1 := hQ4.keep hB6
      have hA6 := hP4.keep hB6
      have hBr := below_up hBr4 hB6
      have hlt6 := hB6.size
      clear c0 c1 cf
      obtain ⟨c0, c1⟩ := hQ1.two
      have cf := hQ1.free
      obtain ⟨d0, d1⟩ := hA6.two
      have hlt4 : w3.heap.size < w6.heap.size := by omega
      have hlt7 : w.heap.size < w6.heap.size := by omega
      have hS1 := ((hQ1.set 0 (.int .i64 0)).set 1 (.int .i64 0)).alloc (.cells #[.int .i64 fb, .int .i64 tb] 45)
      go_wp2_with fail
      obtain ⟨s0, s1⟩ := hS1.two
      refine bodyPost_ret (v := .tuple #[.agg #[.int .i64 0, .int .i64 0], .int .i64 8]) ?_ rfl ?_
      · simp [results, Tryd.results28, go_sem, s0, s1]
      · first | exact SpanPost.mk HO.out (((hBr.setCell (Nat.le_refl _) _).setCell (Nat.le_refl _) _).alloc (by simp; omega) _) | exact SpanPost.mk HO.out (hBr.alloc (by omega) _)
  · have HO : Hid (Sp.sp fa ta 8 fb tb eb true = (0, 0, 8)) := by show _ = _; simp [Sp.sp]
    clear heb
    -- R.SpanOf: the function; R.one: the unit's function; : the result
    obtain ⟨W1, hW1, hP1, hz1, hB1⟩ := box w #[.int .i64 0, .int .i64 0] 45
    have HW1 := Lib.hid hW1
    have HCUT := Lib.hid (hcut W1 (hmx.below hB1))
    clear hcut hmx hW1
    go_enter Tryd.func28, Tryd.ntmps28
    go_wp2_with fail
    rw [HW1.out]
    go_at_call 62
    refine HCUT.out.mono ?_
    rintro e w2 ⟨rfl, hB2⟩
    have hQ1 := hP1.keep hB2
    have hBr := below_up hB1 hB2
    go_wp2_with fail
    go_at_call 64
    refine (HA.out _).mono ?_
    rintro e w3 ⟨rfl, hB3⟩
    have hQ1 := hQ1.keep hB3
    have hBr := below_up hBr hB3
    have hltw := hBr.size
    obtain ⟨c0, c1⟩ := hQ1.two
    have cf := hQ1.free
    have hlt3 : w.heap.size < w3.heap.size := by have := hB2.size; have := hB3.size; omega
    obtain ⟨W4, hW4, hP4, hz4, hB4⟩ := box w3 #[.int .i64 fa, .int .i64 ta] 45
    have HW4 := Lib.hid hW4
    have hQ4 := hQ1.keep hB4
    have hBr4 := below_up hBr hB4
    clear hW4
    go_wp2_with fail
    rw [HW4.out]
    go_at_call 64
    refine (HB.out _).mono ?_
    rintro e w6 ⟨rfl, hB6⟩
    have hQ1 := hQ4.keep hB6
    have hA6 := hP4.keep hB6
    have hBr := below_up hBr4 hB6
    have hlt6 := hB6.size
    clear c0 c1 cf
    obtain ⟨c0, c1⟩ := hQ1.two
    have cf := hQ1.free
    obtain ⟨d0, d1⟩ := hA6.two
    have hlt4 : w3.heap.size < w6.heap.size := by omega
    have hlt7 : w.heap.size < w6.heap.size := by omega
    have hS1 := ((hQ1.set 0 (.int .i64 0)).set 1 (.int .i64 0)).alloc (.cells #[.int .i64 fb, .int .i64 tb] 45)
    go_wp2_with fail
    obtain ⟨s0, s1⟩ := hS1.two
    refine bodyPost_ret (v := .tuple #[.agg #[.int .i64 0, .int .i64 0], .int .i64 8]) ?_ rfl ?_
    · simp [results, Tryd.results28, go_sem, s0, s1]
    · first | exact SpanPost.mk HO.out (((hBr.setCell (Nat.le_refl _) _).setCell (Nat.le_refl _) _).alloc (by simp; omega) _) | exact SpanPost.mk HO.out (hBr.alloc (by omega) _)
set_option maxRecDepth 100000 in
set_option maxHeartbeats 8000000 in
theorem spanOf_one (x a b : ByteArray) (fa ta ea : Int) (w : World) (hmx : Mx w)
    (hcut : ∀ W, Mx W → Calls Tryd.prog 62 #[.string x, .string ⟨#[46, 46]⟩] W fun e w' => e = .returned (.tuple #[.string a, .string b, .bool false]) ∧ Below W.heap.size W w')
    (ha : UnitAt 64 a fa ta ea) :
    Calls Tryd.prog 28 #[.string x] w (SpanPost w (fa, ta, ea)) := by
  have HA := Lib.hid ha
  clear ha
  -- R.SpanOf: the function; R.one: the unit's function; : the result
  obtain ⟨W1, hW1, hP1, hz1, hB1⟩ := box w #[.int .i64 0, .int .i64 0] 45
  have HW1 := Lib.hid hW1
  have HCUT := Lib.hid (hcut W1 (hmx.below hB1))
  clear hcut hmx hW1
  go_enter Tryd.func28, Tryd.ntmps28
  go_wp2_with fail
  rw [HW1.out]
  go_at_call 62
  refine HCUT.out.mono ?_
  rintro e w2 ⟨rfl, hB2⟩
  have hQ1 := hP1.keep hB2
  have hBr := below_up hB1 hB2
  go_wp2_with fail
  go_at_call 64
  refine (HA.out _).mono ?_
  rintro e w3 ⟨rfl, hB3⟩
  have hQ1 := hQ1.keep hB3
  have hBr := below_up hBr hB3
  have hltw := hBr.size
  obtain ⟨c0, c1⟩ := hQ1.two
  have cf := hQ1.free
  have hlt3 : w.heap.size < w3.heap.size := by have := hB2.size; have := hB3.size; omega
  obtain ⟨W4, hW4, hP4, hz4, hB4⟩ := box w3 #[.int .i64 fa, .int .i64 ta] 45
  have HW4 := Lib.hid hW4
  have hQ4 := hQ1.keep hB4
  have hBr4 := below_up hBr hB4
  clear hW4
  have hS1 := (((hQ1.set 0 (.int .i64 fa)).set 1 (.int .i64 ta)).alloc (.cells #[.int .i64 fa, .int .i64 ta] 45))
  go_wp2_with fail
  obtain ⟨s0, s1⟩ := hS1.two
  refine bodyPost_ret (v := .tuple #[.agg #[.int .i64 fa, .int .i64 ta], .int .i64 ea]) ?_ rfl ?_
  · simp [results, Tryd.results28, go_sem, s0, s1]
  · exact SpanPost.mk rfl (((hBr.setCell (Nat.le_refl _) _).setCell (Nat.le_refl _) _).alloc (by simp; omega) _)
theorem span_is (s : List UInt8) (hs : s.length < 4294967281) (w : World) (hm : Mx w) : Calls Tryd.prog 27 #[.string (Tx.mk s)] w (SpanPost w (Sp.span s)) := by
  have hl := cut_len s [46, 46]
  have hc := fun W hW => cut_is s [46, 46] hs W hW
  have ua : UnitAt 63 (Tx.mk (Lib.cut s [46, 46]).1) _ _ _ := fun W => unit_is _ (by omega) W
  have ub : UnitAt 63 (Tx.mk (Lib.cut s [46, 46]).2.1) _ _ _ := fun W => unit_is _ (by omega) W
  have oa := Sp.out_cases (Lib.cut s [46, 46]).1
  have ob := Sp.out_cases (Lib.cut s [46, 46]).2.1
  unfold Sp.span
  show Calls Tryd.prog 27 #[.string (Tx.mk s)] w (SpanPost w (Sp.sp _ _ _ _ _ _ _))
  cases h : (Lib.cut s [46, 46]).2.2
  · rw [h] at hc
    have e : ∀ fa ta ea fb tb eb, Sp.sp fa ta ea fb tb eb false = (fa, ta, ea) := fun _ _ _ _ _ _ => rfl
    rw [e]
    exact span_one _ _ _ _ _ _ w hm hc ua (by rcases oa with h | h | h <;> omega)
  · rw [h] at hc
    exact span_two _ _ _ _ _ _ _ _ _ w hm hc ua ub (by rcases oa with h | h | h <;> omega) (by rcases ob with h | h | h <;> omega)
theorem spanOf_is (s : List UInt8) (hs : s.length < 4294967281) (w : World) (hm : Mx w) : Calls Tryd.prog 28 #[.string (Tx.mk s)] w (SpanPost w (Sp.span s)) := by
  have hc := fun W hW => cut_is s [46, 46] hs W hW
  have ua : UnitAt 64 (Tx.mk (Lib.cut s [46, 46]).1) _ _ _ := fun W => one_is _ W
  have ub : UnitAt 64 (Tx.mk (Lib.cut s [46, 46]).2.1) _ _ _ := fun W => one_is _ W
  have oa := Sp.out_cases (Lib.cut s [46, 46]).1
  have ob := Sp.out_cases (Lib.cut s [46, 46]).2.1
  unfold Sp.span
  show Calls Tryd.prog 28 #[.string (Tx.mk s)] w (SpanPost w (Sp.sp _ _ _ _ _ _ _))
  cases h : (Lib.cut s [46, 46]).2.2
  · rw [h] at hc
    have e : ∀ fa ta ea fb tb eb, Sp.sp fa ta ea fb tb eb false = (fa, ta, ea) := fun _ _ _ _ _ _ => rfl
    rw [e]
    exact spanOf_one _ _ _ _ _ _ w hm hc ua
  · rw [h] at hc
    exact spanOf_two _ _ _ _ _ _ _ _ _ w hm hc ua ub (by rcases oa with h | h | h <;> omega) (by rcases ob with h | h | h <;> omega)
end Go.Proofs.YthldlffkgafgaaaDoor
