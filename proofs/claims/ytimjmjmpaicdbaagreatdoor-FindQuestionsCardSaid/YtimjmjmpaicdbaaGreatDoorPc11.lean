/- Parts of the proof, no condition: SpSpan, SxDate. -/
import Derived.Test.YtimjmjmpaicdbaaGreatDoorPc7
import Derived.Test.YtimjmjmpaicdbaaGreatDoorPc10
import Derived.Test.YtimjmjmpaicdbaaGreatDoorPc8
set_option maxRecDepth 100000
set_option maxHeartbeats 8000000
set_option linter.unusedVariables false
namespace Go.Proofs.YtimjmjmpaicdbaaGreatDoor
open Go.RowKit Go.Sort Go.Shelf
namespace Sp
def sp (fa ta ea fb tb eb : Int) (two : Bool) : Int × Int × Int :=
 if two = true then
  (if ea = 8 ∨ eb = 8 then (0, 0, 8) else if ea ≠ 0 ∨ eb ≠ 0 then (0, 0, 1) else if tb < fa then (0, 0, 5) else (fa, tb, 0))
 else (fa, ta, ea)
def span (s : List UInt8) : Int × Int × Int :=
 let a := kind (Lib.cut s [46, 46]).1
 let b := kind (Lib.cut s [46, 46]).2.1
 sp (outF a) (outT a) (outE a) (outF b) (outT b) (outE b) (Lib.cut s [46, 46]).2.2
theorem cum_le (y m : Int) (h : Cal.vld y m 1 = true) : Cal.num y m 1 ≤ Cal.num y m (Cal.len y m) := by
 have := Cal.len_bd y m; unfold Cal.num; omega
theorem out_cases (s : List UInt8) : (outE (kind s) = 0 ∧ 0 ≤ outF (kind s) ∧ outF (kind s) ≤ outT (kind s) ∧ outT (kind s) ≤ 6311433599) ∨ (outE (kind s) = 1 ∧ outF (kind s) = 0 ∧ outT (kind s) = 0) ∨ (outE (kind s) = 8 ∧ outF (kind s) = 0 ∧ outT (kind s) = 0) := by
 have key : ∀ a b : D3, (vld a = true → vld b = true → num a ≤ num b) → (outE (some (a, b)) = 0 ∧ 0 ≤ outF (some (a, b)) ∧ outF (some (a, b)) ≤ outT (some (a, b)) ∧ outT (some (a, b)) ≤ 6311433599) ∨ (outE (some (a, b)) = 1 ∧ outF (some (a, b)) = 0 ∧ outT (some (a, b)) = 0) ∨ (outE (some (a, b)) = 8 ∧ outF (some (a, b)) = 0 ∧ outT (some (a, b)) = 0) := by
  intro a b hab
  unfold outE outF outT
  by_cases h : vld a = true ∧ vld b = true
  ·simp only [if_pos h]
   have h1 := num_bd h.1
   have h2 := num_bd h.2
   have h3 := hab h.1 h.2
   left; refine ⟨trivial, ?_, ?_, ?_⟩ <;> omega
  ·simp only [if_neg h]
   right; left; simp
 have none8 : (outE none = 0 ∧ 0 ≤ outF none ∧ outF none ≤ outT none ∧ outT none ≤ 6311433599) ∨ (outE none = 1 ∧ outF none = 0 ∧ outT none = 0) ∨ (outE none = 8 ∧ outF none = 0 ∧ outT none = 0) := .inr (.inr ⟨rfl, rfl, rfl⟩)
 unfold kind
 split
 ·split
  ·apply key
   intro h _
   have h1 := (Cal.vld_iff _ _ _).1 h
   show Cal.num (Sc.fx s 0 4) 1 1 ≤ Cal.num (Sc.fx s 0 4) 12 31
   have := Cal.cum_bd (Sc.fx s 0 4) 12 (by omega) (by omega)
   have := Cal.cum_1 (Sc.fx s 0 4)
   unfold Cal.num; omega
  ·exact none8
 ·split
  ·split
   ·apply key
    intro h _
    exact cum_le _ _ h
   ·exact none8
  ·split
   ·split
    ·apply key
     intro _ _; omega
    ·exact none8
   ·exact none8
end Sp
def SpanPost (w : World) (r : Int × Int × Int) (e : Ending) (w' : World) : Prop := e = .returned (.tuple #[.agg #[.int .i64 r.1, .int .i64 r.2.1], .int .i64 r.2.2]) ∧ Below w.heap.size w w'
theorem SpanPost.mk {w w' : World} {r : Int × Int × Int} {F T E : Int} (h : r = (F, T, E)) (hB : Below w.heap.size w w') : SpanPost w r (.returned (.tuple #[.agg #[.int .i64 F, .int .i64 T], .int .i64 E])) w' := by rw [h]; exact ⟨rfl, hB⟩
def UnitAt (f : FuncId) (x : ByteArray) (F T E : Int) : Prop := ∀ W, Calls Tryz.prog f #[.string x] W fun e w' => e = .returned (.tuple #[.agg #[.int .i64 F, .int .i64 T], .int .i64 E]) ∧ Below W.heap.size W w'
theorem span_two (x a b : ByteArray) (fa ta ea fb tb eb : Int) (w : World) (hmx : Mx w)
  (hcut : ∀ W, Mx W → Calls Tryz.prog 160 #[.string x, .string ⟨#[46, 46]⟩] W fun e w' => e = .returned (.tuple #[.string a, .string b, .bool true]) ∧ Below W.heap.size W w')
  (ha : UnitAt 161 a fa ta ea) (hb : UnitAt 161 b fb tb eb) (hea : ea = 0 ∨ ea = 1 ∨ ea = 8) (heb : eb = 0 ∨ eb = 1 ∨ eb = 8) :
  Calls Tryz.prog 103 #[.string x] w (SpanPost w (Sp.sp fa ta ea fb tb eb true)) := by
 have HA := Lib.hid ha
 have HB := Lib.hid hb
 clear ha hb
 rcases hea with rfl | rfl | rfl
 ·rcases heb with rfl | rfl | rfl
  ·by_cases hlt : tb < fa
   ·have HO : Hid (Sp.sp fa ta 0 fb tb 0 true = (0, 0, 5)) := by show _ = _; simp [Sp.sp, hlt]
    obtain ⟨W1, hW1, hP1, hz1, hB1⟩ := box w #[.int .i64 0, .int .i64 0] 108
    have HW1 := Lib.hid hW1
    have HCUT := Lib.hid (hcut W1 (hmx.below hB1))
    clear hcut hmx hW1
    go_enter Tryz.func103, Tryz.ntmps103
    go_wp2_with fail
    rw [HW1.out]
    go_at_call 160
    refine HCUT.out.mono ?_
    rintro e w2 ⟨rfl, hB2⟩
    have hQ1 := hP1.keep hB2
    have hBr := below_up hB1 hB2
    go_wp2_with fail
    go_at_call 161
    refine (HA.out _).mono ?_
    rintro e w3 ⟨rfl, hB3⟩
    have hQ1 := hQ1.keep hB3
    have hBr := below_up hBr hB3
    have hltw := hBr.size
    obtain ⟨c0, c1⟩ := hQ1.two
    have cf := hQ1.free
    have hlt3 : w.heap.size < w3.heap.size := by have := hB2.size; have := hB3.size; omega
    obtain ⟨W4, hW4, hP4, hz4, hB4⟩ := box w3 #[.int .i64 fa, .int .i64 ta] 108
    have HW4 := Lib.hid hW4
    have hQ4 := hQ1.keep hB4
    have hBr4 := below_up hBr hB4
    clear hW4
    obtain ⟨W5, hW5, hP5, hz5, hB5⟩ := box W4 #[.int .i64 fa, .int .i64 ta] 108
    have HW5 := Lib.hid hW5
    have hP4' := hP4.keep hB5
    have hQ5 := hQ4.keep hB5
    have hBr5 := below_up hBr4 hB5
    rw [hz4] at hP5
    clear hW5
    go_wp2_with fail
    rw [HW4.out, HW5.out]
    go_at_call 161
    refine (HB.out _).mono ?_
    rintro e w6 ⟨rfl, hB6⟩
    have hQ1 := hQ5.keep hB6
    have hA6 := hP4'.keep hB6
    have hC6 := hP5.keep hB6
    have hBr := below_up hBr5 hB6
    obtain ⟨c0, c1⟩ := hQ1.two
    have cf := hQ1.free
    obtain ⟨d0, d1⟩ := hA6.two
    obtain ⟨e0, e1⟩ := hC6.two
    have ef := hC6.free
    go_wp2_with fail
    refine bodyPost_ret (v := .tuple #[.agg #[.int .i64 0, .int .i64 0], .int .i64 5]) ?_ rfl ?_
    ·simp [results, Tryz.results103, go_sem, c0, c1]
    ·exact SpanPost.mk HO.out (((((hBr.setCell (by simp; omega) _).setCell (by simp; omega) _).setCell (Nat.le_refl _) _).setCell (Nat.le_refl _) _))
   ·have HO : Hid (Sp.sp fa ta 0 fb tb 0 true = (fa, tb, 0)) := by show _ = _; simp [Sp.sp, hlt]
    obtain ⟨W1, hW1, hP1, hz1, hB1⟩ := box w #[.int .i64 0, .int .i64 0] 108
    have HW1 := Lib.hid hW1
    have HCUT := Lib.hid (hcut W1 (hmx.below hB1))
    clear hcut hmx hW1
    go_enter Tryz.func103, Tryz.ntmps103
    go_wp2_with fail
    rw [HW1.out]
    go_at_call 160
    refine HCUT.out.mono ?_
    rintro e w2 ⟨rfl, hB2⟩
    have hQ1 := hP1.keep hB2
    have hBr := below_up hB1 hB2
    go_wp2_with fail
    go_at_call 161
    refine (HA.out _).mono ?_
    rintro e w3 ⟨rfl, hB3⟩
    have hQ1 := hQ1.keep hB3
    have hBr := below_up hBr hB3
    have hltw := hBr.size
    obtain ⟨c0, c1⟩ := hQ1.two
    have cf := hQ1.free
    have hlt3 : w.heap.size < w3.heap.size := by have := hB2.size; have := hB3.size; omega
    obtain ⟨W4, hW4, hP4, hz4, hB4⟩ := box w3 #[.int .i64 fa, .int .i64 ta] 108
    have HW4 := Lib.hid hW4
    have hQ4 := hQ1.keep hB4
    have hBr4 := below_up hBr hB4
    clear hW4
    obtain ⟨W5, hW5, hP5, hz5, hB5⟩ := box W4 #[.int .i64 fa, .int .i64 ta] 108
    have HW5 := Lib.hid hW5
    have hP4' := hP4.keep hB5
    have hQ5 := hQ4.keep hB5
    have hBr5 := below_up hBr4 hB5
    rw [hz4] at hP5
    clear hW5
    go_wp2_with fail
    rw [HW4.out, HW5.out]
    go_at_call 161
    refine (HB.out _).mono ?_
    rintro e w6 ⟨rfl, hB6⟩
    have hQ1 := hQ5.keep hB6
    have hA6 := hP4'.keep hB6
    have hC6 := hP5.keep hB6
    have hBr := below_up hBr5 hB6
    obtain ⟨c0, c1⟩ := hQ1.two
    have cf := hQ1.free
    obtain ⟨d0, d1⟩ := hA6.two
    obtain ⟨e0, e1⟩ := hC6.two
    have ef := hC6.free
    go_wp2_with fail
    refine bodyPost_ret (v := .tuple #[.agg #[.int .i64 fa, .int .i64 tb], .int .i64 0]) ?_ rfl ?_
    ·simp [results, Tryz.results103, go_sem, c0, c1]
    ·exact SpanPost.mk HO.out (((((hBr.setCell (by simp; omega) _).setCell (by simp; omega) _).setCell (Nat.le_refl _) _).setCell (Nat.le_refl _) _))
  ·have HO : Hid (Sp.sp fa ta 0 fb tb 1 true = (0, 0, 1)) := by show _ = _; simp [Sp.sp]
   obtain ⟨W1, hW1, hP1, hz1, hB1⟩ := box w #[.int .i64 0, .int .i64 0] 108
   have HW1 := Lib.hid hW1
   have HCUT := Lib.hid (hcut W1 (hmx.below hB1))
   clear hcut hmx hW1
   go_enter Tryz.func103, Tryz.ntmps103
   go_wp2_with fail
   rw [HW1.out]
   go_at_call 160
   refine HCUT.out.mono ?_
   rintro e w2 ⟨rfl, hB2⟩
   have hQ1 := hP1.keep hB2
   have hBr := below_up hB1 hB2
   go_wp2_with fail
   go_at_call 161
   refine (HA.out _).mono ?_
   rintro e w3 ⟨rfl, hB3⟩
   have hQ1 := hQ1.keep hB3
   have hBr := below_up hBr hB3
   have hltw := hBr.size
   obtain ⟨c0, c1⟩ := hQ1.two
   have cf := hQ1.free
   have hlt3 : w.heap.size < w3.heap.size := by have := hB2.size; have := hB3.size; omega
   obtain ⟨W4, hW4, hP4, hz4, hB4⟩ := box w3 #[.int .i64 fa, .int .i64 ta] 108
   have HW4 := Lib.hid hW4
   have hQ4 := hQ1.keep hB4
   have hBr4 := below_up hBr hB4
   clear hW4
   obtain ⟨W5, hW5, hP5, hz5, hB5⟩ := box W4 #[.int .i64 fa, .int .i64 ta] 108
   have HW5 := Lib.hid hW5
   have hP4' := hP4.keep hB5
   have hQ5 := hQ4.keep hB5
   have hBr5 := below_up hBr4 hB5
   rw [hz4] at hP5
   clear hW5
   go_wp2_with fail
   rw [HW4.out, HW5.out]
   go_at_call 161
   refine (HB.out _).mono ?_
   rintro e w6 ⟨rfl, hB6⟩
   have hQ1 := hQ5.keep hB6
   have hA6 := hP4'.keep hB6
   have hC6 := hP5.keep hB6
   have hBr := below_up hBr5 hB6
   obtain ⟨c0, c1⟩ := hQ1.two
   have cf := hQ1.free
   obtain ⟨d0, d1⟩ := hA6.two
   obtain ⟨e0, e1⟩ := hC6.two
   have ef := hC6.free
   go_wp2_with fail
   refine bodyPost_ret (v := .tuple #[.agg #[.int .i64 0, .int .i64 0], .int .i64 1]) ?_ rfl ?_
   ·simp [results, Tryz.results103, go_sem, c0, c1]
   ·exact SpanPost.mk HO.out (((((hBr.setCell (by simp; omega) _).setCell (by simp; omega) _).setCell (Nat.le_refl _) _).setCell (Nat.le_refl _) _))
  ·have HO : Hid (Sp.sp fa ta 0 fb tb 8 true = (0, 0, 8)) := by show _ = _; simp [Sp.sp]
   obtain ⟨W1, hW1, hP1, hz1, hB1⟩ := box w #[.int .i64 0, .int .i64 0] 108
   have HW1 := Lib.hid hW1
   have HCUT := Lib.hid (hcut W1 (hmx.below hB1))
   clear hcut hmx hW1
   go_enter Tryz.func103, Tryz.ntmps103
   go_wp2_with fail
   rw [HW1.out]
   go_at_call 160
   refine HCUT.out.mono ?_
   rintro e w2 ⟨rfl, hB2⟩
   have hQ1 := hP1.keep hB2
   have hBr := below_up hB1 hB2
   go_wp2_with fail
   go_at_call 161
   refine (HA.out _).mono ?_
   rintro e w3 ⟨rfl, hB3⟩
   have hQ1 := hQ1.keep hB3
   have hBr := below_up hBr hB3
   have hltw := hBr.size
   obtain ⟨c0, c1⟩ := hQ1.two
   have cf := hQ1.free
   have hlt3 : w.heap.size < w3.heap.size := by have := hB2.size; have := hB3.size; omega
   obtain ⟨W4, hW4, hP4, hz4, hB4⟩ := box w3 #[.int .i64 fa, .int .i64 ta] 108
   have HW4 := Lib.hid hW4
   have hQ4 := hQ1.keep hB4
   have hBr4 := below_up hBr hB4
   clear hW4
   obtain ⟨W5, hW5, hP5, hz5, hB5⟩ := box W4 #[.int .i64 fa, .int .i64 ta] 108
   have HW5 := Lib.hid hW5
   have hP4' := hP4.keep hB5
   have hQ5 := hQ4.keep hB5
   have hBr5 := below_up hBr4 hB5
   rw [hz4] at hP5
   clear hW5
   go_wp2_with fail
   rw [HW4.out, HW5.out]
   go_at_call 161
   refine (HB.out _).mono ?_
   rintro e w6 ⟨rfl, hB6⟩
   have hQ1 := hQ5.keep hB6
   have hA6 := hP4'.keep hB6
   have hC6 := hP5.keep hB6
   have hBr := below_up hBr5 hB6
   obtain ⟨c0, c1⟩ := hQ1.two
   have cf := hQ1.free
   obtain ⟨d0, d1⟩ := hA6.two
   obtain ⟨e0, e1⟩ := hC6.two
   have ef := hC6.free
   go_wp2_with fail
   refine bodyPost_ret (v := .tuple #[.agg #[.int .i64 0, .int .i64 0], .int .i64 8]) ?_ rfl ?_
   ·simp [results, Tryz.results103, go_sem, c0, c1]
   ·exact SpanPost.mk HO.out (((((hBr.setCell (by simp; omega) _).setCell (by simp; omega) _).setCell (Nat.le_refl _) _).setCell (Nat.le_refl _) _))
 ·rcases heb with rfl | rfl | rfl
  ·have HO : Hid (Sp.sp fa ta 1 fb tb 0 true = (0, 0, 1)) := by show _ = _; simp [Sp.sp]
   obtain ⟨W1, hW1, hP1, hz1, hB1⟩ := box w #[.int .i64 0, .int .i64 0] 108
   have HW1 := Lib.hid hW1
   have HCUT := Lib.hid (hcut W1 (hmx.below hB1))
   clear hcut hmx hW1
   go_enter Tryz.func103, Tryz.ntmps103
   go_wp2_with fail
   rw [HW1.out]
   go_at_call 160
   refine HCUT.out.mono ?_
   rintro e w2 ⟨rfl, hB2⟩
   have hQ1 := hP1.keep hB2
   have hBr := below_up hB1 hB2
   go_wp2_with fail
   go_at_call 161
   refine (HA.out _).mono ?_
   rintro e w3 ⟨rfl, hB3⟩
   have hQ1 := hQ1.keep hB3
   have hBr := below_up hBr hB3
   have hltw := hBr.size
   obtain ⟨c0, c1⟩ := hQ1.two
   have cf := hQ1.free
   have hlt3 : w.heap.size < w3.heap.size := by have := hB2.size; have := hB3.size; omega
   obtain ⟨W4, hW4, hP4, hz4, hB4⟩ := box w3 #[.int .i64 fa, .int .i64 ta] 108
   have HW4 := Lib.hid hW4
   have hQ4 := hQ1.keep hB4
   have hBr4 := below_up hBr hB4
   clear hW4
   obtain ⟨W5, hW5, hP5, hz5, hB5⟩ := box W4 #[.int .i64 fa, .int .i64 ta] 108
   have HW5 := Lib.hid hW5
   have hP4' := hP4.keep hB5
   have hQ5 := hQ4.keep hB5
   have hBr5 := below_up hBr4 hB5
   rw [hz4] at hP5
   clear hW5
   go_wp2_with fail
   rw [HW4.out, HW5.out]
   go_at_call 161
   refine (HB.out _).mono ?_
   rintro e w6 ⟨rfl, hB6⟩
   have hQ1 := hQ5.keep hB6
   have hA6 := hP4'.keep hB6
   have hC6 := hP5.keep hB6
   have hBr := below_up hBr5 hB6
   obtain ⟨c0, c1⟩ := hQ1.two
   have cf := hQ1.free
   obtain ⟨d0, d1⟩ := hA6.two
   obtain ⟨e0, e1⟩ := hC6.two
   have ef := hC6.free
   go_wp2_with fail
   refine bodyPost_ret (v := .tuple #[.agg #[.int .i64 0, .int .i64 0], .int .i64 1]) ?_ rfl ?_
   ·simp [results, Tryz.results103, go_sem, c0, c1]
   ·exact SpanPost.mk HO.out (((((hBr.setCell (by simp; omega) _).setCell (by simp; omega) _).setCell (Nat.le_refl _) _).setCell (Nat.le_refl _) _))
  ·have HO : Hid (Sp.sp fa ta 1 fb tb 1 true = (0, 0, 1)) := by show _ = _; simp [Sp.sp]
   obtain ⟨W1, hW1, hP1, hz1, hB1⟩ := box w #[.int .i64 0, .int .i64 0] 108
   have HW1 := Lib.hid hW1
   have HCUT := Lib.hid (hcut W1 (hmx.below hB1))
   clear hcut hmx hW1
   go_enter Tryz.func103, Tryz.ntmps103
   go_wp2_with fail
   rw [HW1.out]
   go_at_call 160
   refine HCUT.out.mono ?_
   rintro e w2 ⟨rfl, hB2⟩
   have hQ1 := hP1.keep hB2
   have hBr := below_up hB1 hB2
   go_wp2_with fail
   go_at_call 161
   refine (HA.out _).mono ?_
   rintro e w3 ⟨rfl, hB3⟩
   have hQ1 := hQ1.keep hB3
   have hBr := below_up hBr hB3
   have hltw := hBr.size
   obtain ⟨c0, c1⟩ := hQ1.two
   have cf := hQ1.free
   have hlt3 : w.heap.size < w3.heap.size := by have := hB2.size; have := hB3.size; omega
   obtain ⟨W4, hW4, hP4, hz4, hB4⟩ := box w3 #[.int .i64 fa, .int .i64 ta] 108
   have HW4 := Lib.hid hW4
   have hQ4 := hQ1.keep hB4
   have hBr4 := below_up hBr hB4
   clear hW4
   obtain ⟨W5, hW5, hP5, hz5, hB5⟩ := box W4 #[.int .i64 fa, .int .i64 ta] 108
   have HW5 := Lib.hid hW5
   have hP4' := hP4.keep hB5
   have hQ5 := hQ4.keep hB5
   have hBr5 := below_up hBr4 hB5
   rw [hz4] at hP5
   clear hW5
   go_wp2_with fail
   rw [HW4.out, HW5.out]
   go_at_call 161
   refine (HB.out _).mono ?_
   rintro e w6 ⟨rfl, hB6⟩
   have hQ1 := hQ5.keep hB6
   have hA6 := hP4'.keep hB6
   have hC6 := hP5.keep hB6
   have hBr := below_up hBr5 hB6
   obtain ⟨c0, c1⟩ := hQ1.two
   have cf := hQ1.free
   obtain ⟨d0, d1⟩ := hA6.two
   obtain ⟨e0, e1⟩ := hC6.two
   have ef := hC6.free
   go_wp2_with fail
   refine bodyPost_ret (v := .tuple #[.agg #[.int .i64 0, .int .i64 0], .int .i64 1]) ?_ rfl ?_
   ·simp [results, Tryz.results103, go_sem, c0, c1]
   ·exact SpanPost.mk HO.out (((((hBr.setCell (by simp; omega) _).setCell (by simp; omega) _).setCell (Nat.le_refl _) _).setCell (Nat.le_refl _) _))
  ·have HO : Hid (Sp.sp fa ta 1 fb tb 8 true = (0, 0, 8)) := by show _ = _; simp [Sp.sp]
   obtain ⟨W1, hW1, hP1, hz1, hB1⟩ := box w #[.int .i64 0, .int .i64 0] 108
   have HW1 := Lib.hid hW1
   have HCUT := Lib.hid (hcut W1 (hmx.below hB1))
   clear hcut hmx hW1
   go_enter Tryz.func103, Tryz.ntmps103
   go_wp2_with fail
   rw [HW1.out]
   go_at_call 160
   refine HCUT.out.mono ?_
   rintro e w2 ⟨rfl, hB2⟩
   have hQ1 := hP1.keep hB2
   have hBr := below_up hB1 hB2
   go_wp2_with fail
   go_at_call 161
   refine (HA.out _).mono ?_
   rintro e w3 ⟨rfl, hB3⟩
   have hQ1 := hQ1.keep hB3
   have hBr := below_up hBr hB3
   have hltw := hBr.size
   obtain ⟨c0, c1⟩ := hQ1.two
   have cf := hQ1.free
   have hlt3 : w.heap.size < w3.heap.size := by have := hB2.size; have := hB3.size; omega
   obtain ⟨W4, hW4, hP4, hz4, hB4⟩ := box w3 #[.int .i64 fa, .int .i64 ta] 108
   have HW4 := Lib.hid hW4
   have hQ4 := hQ1.keep hB4
   have hBr4 := below_up hBr hB4
   clear hW4
   obtain ⟨W5, hW5, hP5, hz5, hB5⟩ := box W4 #[.int .i64 fa, .int .i64 ta] 108
   have HW5 := Lib.hid hW5
   have hP4' := hP4.keep hB5
   have hQ5 := hQ4.keep hB5
   have hBr5 := below_up hBr4 hB5
   rw [hz4] at hP5
   clear hW5
   go_wp2_with fail
   rw [HW4.out, HW5.out]
   go_at_call 161
   refine (HB.out _).mono ?_
   rintro e w6 ⟨rfl, hB6⟩
   have hQ1 := hQ5.keep hB6
   have hA6 := hP4'.keep hB6
   have hC6 := hP5.keep hB6
   have hBr := below_up hBr5 hB6
   obtain ⟨c0, c1⟩ := hQ1.two
   have cf := hQ1.free
   obtain ⟨d0, d1⟩ := hA6.two
   obtain ⟨e0, e1⟩ := hC6.two
   have ef := hC6.free
   go_wp2_with fail
   refine bodyPost_ret (v := .tuple #[.agg #[.int .i64 0, .int .i64 0], .int .i64 8]) ?_ rfl ?_
   ·simp [results, Tryz.results103, go_sem, c0, c1]
   ·exact SpanPost.mk HO.out (((((hBr.setCell (by simp; omega) _).setCell (by simp; omega) _).setCell (Nat.le_refl _) _).setCell (Nat.le_refl _) _))
 ·have HO : Hid (Sp.sp fa ta 8 fb tb eb true = (0, 0, 8)) := by show _ = _; simp [Sp.sp]
  clear heb
  obtain ⟨W1, hW1, hP1, hz1, hB1⟩ := box w #[.int .i64 0, .int .i64 0] 108
  have HW1 := Lib.hid hW1
  have HCUT := Lib.hid (hcut W1 (hmx.below hB1))
  clear hcut hmx hW1
  go_enter Tryz.func103, Tryz.ntmps103
  go_wp2_with fail
  rw [HW1.out]
  go_at_call 160
  refine HCUT.out.mono ?_
  rintro e w2 ⟨rfl, hB2⟩
  have hQ1 := hP1.keep hB2
  have hBr := below_up hB1 hB2
  go_wp2_with fail
  go_at_call 161
  refine (HA.out _).mono ?_
  rintro e w3 ⟨rfl, hB3⟩
  have hQ1 := hQ1.keep hB3
  have hBr := below_up hBr hB3
  have hltw := hBr.size
  obtain ⟨c0, c1⟩ := hQ1.two
  have cf := hQ1.free
  have hlt3 : w.heap.size < w3.heap.size := by have := hB2.size; have := hB3.size; omega
  obtain ⟨W4, hW4, hP4, hz4, hB4⟩ := box w3 #[.int .i64 fa, .int .i64 ta] 108
  have HW4 := Lib.hid hW4
  have hQ4 := hQ1.keep hB4
  have hBr4 := below_up hBr hB4
  clear hW4
  obtain ⟨W5, hW5, hP5, hz5, hB5⟩ := box W4 #[.int .i64 fa, .int .i64 ta] 108
  have HW5 := Lib.hid hW5
  have hP4' := hP4.keep hB5
  have hQ5 := hQ4.keep hB5
  have hBr5 := below_up hBr4 hB5
  rw [hz4] at hP5
  clear hW5
  go_wp2_with fail
  rw [HW4.out, HW5.out]
  go_at_call 161
  refine (HB.out _).mono ?_
  rintro e w6 ⟨rfl, hB6⟩
  have hQ1 := hQ5.keep hB6
  have hA6 := hP4'.keep hB6
  have hC6 := hP5.keep hB6
  have hBr := below_up hBr5 hB6
  obtain ⟨c0, c1⟩ := hQ1.two
  have cf := hQ1.free
  obtain ⟨d0, d1⟩ := hA6.two
  obtain ⟨e0, e1⟩ := hC6.two
  have ef := hC6.free
  go_wp2_with fail
  refine bodyPost_ret (v := .tuple #[.agg #[.int .i64 0, .int .i64 0], .int .i64 8]) ?_ rfl ?_
  ·simp [results, Tryz.results103, go_sem, c0, c1]
  ·exact SpanPost.mk HO.out (((((hBr.setCell (by simp; omega) _).setCell (by simp; omega) _).setCell (Nat.le_refl _) _).setCell (Nat.le_refl _) _))
theorem span_one (x a b : ByteArray) (fa ta ea : Int) (w : World) (hmx : Mx w)
  (hcut : ∀ W, Mx W → Calls Tryz.prog 160 #[.string x, .string ⟨#[46, 46]⟩] W fun e w' => e = .returned (.tuple #[.string a, .string b, .bool false]) ∧ Below W.heap.size W w')
  (ha : UnitAt 161 a fa ta ea) (hea : (ea = 0 ∧ fa ≤ ta) ∨ (ea = 1 ∧ fa = 0 ∧ ta = 0) ∨ (ea = 8 ∧ fa = 0 ∧ ta = 0)) :
  Calls Tryz.prog 103 #[.string x] w (SpanPost w (fa, ta, ea)) := by
 have HA := Lib.hid ha
 clear ha
 rcases hea with ⟨rfl, hle⟩ | ⟨rfl, rfl, rfl⟩ | ⟨rfl, rfl, rfl⟩
 ·have hlt : ¬ ta < fa := by omega
  obtain ⟨W1, hW1, hP1, hz1, hB1⟩ := box w #[.int .i64 0, .int .i64 0] 108
  have HW1 := Lib.hid hW1
  have HCUT := Lib.hid (hcut W1 (hmx.below hB1))
  clear hcut hmx hW1
  go_enter Tryz.func103, Tryz.ntmps103
  go_wp2_with fail
  rw [HW1.out]
  go_at_call 160
  refine HCUT.out.mono ?_
  rintro e w2 ⟨rfl, hB2⟩
  have hQ1 := hP1.keep hB2
  have hBr := below_up hB1 hB2
  go_wp2_with fail
  go_at_call 161
  refine (HA.out _).mono ?_
  rintro e w3 ⟨rfl, hB3⟩
  have hQ1 := hQ1.keep hB3
  have hBr := below_up hBr hB3
  have hltw := hBr.size
  obtain ⟨c0, c1⟩ := hQ1.two
  have cf := hQ1.free
  have hlt3 : w.heap.size < w3.heap.size := by have := hB2.size; have := hB3.size; omega
  obtain ⟨W4, hW4, hP4, hz4, hB4⟩ := box w3 #[.int .i64 fa, .int .i64 ta] 108
  have HW4 := Lib.hid hW4
  have hQ4 := hQ1.keep hB4
  have hBr4 := below_up hBr hB4
  clear hW4
  have hS1 := (((hQ1.set 0 (.int .i64 fa)).set 1 (.int .i64 ta)).alloc (.cells #[.int .i64 fa, .int .i64 ta] 108)).alloc (.cells #[.int .i64 fa, .int .i64 ta] 108)
  go_wp2_with fail
  obtain ⟨s0, s1⟩ := hS1.two
  refine bodyPost_ret (v := .tuple #[.agg #[.int .i64 fa, .int .i64 ta], .int .i64 0]) ?_ rfl ?_
  ·simp [results, Tryz.results103, go_sem, s0, s1]
  ·first | exact SpanPost.mk rfl ((((hBr.setCell (Nat.le_refl _) _).setCell (Nat.le_refl _) _).alloc (by simp; omega) _).alloc (by simp; omega) _) | exact SpanPost.mk rfl ((hBr.alloc (by omega) _).alloc (by simp; omega) _)
 ·obtain ⟨fa, hfa⟩ : ∃ fa : Int, fa = 0 := ⟨0, rfl⟩
  obtain ⟨ta, hta⟩ : ∃ ta : Int, ta = 0 := ⟨0, rfl⟩
  have HA2 : Hid (UnitAt 161 a fa ta 1) := by rw [hfa, hta]; exact HA
  clear HA
  have HA := HA2
  clear HA2 hfa hta
  show Calls Tryz.prog 103 #[.string x] w (SpanPost w (0, 0, 1))
  obtain ⟨W1, hW1, hP1, hz1, hB1⟩ := box w #[.int .i64 0, .int .i64 0] 108
  have HW1 := Lib.hid hW1
  have HCUT := Lib.hid (hcut W1 (hmx.below hB1))
  clear hcut hmx hW1
  go_enter Tryz.func103, Tryz.ntmps103
  go_wp2_with fail
  rw [HW1.out]
  go_at_call 160
  refine HCUT.out.mono ?_
  rintro e w2 ⟨rfl, hB2⟩
  have hQ1 := hP1.keep hB2
  have hBr := below_up hB1 hB2
  go_wp2_with fail
  go_at_call 161
  refine (HA.out _).mono ?_
  rintro e w3 ⟨rfl, hB3⟩
  have hQ1 := hQ1.keep hB3
  have hBr := below_up hBr hB3
  have hltw := hBr.size
  obtain ⟨c0, c1⟩ := hQ1.two
  have cf := hQ1.free
  have hlt3 : w.heap.size < w3.heap.size := by have := hB2.size; have := hB3.size; omega
  obtain ⟨W4, hW4, hP4, hz4, hB4⟩ := box w3 #[.int .i64 fa, .int .i64 ta] 108
  have HW4 := Lib.hid hW4
  have hQ4 := hQ1.keep hB4
  have hBr4 := below_up hBr hB4
  clear hW4
  have hS1 := (((hQ1.set 0 (.int .i64 0)).set 1 (.int .i64 0)).alloc (.cells #[.int .i64 fa, .int .i64 ta] 108)).alloc (.cells #[.int .i64 fa, .int .i64 ta] 108)
  go_wp2_with fail
  obtain ⟨s0, s1⟩ := hS1.two
  refine bodyPost_ret (v := .tuple #[.agg #[.int .i64 0, .int .i64 0], .int .i64 1]) ?_ rfl ?_
  ·simp [results, Tryz.results103, go_sem, s0, s1]
  ·first | exact SpanPost.mk rfl ((((hBr.setCell (Nat.le_refl _) _).setCell (Nat.le_refl _) _).alloc (by simp; omega) _).alloc (by simp; omega) _) | exact SpanPost.mk rfl ((hBr.alloc (by omega) _).alloc (by simp; omega) _)
 ·obtain ⟨fa, hfa⟩ : ∃ fa : Int, fa = 0 := ⟨0, rfl⟩
  obtain ⟨ta, hta⟩ : ∃ ta : Int, ta = 0 := ⟨0, rfl⟩
  have HA2 : Hid (UnitAt 161 a fa ta 8) := by rw [hfa, hta]; exact HA
  clear HA
  have HA := HA2
  clear HA2 hfa hta
  show Calls Tryz.prog 103 #[.string x] w (SpanPost w (0, 0, 8))
  obtain ⟨W1, hW1, hP1, hz1, hB1⟩ := box w #[.int .i64 0, .int .i64 0] 108
  have HW1 := Lib.hid hW1
  have HCUT := Lib.hid (hcut W1 (hmx.below hB1))
  clear hcut hmx hW1
  go_enter Tryz.func103, Tryz.ntmps103
  go_wp2_with fail
  rw [HW1.out]
  go_at_call 160
  refine HCUT.out.mono ?_
  rintro e w2 ⟨rfl, hB2⟩
  have hQ1 := hP1.keep hB2
  have hBr := below_up hB1 hB2
  go_wp2_with fail
  go_at_call 161
  refine (HA.out _).mono ?_
  rintro e w3 ⟨rfl, hB3⟩
  have hQ1 := hQ1.keep hB3
  have hBr := below_up hBr hB3
  have hltw := hBr.size
  obtain ⟨c0, c1⟩ := hQ1.two
  have cf := hQ1.free
  have hlt3 : w.heap.size < w3.heap.size := by have := hB2.size; have := hB3.size; omega
  obtain ⟨W4, hW4, hP4, hz4, hB4⟩ := box w3 #[.int .i64 fa, .int .i64 ta] 108
  have HW4 := Lib.hid hW4
  have hQ4 := hQ1.keep hB4
  have hBr4 := below_up hBr hB4
  clear hW4
  have hS1 := (((hQ1.set 0 (.int .i64 0)).set 1 (.int .i64 0)).alloc (.cells #[.int .i64 fa, .int .i64 ta] 108)).alloc (.cells #[.int .i64 fa, .int .i64 ta] 108)
  go_wp2_with fail
  obtain ⟨s0, s1⟩ := hS1.two
  refine bodyPost_ret (v := .tuple #[.agg #[.int .i64 0, .int .i64 0], .int .i64 8]) ?_ rfl ?_
  ·simp [results, Tryz.results103, go_sem, s0, s1]
  ·first | exact SpanPost.mk rfl ((((hBr.setCell (Nat.le_refl _) _).setCell (Nat.le_refl _) _).alloc (by simp; omega) _).alloc (by simp; omega) _) | exact SpanPost.mk rfl ((hBr.alloc (by omega) _).alloc (by simp; omega) _)
theorem spanOf_two (x a b : ByteArray) (fa ta ea fb tb eb : Int) (w : World) (hmx : Mx w)
  (hcut : ∀ W, Mx W → Calls Tryz.prog 160 #[.string x, .string ⟨#[46, 46]⟩] W fun e w' => e = .returned (.tuple #[.string a, .string b, .bool true]) ∧ Below W.heap.size W w')
  (ha : UnitAt 162 a fa ta ea) (hb : UnitAt 162 b fb tb eb) (hea : ea = 0 ∨ ea = 1 ∨ ea = 8) (heb : eb = 0 ∨ eb = 1 ∨ eb = 8) :
  Calls Tryz.prog 106 #[.string x] w (SpanPost w (Sp.sp fa ta ea fb tb eb true)) := by
 have HA := Lib.hid ha
 have HB := Lib.hid hb
 clear ha hb
 rcases hea with rfl | rfl | rfl
 ·rcases heb with rfl | rfl | rfl
  ·by_cases hlt : tb < fa
   ·have HO : Hid (Sp.sp fa ta 0 fb tb 0 true = (0, 0, 5)) := by show _ = _; simp [Sp.sp, hlt]
    obtain ⟨W1, hW1, hP1, hz1, hB1⟩ := box w #[.int .i64 0, .int .i64 0] 108
    have HW1 := Lib.hid hW1
    have HCUT := Lib.hid (hcut W1 (hmx.below hB1))
    clear hcut hmx hW1
    go_enter Tryz.func106, Tryz.ntmps106
    go_wp2_with fail
    rw [HW1.out]
    go_at_call 160
    refine HCUT.out.mono ?_
    rintro e w2 ⟨rfl, hB2⟩
    have hQ1 := hP1.keep hB2
    have hBr := below_up hB1 hB2
    go_wp2_with fail
    go_at_call 162
    refine (HA.out _).mono ?_
    rintro e w3 ⟨rfl, hB3⟩
    have hQ1 := hQ1.keep hB3
    have hBr := below_up hBr hB3
    have hltw := hBr.size
    obtain ⟨c0, c1⟩ := hQ1.two
    have cf := hQ1.free
    have hlt3 : w.heap.size < w3.heap.size := by have := hB2.size; have := hB3.size; omega
    obtain ⟨W4, hW4, hP4, hz4, hB4⟩ := box w3 #[.int .i64 fa, .int .i64 ta] 108
    have HW4 := Lib.hid hW4
    have hQ4 := hQ1.keep hB4
    have hBr4 := below_up hBr hB4
    clear hW4
    go_wp2_with fail
    rw [HW4.out]
    go_at_call 162
    refine (HB.out _).mono ?_
    rintro e w6 ⟨rfl, hB6⟩
    have hQ1 := hQ4.keep hB6
    have hA6 := hP4.keep hB6
    have hBr := below_up hBr4 hB6
    have hlt6 := hB6.size
    clear c0 c1 cf
    obtain ⟨c0, c1⟩ := hQ1.two
    have cf := hQ1.free
    obtain ⟨d0, d1⟩ := hA6.two
    have hlt4 : w3.heap.size < w6.heap.size := by omega
    have hlt7 : w.heap.size < w6.heap.size := by omega
    have hS1 := ((hQ1.set 0 (.int .i64 0)).set 1 (.int .i64 0)).alloc (.cells #[.int .i64 fb, .int .i64 tb] 108)
    go_wp2_with fail
    obtain ⟨s0, s1⟩ := hS1.two
    refine bodyPost_ret (v := .tuple #[.agg #[.int .i64 0, .int .i64 0], .int .i64 5]) ?_ rfl ?_
    ·simp [results, Tryz.results106, go_sem, s0, s1]
    ·first | exact SpanPost.mk HO.out (((hBr.setCell (Nat.le_refl _) _).setCell (Nat.le_refl _) _).alloc (by simp; omega) _) | exact SpanPost.mk HO.out (hBr.alloc (by omega) _)
   ·have HO : Hid (Sp.sp fa ta 0 fb tb 0 true = (fa, tb, 0)) := by show _ = _; simp [Sp.sp, hlt]
    obtain ⟨W1, hW1, hP1, hz1, hB1⟩ := box w #[.int .i64 0, .int .i64 0] 108
    have HW1 := Lib.hid hW1
    have HCUT := Lib.hid (hcut W1 (hmx.below hB1))
    clear hcut hmx hW1
    go_enter Tryz.func106, Tryz.ntmps106
    go_wp2_with fail
    rw [HW1.out]
    go_at_call 160
    refine HCUT.out.mono ?_
    rintro e w2 ⟨rfl, hB2⟩
    have hQ1 := hP1.keep hB2
    have hBr := below_up hB1 hB2
    go_wp2_with fail
    go_at_call 162
    refine (HA.out _).mono ?_
    rintro e w3 ⟨rfl, hB3⟩
    have hQ1 := hQ1.keep hB3
    have hBr := below_up hBr hB3
    have hltw := hBr.size
    obtain ⟨c0, c1⟩ := hQ1.two
    have cf := hQ1.free
    have hlt3 : w.heap.size < w3.heap.size := by have := hB2.size; have := hB3.size; omega
    obtain ⟨W4, hW4, hP4, hz4, hB4⟩ := box w3 #[.int .i64 fa, .int .i64 ta] 108
    have HW4 := Lib.hid hW4
    have hQ4 := hQ1.keep hB4
    have hBr4 := below_up hBr hB4
    clear hW4
    go_wp2_with fail
    rw [HW4.out]
    go_at_call 162
    refine (HB.out _).mono ?_
    rintro e w6 ⟨rfl, hB6⟩
    have hQ1 := hQ4.keep hB6
    have hA6 := hP4.keep hB6
    have hBr := below_up hBr4 hB6
    have hlt6 := hB6.size
    clear c0 c1 cf
    obtain ⟨c0, c1⟩ := hQ1.two
    have cf := hQ1.free
    obtain ⟨d0, d1⟩ := hA6.two
    have hlt4 : w3.heap.size < w6.heap.size := by omega
    have hlt7 : w.heap.size < w6.heap.size := by omega
    have hS1 := ((hQ1.set 0 (.int .i64 fa)).set 1 (.int .i64 tb)).alloc (.cells #[.int .i64 fb, .int .i64 tb] 108)
    go_wp2_with fail
    obtain ⟨s0, s1⟩ := hS1.two
    refine bodyPost_ret (v := .tuple #[.agg #[.int .i64 fa, .int .i64 tb], .int .i64 0]) ?_ rfl ?_
    ·simp [results, Tryz.results106, go_sem, s0, s1]
    ·first | exact SpanPost.mk HO.out (((hBr.setCell (Nat.le_refl _) _).setCell (Nat.le_refl _) _).alloc (by simp; omega) _) | exact SpanPost.mk HO.out (hBr.alloc (by omega) _)
  ·have HO : Hid (Sp.sp fa ta 0 fb tb 1 true = (0, 0, 1)) := by show _ = _; simp [Sp.sp]
   obtain ⟨W1, hW1, hP1, hz1, hB1⟩ := box w #[.int .i64 0, .int .i64 0] 108
   have HW1 := Lib.hid hW1
   have HCUT := Lib.hid (hcut W1 (hmx.below hB1))
   clear hcut hmx hW1
   go_enter Tryz.func106, Tryz.ntmps106
   go_wp2_with fail
   rw [HW1.out]
   go_at_call 160
   refine HCUT.out.mono ?_
   rintro e w2 ⟨rfl, hB2⟩
   have hQ1 := hP1.keep hB2
   have hBr := below_up hB1 hB2
   go_wp2_with fail
   go_at_call 162
   refine (HA.out _).mono ?_
   rintro e w3 ⟨rfl, hB3⟩
   have hQ1 := hQ1.keep hB3
   have hBr := below_up hBr hB3
   have hltw := hBr.size
   obtain ⟨c0, c1⟩ := hQ1.two
   have cf := hQ1.free
   have hlt3 : w.heap.size < w3.heap.size := by have := hB2.size; have := hB3.size; omega
   obtain ⟨W4, hW4, hP4, hz4, hB4⟩ := box w3 #[.int .i64 fa, .int .i64 ta] 108
   have HW4 := Lib.hid hW4
   have hQ4 := hQ1.keep hB4
   have hBr4 := below_up hBr hB4
   clear hW4
   go_wp2_with fail
   rw [HW4.out]
   go_at_call 162
   refine (HB.out _).mono ?_
   rintro e w6 ⟨rfl, hB6⟩
   have hQ1 := hQ4.keep hB6
   have hA6 := hP4.keep hB6
   have hBr := below_up hBr4 hB6
   have hlt6 := hB6.size
   clear c0 c1 cf
   obtain ⟨c0, c1⟩ := hQ1.two
   have cf := hQ1.free
   obtain ⟨d0, d1⟩ := hA6.two
   have hlt4 : w3.heap.size < w6.heap.size := by omega
   have hlt7 : w.heap.size < w6.heap.size := by omega
   have hS1 := ((hQ1.set 0 (.int .i64 0)).set 1 (.int .i64 0)).alloc (.cells #[.int .i64 fb, .int .i64 tb] 108)
   go_wp2_with fail
   obtain ⟨s0, s1⟩ := hS1.two
   refine bodyPost_ret (v := .tuple #[.agg #[.int .i64 0, .int .i64 0], .int .i64 1]) ?_ rfl ?_
   ·simp [results, Tryz.results106, go_sem, s0, s1]
   ·first | exact SpanPost.mk HO.out (((hBr.setCell (Nat.le_refl _) _).setCell (Nat.le_refl _) _).alloc (by simp; omega) _) | exact SpanPost.mk HO.out (hBr.alloc (by omega) _)
  ·have HO : Hid (Sp.sp fa ta 0 fb tb 8 true = (0, 0, 8)) := by show _ = _; simp [Sp.sp]
   obtain ⟨W1, hW1, hP1, hz1, hB1⟩ := box w #[.int .i64 0, .int .i64 0] 108
   have HW1 := Lib.hid hW1
   have HCUT := Lib.hid (hcut W1 (hmx.below hB1))
   clear hcut hmx hW1
   go_enter Tryz.func106, Tryz.ntmps106
   go_wp2_with fail
   rw [HW1.out]
   go_at_call 160
   refine HCUT.out.mono ?_
   rintro e w2 ⟨rfl, hB2⟩
   have hQ1 := hP1.keep hB2
   have hBr := below_up hB1 hB2
   go_wp2_with fail
   go_at_call 162
   refine (HA.out _).mono ?_
   rintro e w3 ⟨rfl, hB3⟩
   have hQ1 := hQ1.keep hB3
   have hBr := below_up hBr hB3
   have hltw := hBr.size
   obtain ⟨c0, c1⟩ := hQ1.two
   have cf := hQ1.free
   have hlt3 : w.heap.size < w3.heap.size := by have := hB2.size; have := hB3.size; omega
   obtain ⟨W4, hW4, hP4, hz4, hB4⟩ := box w3 #[.int .i64 fa, .int .i64 ta] 108
   have HW4 := Lib.hid hW4
   have hQ4 := hQ1.keep hB4
   have hBr4 := below_up hBr hB4
   clear hW4
   go_wp2_with fail
   rw [HW4.out]
   go_at_call 162
   refine (HB.out _).mono ?_
   rintro e w6 ⟨rfl, hB6⟩
   have hQ1 := hQ4.keep hB6
   have hA6 := hP4.keep hB6
   have hBr := below_up hBr4 hB6
   have hlt6 := hB6.size
   clear c0 c1 cf
   obtain ⟨c0, c1⟩ := hQ1.two
   have cf := hQ1.free
   obtain ⟨d0, d1⟩ := hA6.two
   have hlt4 : w3.heap.size < w6.heap.size := by omega
   have hlt7 : w.heap.size < w6.heap.size := by omega
   have hS1 := ((hQ1.set 0 (.int .i64 0)).set 1 (.int .i64 0)).alloc (.cells #[.int .i64 fb, .int .i64 tb] 108)
   go_wp2_with fail
   obtain ⟨s0, s1⟩ := hS1.two
   refine bodyPost_ret (v := .tuple #[.agg #[.int .i64 0, .int .i64 0], .int .i64 8]) ?_ rfl ?_
   ·simp [results, Tryz.results106, go_sem, s0, s1]
   ·first | exact SpanPost.mk HO.out (((hBr.setCell (Nat.le_refl _) _).setCell (Nat.le_refl _) _).alloc (by simp; omega) _) | exact SpanPost.mk HO.out (hBr.alloc (by omega) _)
 ·rcases heb with rfl | rfl | rfl
  ·have HO : Hid (Sp.sp fa ta 1 fb tb 0 true = (0, 0, 1)) := by show _ = _; simp [Sp.sp]
   obtain ⟨W1, hW1, hP1, hz1, hB1⟩ := box w #[.int .i64 0, .int .i64 0] 108
   have HW1 := Lib.hid hW1
   have HCUT := Lib.hid (hcut W1 (hmx.below hB1))
   clear hcut hmx hW1
   go_enter Tryz.func106, Tryz.ntmps106
   go_wp2_with fail
   rw [HW1.out]
   go_at_call 160
   refine HCUT.out.mono ?_
   rintro e w2 ⟨rfl, hB2⟩
   have hQ1 := hP1.keep hB2
   have hBr := below_up hB1 hB2
   go_wp2_with fail
   go_at_call 162
   refine (HA.out _).mono ?_
   rintro e w3 ⟨rfl, hB3⟩
   have hQ1 := hQ1.keep hB3
   have hBr := below_up hBr hB3
   have hltw := hBr.size
   obtain ⟨c0, c1⟩ := hQ1.two
   have cf := hQ1.free
   have hlt3 : w.heap.size < w3.heap.size := by have := hB2.size; have := hB3.size; omega
   obtain ⟨W4, hW4, hP4, hz4, hB4⟩ := box w3 #[.int .i64 fa, .int .i64 ta] 108
   have HW4 := Lib.hid hW4
   have hQ4 := hQ1.keep hB4
   have hBr4 := below_up hBr hB4
   clear hW4
   go_wp2_with fail
   rw [HW4.out]
   go_at_call 162
   refine (HB.out _).mono ?_
   rintro e w6 ⟨rfl, hB6⟩
   have hQ1 := hQ4.keep hB6
   have hA6 := hP4.keep hB6
   have hBr := below_up hBr4 hB6
   have hlt6 := hB6.size
   clear c0 c1 cf
   obtain ⟨c0, c1⟩ := hQ1.two
   have cf := hQ1.free
   obtain ⟨d0, d1⟩ := hA6.two
   have hlt4 : w3.heap.size < w6.heap.size := by omega
   have hlt7 : w.heap.size < w6.heap.size := by omega
   have hS1 := ((hQ1.set 0 (.int .i64 0)).set 1 (.int .i64 0)).alloc (.cells #[.int .i64 fb, .int .i64 tb] 108)
   go_wp2_with fail
   obtain ⟨s0, s1⟩ := hS1.two
   refine bodyPost_ret (v := .tuple #[.agg #[.int .i64 0, .int .i64 0], .int .i64 1]) ?_ rfl ?_
   ·simp [results, Tryz.results106, go_sem, s0, s1]
   ·first | exact SpanPost.mk HO.out (((hBr.setCell (Nat.le_refl _) _).setCell (Nat.le_refl _) _).alloc (by simp; omega) _) | exact SpanPost.mk HO.out (hBr.alloc (by omega) _)
  ·have HO : Hid (Sp.sp fa ta 1 fb tb 1 true = (0, 0, 1)) := by show _ = _; simp [Sp.sp]
   obtain ⟨W1, hW1, hP1, hz1, hB1⟩ := box w #[.int .i64 0, .int .i64 0] 108
   have HW1 := Lib.hid hW1
   have HCUT := Lib.hid (hcut W1 (hmx.below hB1))
   clear hcut hmx hW1
   go_enter Tryz.func106, Tryz.ntmps106
   go_wp2_with fail
   rw [HW1.out]
   go_at_call 160
   refine HCUT.out.mono ?_
   rintro e w2 ⟨rfl, hB2⟩
   have hQ1 := hP1.keep hB2
   have hBr := below_up hB1 hB2
   go_wp2_with fail
   go_at_call 162
   refine (HA.out _).mono ?_
   rintro e w3 ⟨rfl, hB3⟩
   have hQ1 := hQ1.keep hB3
   have hBr := below_up hBr hB3
   have hltw := hBr.size
   obtain ⟨c0, c1⟩ := hQ1.two
   have cf := hQ1.free
   have hlt3 : w.heap.size < w3.heap.size := by have := hB2.size; have := hB3.size; omega
   obtain ⟨W4, hW4, hP4, hz4, hB4⟩ := box w3 #[.int .i64 fa, .int .i64 ta] 108
   have HW4 := Lib.hid hW4
   have hQ4 := hQ1.keep hB4
   have hBr4 := below_up hBr hB4
   clear hW4
   go_wp2_with fail
   rw [HW4.out]
   go_at_call 162
   refine (HB.out _).mono ?_
   rintro e w6 ⟨rfl, hB6⟩
   have hQ1 := hQ4.keep hB6
   have hA6 := hP4.keep hB6
   have hBr := below_up hBr4 hB6
   have hlt6 := hB6.size
   clear c0 c1 cf
   obtain ⟨c0, c1⟩ := hQ1.two
   have cf := hQ1.free
   obtain ⟨d0, d1⟩ := hA6.two
   have hlt4 : w3.heap.size < w6.heap.size := by omega
   have hlt7 : w.heap.size < w6.heap.size := by omega
   have hS1 := ((hQ1.set 0 (.int .i64 0)).set 1 (.int .i64 0)).alloc (.cells #[.int .i64 fb, .int .i64 tb] 108)
   go_wp2_with fail
   obtain ⟨s0, s1⟩ := hS1.two
   refine bodyPost_ret (v := .tuple #[.agg #[.int .i64 0, .int .i64 0], .int .i64 1]) ?_ rfl ?_
   ·simp [results, Tryz.results106, go_sem, s0, s1]
   ·first | exact SpanPost.mk HO.out (((hBr.setCell (Nat.le_refl _) _).setCell (Nat.le_refl _) _).alloc (by simp; omega) _) | exact SpanPost.mk HO.out (hBr.alloc (by omega) _)
  ·have HO : Hid (Sp.sp fa ta 1 fb tb 8 true = (0, 0, 8)) := by show _ = _; simp [Sp.sp]
   obtain ⟨W1, hW1, hP1, hz1, hB1⟩ := box w #[.int .i64 0, .int .i64 0] 108
   have HW1 := Lib.hid hW1
   have HCUT := Lib.hid (hcut W1 (hmx.below hB1))
   clear hcut hmx hW1
   go_enter Tryz.func106, Tryz.ntmps106
   go_wp2_with fail
   rw [HW1.out]
   go_at_call 160
   refine HCUT.out.mono ?_
   rintro e w2 ⟨rfl, hB2⟩
   have hQ1 := hP1.keep hB2
   have hBr := below_up hB1 hB2
   go_wp2_with fail
   go_at_call 162
   refine (HA.out _).mono ?_
   rintro e w3 ⟨rfl, hB3⟩
   have hQ1 := hQ1.keep hB3
   have hBr := below_up hBr hB3
   have hltw := hBr.size
   obtain ⟨c0, c1⟩ := hQ1.two
   have cf := hQ1.free
   have hlt3 : w.heap.size < w3.heap.size := by have := hB2.size; have := hB3.size; omega
   obtain ⟨W4, hW4, hP4, hz4, hB4⟩ := box w3 #[.int .i64 fa, .int .i64 ta] 108
   have HW4 := Lib.hid hW4
   have hQ4 := hQ1.keep hB4
   have hBr4 := below_up hBr hB4
   clear hW4
   go_wp2_with fail
   rw [HW4.out]
   go_at_call 162
   refine (HB.out _).mono ?_
   rintro e w6 ⟨rfl, hB6⟩
   have hQ1 := hQ4.keep hB6
   have hA6 := hP4.keep hB6
   have hBr := below_up hBr4 hB6
   have hlt6 := hB6.size
   clear c0 c1 cf
   obtain ⟨c0, c1⟩ := hQ1.two
   have cf := hQ1.free
   obtain ⟨d0, d1⟩ := hA6.two
   have hlt4 : w3.heap.size < w6.heap.size := by omega
   have hlt7 : w.heap.size < w6.heap.size := by omega
   have hS1 := ((hQ1.set 0 (.int .i64 0)).set 1 (.int .i64 0)).alloc (.cells #[.int .i64 fb, .int .i64 tb] 108)
   go_wp2_with fail
   obtain ⟨s0, s1⟩ := hS1.two
   refine bodyPost_ret (v := .tuple #[.agg #[.int .i64 0, .int .i64 0], .int .i64 8]) ?_ rfl ?_
   ·simp [results, Tryz.results106, go_sem, s0, s1]
   ·first | exact SpanPost.mk HO.out (((hBr.setCell (Nat.le_refl _) _).setCell (Nat.le_refl _) _).alloc (by simp; omega) _) | exact SpanPost.mk HO.out (hBr.alloc (by omega) _)
 ·have HO : Hid (Sp.sp fa ta 8 fb tb eb true = (0, 0, 8)) := by show _ = _; simp [Sp.sp]
  clear heb
  obtain ⟨W1, hW1, hP1, hz1, hB1⟩ := box w #[.int .i64 0, .int .i64 0] 108
  have HW1 := Lib.hid hW1
  have HCUT := Lib.hid (hcut W1 (hmx.below hB1))
  clear hcut hmx hW1
  go_enter Tryz.func106, Tryz.ntmps106
  go_wp2_with fail
  rw [HW1.out]
  go_at_call 160
  refine HCUT.out.mono ?_
  rintro e w2 ⟨rfl, hB2⟩
  have hQ1 := hP1.keep hB2
  have hBr := below_up hB1 hB2
  go_wp2_with fail
  go_at_call 162
  refine (HA.out _).mono ?_
  rintro e w3 ⟨rfl, hB3⟩
  have hQ1 := hQ1.keep hB3
  have hBr := below_up hBr hB3
  have hltw := hBr.size
  obtain ⟨c0, c1⟩ := hQ1.two
  have cf := hQ1.free
  have hlt3 : w.heap.size < w3.heap.size := by have := hB2.size; have := hB3.size; omega
  obtain ⟨W4, hW4, hP4, hz4, hB4⟩ := box w3 #[.int .i64 fa, .int .i64 ta] 108
  have HW4 := Lib.hid hW4
  have hQ4 := hQ1.keep hB4
  have hBr4 := below_up hBr hB4
  clear hW4
  go_wp2_with fail
  rw [HW4.out]
  go_at_call 162
  refine (HB.out _).mono ?_
  rintro e w6 ⟨rfl, hB6⟩
  have hQ1 := hQ4.keep hB6
  have hA6 := hP4.keep hB6
  have hBr := below_up hBr4 hB6
  have hlt6 := hB6.size
  clear c0 c1 cf
  obtain ⟨c0, c1⟩ := hQ1.two
  have cf := hQ1.free
  obtain ⟨d0, d1⟩ := hA6.two
  have hlt4 : w3.heap.size < w6.heap.size := by omega
  have hlt7 : w.heap.size < w6.heap.size := by omega
  have hS1 := ((hQ1.set 0 (.int .i64 0)).set 1 (.int .i64 0)).alloc (.cells #[.int .i64 fb, .int .i64 tb] 108)
  go_wp2_with fail
  obtain ⟨s0, s1⟩ := hS1.two
  refine bodyPost_ret (v := .tuple #[.agg #[.int .i64 0, .int .i64 0], .int .i64 8]) ?_ rfl ?_
  ·simp [results, Tryz.results106, go_sem, s0, s1]
  ·first | exact SpanPost.mk HO.out (((hBr.setCell (Nat.le_refl _) _).setCell (Nat.le_refl _) _).alloc (by simp; omega) _) | exact SpanPost.mk HO.out (hBr.alloc (by omega) _)
theorem spanOf_one (x a b : ByteArray) (fa ta ea : Int) (w : World) (hmx : Mx w)
  (hcut : ∀ W, Mx W → Calls Tryz.prog 160 #[.string x, .string ⟨#[46, 46]⟩] W fun e w' => e = .returned (.tuple #[.string a, .string b, .bool false]) ∧ Below W.heap.size W w')
  (ha : UnitAt 162 a fa ta ea) :
  Calls Tryz.prog 106 #[.string x] w (SpanPost w (fa, ta, ea)) := by
 have HA := Lib.hid ha
 clear ha
 obtain ⟨W1, hW1, hP1, hz1, hB1⟩ := box w #[.int .i64 0, .int .i64 0] 108
 have HW1 := Lib.hid hW1
 have HCUT := Lib.hid (hcut W1 (hmx.below hB1))
 clear hcut hmx hW1
 go_enter Tryz.func106, Tryz.ntmps106
 go_wp2_with fail
 rw [HW1.out]
 go_at_call 160
 refine HCUT.out.mono ?_
 rintro e w2 ⟨rfl, hB2⟩
 have hQ1 := hP1.keep hB2
 have hBr := below_up hB1 hB2
 go_wp2_with fail
 go_at_call 162
 refine (HA.out _).mono ?_
 rintro e w3 ⟨rfl, hB3⟩
 have hQ1 := hQ1.keep hB3
 have hBr := below_up hBr hB3
 have hltw := hBr.size
 obtain ⟨c0, c1⟩ := hQ1.two
 have cf := hQ1.free
 have hlt3 : w.heap.size < w3.heap.size := by have := hB2.size; have := hB3.size; omega
 obtain ⟨W4, hW4, hP4, hz4, hB4⟩ := box w3 #[.int .i64 fa, .int .i64 ta] 108
 have HW4 := Lib.hid hW4
 have hQ4 := hQ1.keep hB4
 have hBr4 := below_up hBr hB4
 clear hW4
 have hS1 := (((hQ1.set 0 (.int .i64 fa)).set 1 (.int .i64 ta)).alloc (.cells #[.int .i64 fa, .int .i64 ta] 108))
 go_wp2_with fail
 obtain ⟨s0, s1⟩ := hS1.two
 refine bodyPost_ret (v := .tuple #[.agg #[.int .i64 fa, .int .i64 ta], .int .i64 ea]) ?_ rfl ?_
 ·simp [results, Tryz.results106, go_sem, s0, s1]
 ·exact SpanPost.mk rfl (((hBr.setCell (Nat.le_refl _) _).setCell (Nat.le_refl _) _).alloc (by simp; omega) _)
theorem span_is (s : List UInt8) (hs : s.length < 4294967281) (w : World) (hm : Mx w) : Calls Tryz.prog 103 #[.string (Tx.mk s)] w (SpanPost w (Sp.span s)) := by
 have hl := cut_len s [46, 46]
 have hc := fun W hW => cut_is s [46, 46] hs W hW
 have ua : UnitAt 161 (Tx.mk (Lib.cut s [46, 46]).1) _ _ _ := fun W => unit_is _ (by omega) W
 have ub : UnitAt 161 (Tx.mk (Lib.cut s [46, 46]).2.1) _ _ _ := fun W => unit_is _ (by omega) W
 have oa := Sp.out_cases (Lib.cut s [46, 46]).1
 have ob := Sp.out_cases (Lib.cut s [46, 46]).2.1
 unfold Sp.span
 show Calls Tryz.prog 103 #[.string (Tx.mk s)] w (SpanPost w (Sp.sp _ _ _ _ _ _ _))
 cases h : (Lib.cut s [46, 46]).2.2
 ·rw [h] at hc
  have e : ∀ fa ta ea fb tb eb, Sp.sp fa ta ea fb tb eb false = (fa, ta, ea) := fun _ _ _ _ _ _ => rfl
  rw [e]
  exact span_one _ _ _ _ _ _ w hm hc ua (by rcases oa with h | h | h <;> omega)
 ·rw [h] at hc
  exact span_two _ _ _ _ _ _ _ _ _ w hm hc ua ub (by rcases oa with h | h | h <;> omega) (by rcases ob with h | h | h <;> omega)
theorem spanOf_is (s : List UInt8) (hs : s.length < 4294967281) (w : World) (hm : Mx w) : Calls Tryz.prog 106 #[.string (Tx.mk s)] w (SpanPost w (Sp.span s)) := by
 have hc := fun W hW => cut_is s [46, 46] hs W hW
 have ua : UnitAt 162 (Tx.mk (Lib.cut s [46, 46]).1) _ _ _ := fun W => one_is _ W
 have ub : UnitAt 162 (Tx.mk (Lib.cut s [46, 46]).2.1) _ _ _ := fun W => one_is _ W
 have oa := Sp.out_cases (Lib.cut s [46, 46]).1
 have ob := Sp.out_cases (Lib.cut s [46, 46]).2.1
 unfold Sp.span
 show Calls Tryz.prog 106 #[.string (Tx.mk s)] w (SpanPost w (Sp.sp _ _ _ _ _ _ _))
 cases h : (Lib.cut s [46, 46]).2.2
 ·rw [h] at hc
  have e : ∀ fa ta ea fb tb eb, Sp.sp fa ta ea fb tb eb false = (fa, ta, ea) := fun _ _ _ _ _ _ => rfl
  rw [e]
  exact spanOf_one _ _ _ _ _ _ w hm hc ua
 ·rw [h] at hc
  exact spanOf_two _ _ _ _ _ _ _ _ _ w hm hc ua ub (by rcases oa with h | h | h <;> omega) (by rcases ob with h | h | h <;> omega)
end Go.Proofs.YtimjmjmpaicdbaaGreatDoor
namespace Go.Proofs.YtimjmjmpaicdbaaGreatDoor
namespace Sx
open Go.Op (bytesLess)
theorem less_irr : ∀ a : List UInt8, bytesLess a a = false
 | [] => rfl
 | a :: x => by
   show (decide (a < a) || (a == a && bytesLess x x)) = false
   rw [less_irr x]; simp
theorem less_tri : ∀ a b : List UInt8, bytesLess a b = false → bytesLess b a = false → a = b
 | [], [], _, _ => rfl
 | [], _ :: _, h, _ => by exact absurd h (by simp [bytesLess])
 | _ :: _, [], _, h => by exact absurd h (by simp [bytesLess])
 | a :: x, b :: y, h1, h2 => by
   simp only [bytesLess, Bool.or_eq_false_iff, decide_eq_false_iff_not, Bool.and_eq_false_iff, beq_eq_false_iff_ne, UInt8.not_lt] at h1 h2
   have e : a = b := UInt8.le_antisymm h2.1 h1.1
   subst e
   have t := less_tri x y (by rcases h1.2 with h | h; exact absurd rfl h; exact h) (by rcases h2.2 with h | h; exact absurd rfl h; exact h)
   rw [t]
theorem less_trans : ∀ a b c : List UInt8, bytesLess a b = true → bytesLess b c = true → bytesLess a c = true
 | [], b, [], _, h => by cases b <;> simp [bytesLess] at h
 | [], _, _ :: _, _, _ => by simp [bytesLess]
 | _ :: _, [], _, h, _ => by simp [bytesLess] at h
 | _ :: _, _ :: _, [], _, h => by simp [bytesLess] at h
 | a :: x, b :: y, c :: z, h1, h2 => by
   simp only [bytesLess, Bool.or_eq_true, decide_eq_true_eq, Bool.and_eq_true, beq_iff_eq] at h1 h2 ⊢
   rcases h1 with h1 | ⟨rfl, h1⟩
   ·rcases h2 with h2 | ⟨rfl, h2⟩
    ·exact .inl (UInt8.lt_trans h1 h2)
    ·exact .inl h1
   ·rcases h2 with h2 | ⟨rfl, h2⟩
    ·exact .inl h2
    ·exact .inr ⟨rfl, less_trans x y z h1 h2⟩
def lt (s t : List UInt8) : Bool := decide (s.length < t.length) || (decide (s.length = t.length) && bytesLess s t)
theorem lt_iff (s t : List UInt8) : lt s t = true ↔ s.length < t.length ∨ (s.length = t.length ∧ bytesLess s t = true) := by simp [lt]
theorem lt_tri (s t : List UInt8) (h1 : lt s t = false) (h2 : lt t s = false) : s = t := by
 have a1 := mt (lt_iff s t).2 (by rw [h1]; simp)
 have a2 := mt (lt_iff t s).2 (by rw [h2]; simp)
 have hl : s.length = t.length := by omega
 refine less_tri s t ?_ ?_
 ·rw [← Bool.not_eq_true]; exact fun h => a1 (.inr ⟨hl, h⟩)
 ·rw [← Bool.not_eq_true]; exact fun h => a2 (.inr ⟨hl.symm, h⟩)
theorem lt_trans (s t u : List UInt8) (h1 : lt s t = true) (h2 : lt t u = true) : lt s u = true := by
 rw [lt_iff] at *
 rcases h1 with h1 | ⟨e1, h1⟩
 ·rcases h2 with h2 | ⟨e2, h2⟩ <;> exact .inl (by omega)
 ·rcases h2 with h2 | ⟨e2, h2⟩
  ·exact .inl (by omega)
  ·exact .inr ⟨by omega, less_trans s t u h1 h2⟩
theorem lt_irr (s : List UInt8) : lt s s = false := by
 rw [← Bool.not_eq_true, lt_iff, less_irr]; simp
def step (ok : List UInt8 → Bool) (b s : List UInt8) : List UInt8 := if (ok s && (b.isEmpty || lt s b)) = true then s else b
def best (ok : List UInt8 → Bool) (l : List (List UInt8)) : List UInt8 := l.foldl (step ok) []
theorem best_snoc (ok : List UInt8 → Bool) (l : List (List UInt8)) (s : List UInt8) : best ok (l ++ [s]) = step ok (best ok l) s := by unfold best; rw [List.foldl_append]; rfl
def Is (ok : List UInt8 → Bool) (l : List (List UInt8)) (r : List UInt8) : Prop := (r = [] ∧ ∀ t ∈ l, ok t = false) ∨ (r ∈ l ∧ ok r = true ∧ ∀ t ∈ l, ok t = true → lt t r = false)
theorem step_is {ok : List UInt8 → Bool} {l : List (List UInt8)} {b s : List UInt8} (h : Is ok l b) (hne : ∀ t ∈ l, t ≠ []) : Is ok (l ++ [s]) (step ok b s) := by
 unfold step
 cases ho : ok s
 ·rw [if_neg (by simp)]
  rcases h with ⟨hb, ha⟩ | ⟨hb, hob, ha⟩
  ·exact .inl ⟨hb, fun t ht => by rcases List.mem_append.1 ht with h | h; exact ha t h; rw [List.mem_singleton.1 h]; exact ho⟩
  ·exact .inr ⟨List.mem_append.2 (.inl hb), hob, fun t ht hot => by rcases List.mem_append.1 ht with h | h; exact ha t h hot; rw [List.mem_singleton.1 h, ho] at hot; exact absurd hot (by simp)⟩
 ·rcases h with ⟨hb, ha⟩ | ⟨hb, hob, ha⟩
  ·rw [hb, if_pos (by simp)]
   exact .inr ⟨List.mem_append.2 (.inr (List.mem_singleton.2 rfl)), ho, fun t ht hot => by rcases List.mem_append.1 ht with h | h; rw [ha t h] at hot; exact absurd hot (by simp); rw [List.mem_singleton.1 h]; exact lt_irr s⟩
  ·have hbe : b.isEmpty = false := by cases b with | nil => exact absurd rfl (hne _ hb) | cons => rfl
   cases hl : lt s b
   ·rw [if_neg (by simp [hbe])]
    exact .inr ⟨List.mem_append.2 (.inl hb), hob, fun t ht hot => by rcases List.mem_append.1 ht with h | h; exact ha t h hot; rw [List.mem_singleton.1 h]; exact hl⟩
   ·rw [if_pos (by simp)]
    refine .inr ⟨List.mem_append.2 (.inr (List.mem_singleton.2 rfl)), ho, fun t ht hot => ?_⟩
    rcases List.mem_append.1 ht with h | h
    ·rw [← Bool.not_eq_true]; intro hc
     have := lt_trans t s b hc hl
     rw [ha t h hot] at this; exact absurd this (by simp)
    ·rw [List.mem_singleton.1 h]; exact lt_irr s
theorem best_is (ok : List UInt8 → Bool) (l : List (List UInt8)) (hne : ∀ t ∈ l, t ≠ []) : Is ok l (best ok l) := by
 have key : ∀ (m : List (List UInt8)) (k : List (List UInt8)) (b : List UInt8), (∀ t ∈ k ++ m, t ≠ []) → Is ok k b → Is ok (k ++ m) (m.foldl (step ok) b) := by
  intro m
  induction m with
  | nil => intro k b _ h; rw [List.append_nil]; exact h
  | cons s m ih =>
    intro k b hn h
    have h1 := step_is (s := s) h (fun t ht => hn t (List.mem_append.2 (.inl ht)))
    have := ih (k ++ [s]) _ (fun t ht => hn t (by rw [List.append_assoc] at ht; exact ht)) h1
    rw [List.append_assoc] at this
    exact this
 have := key l [] [] (by simpa using hne) (.inl ⟨rfl, fun t h => by simp at h⟩)
 rw [List.nil_append] at this
 exact this
theorem is_unique {ok : List UInt8 → Bool} {l l' : List (List UInt8)} {r r' : List UInt8} (h : Is ok l r) (h' : Is ok l' r') (hm : ∀ t, t ∈ l ↔ t ∈ l') : r = r' := by
 rcases h with ⟨rfl, ha⟩ | ⟨hb, ho, ha⟩
 ·rcases h' with ⟨rfl, _⟩ | ⟨hb', ho', _⟩
  ·rfl
  ·rw [ha _ ((hm _).2 hb')] at ho'; exact absurd ho' (by simp)
 ·rcases h' with ⟨rfl, ha'⟩ | ⟨hb', ho', ha'⟩
  ·rw [ha' _ ((hm _).1 hb)] at ho; exact absurd ho (by simp)
  ·exact lt_tri _ _ (ha' _ ((hm _).1 hb) ho) (ha _ ((hm _).2 hb') ho')
def dots : List UInt8 := [46, 46]
def candP (u1 u2 u3 v1 v2 v3 : List UInt8) : List (List UInt8) := [u1, u1 ++ dots ++ v1, u1 ++ dots ++ v2, u1 ++ dots ++ v3, u2, u2 ++ dots ++ v1, u2 ++ dots ++ v2, u2 ++ dots ++ v3, u3, u3 ++ dots ++ v1, u3 ++ dots ++ v2, u3 ++ dots ++ v3]
def candR (u1 u2 u3 v1 v2 v3 : List UInt8) : List (List UInt8) := [u1, u2, u3, u1 ++ dots ++ v1, u1 ++ dots ++ v2, u1 ++ dots ++ v3, u2 ++ dots ++ v1, u2 ++ dots ++ v2, u2 ++ dots ++ v3, u3 ++ dots ++ v1, u3 ++ dots ++ v2, u3 ++ dots ++ v3]
theorem cand_mem (u1 u2 u3 v1 v2 v3 t : List UInt8) : t ∈ candP u1 u2 u3 v1 v2 v3 ↔ t ∈ candR u1 u2 u3 v1 v2 v3 := by
 simp only [candP, candR, List.mem_cons, List.not_mem_nil, or_false]
 constructor <;> (intro h; rcases h with h | h | h | h | h | h | h | h | h | h | h | h <;> simp [h])
theorem cand_ne {u1 u2 u3 v1 v2 v3 : List UInt8} (h1 : u1 ≠ []) (h2 : u2 ≠ []) (h3 : u3 ≠ []) : ∀ t ∈ candP u1 u2 u3 v1 v2 v3, t ≠ [] := by
 intro t ht
 simp only [candP, List.mem_cons, List.not_mem_nil, or_false] at ht
 rcases ht with h | h | h | h | h | h | h | h | h | h | h | h <;> (rw [h]; simp [h1, h2, h3])
theorem both {ok : List UInt8 → Bool} {u1 u2 u3 v1 v2 v3 : List UInt8} (h1 : u1 ≠ []) (h2 : u2 ≠ []) (h3 : u3 ≠ []) : best ok (candP u1 u2 u3 v1 v2 v3) = best ok (candR u1 u2 u3 v1 v2 v3) :=
 is_unique (best_is ok _ (cand_ne h1 h2 h3)) (best_is ok _ (fun t ht => cand_ne h1 h2 h3 t ((cand_mem _ _ _ _ _ _ _).2 ht))) (cand_mem _ _ _ _ _ _)
theorem best_some {ok : List UInt8 → Bool} {l : List (List UInt8)} (hne : ∀ t ∈ l, t ≠ []) {s : List UInt8} (hs : s ∈ l) (ho : ok s = true) : best ok l ∈ l ∧ ok (best ok l) = true := by
 rcases best_is ok l hne with ⟨_, h⟩ | ⟨h1, h2, _⟩
 ·rw [h s hs] at ho; exact absurd ho (by simp)
 ·exact ⟨h1, h2⟩
theorem best_none {ok : List UInt8 → Bool} {l : List (List UInt8)} (hno : ∀ t ∈ l, ok t = false) : best ok l = [] := by
 have : ∀ (m : List (List UInt8)), (∀ t ∈ m, ok t = false) → m.foldl (step ok) [] = [] := by
  intro m
  induction m with
  | nil => intro _; rfl
  | cons s m ih =>
    intro h
    rw [List.foldl_cons]
    have : step ok [] s = [] := by unfold step; rw [h s (by simp), if_neg (by simp)]
    rw [this]
    exact ih (fun t ht => h t (by simp [ht]))
 exact this l hno
end Sx
namespace Dg
theorem pad4_read {n : Nat} (h0 : 1000 ≤ n) (h : n < 10000) : allD (Tx.pad n 4) = true ∧ val (Tx.pad n 4) = n := by
 rw [Tx.pad4_val h0 h]
 have t : ∀ k, k < 10 → (UInt8.ofNat (48 + k)).toNat = 48 + k := fun k hk => by simp only [UInt8.toNat_ofNat']; omega
 have t1 := t (n / 1000) (by omega)
 have t2 := t (n / 100 % 10) (by omega)
 have t3 := t (n / 10 % 10) (by omega)
 have t4 := t (n % 10) (by omega)
 constructor
 ·simp only [allD, List.all_cons, List.all_nil, Bool.and_true, Bool.and_eq_true, isD, decide_eq_true_eq]
  omega
 ·show 10 * (10 * (10 * (10 * 0 + ((UInt8.ofNat (48 + n / 1000)).toNat - 48)) + ((UInt8.ofNat (48 + n / 100 % 10)).toNat - 48)) + ((UInt8.ofNat (48 + n / 10 % 10)).toNat - 48)) + ((UInt8.ofNat (48 + n % 10)).toNat - 48) = n
  omega
theorem not_dot {l : List UInt8} (h : allD l = true) : ∀ b ∈ l, b ≠ 46 := by
 intro b hb e
 subst e
 have := List.all_eq_true.1 h 46 hb
 exact absurd this (by decide)
end Dg
namespace Sx
def u1 (d : Sp.D3) : List UInt8 := Tx.pad d.1.toNat 4
def u2 (d : Sp.D3) : List UInt8 := u1 d ++ [45] ++ Tx.pad d.2.1.toNat 2
def u3 (d : Sp.D3) : List UInt8 := u2 d ++ [45] ++ Tx.pad d.2.2.toNat 2
theorem len2 {n : Nat} (h : n < 100) : (Tx.pad n 2).length = 2 := by rw [Tx.pad2_val h]; rfl
theorem len4 {n : Nat} (h0 : 1000 ≤ n) (h : n < 10000) : (Tx.pad n 4).length = 4 := by rw [Tx.pad4_val h0 h]; rfl
theorem vld_bd {d : Sp.D3} (h : Sp.vld d = true) : (1900 ≤ d.1 ∧ d.1 ≤ 2099) ∧ (1 ≤ d.2.1 ∧ d.2.1 ≤ 12) ∧ (1 ≤ d.2.2 ∧ d.2.2 ≤ 31) := by
 have h1 := (Cal.vld_iff _ _ _).1 h
 have := Cal.len_bd d.1 d.2.1
 omega
theorem lens {d : Sp.D3} (h : Sp.vld d = true) : (u1 d).length = 4 ∧ (u2 d).length = 7 ∧ (u3 d).length = 10 := by
 obtain ⟨hy, hm, hd⟩ := vld_bd h
 have e1 : (u1 d).length = 4 := len4 (by omega) (by omega)
 have e2 : (Tx.pad d.2.1.toNat 2).length = 2 := len2 (by omega)
 have e3 : (Tx.pad d.2.2.toNat 2).length = 2 := len2 (by omega)
 have e4 : (u2 d).length = 7 := by unfold u2; rw [List.length_append, List.length_append, e1, e2]; rfl
 refine ⟨e1, e4, ?_⟩
 unfold u3; rw [List.length_append, List.length_append, e4, e3]; rfl
theorem win_left (a b : List UInt8) (i j : Nat) (h : j ≤ a.length) : Ft.win (a ++ b) i j = Ft.win a i j := by
 unfold Ft.win
 by_cases c : i ≤ a.length
 ·rw [List.drop_append_of_le_length c, List.take_append_of_le_length (by rw [List.length_drop]; omega)]
 ·rw [show j - i = 0 by omega, List.take_zero, List.take_zero]
theorem win_right (a b : List UInt8) (i j : Nat) (hi : i = a.length) (h : j = a.length + b.length) : Ft.win (a ++ b) i j = b := by
 subst hi
 unfold Ft.win
 rw [List.drop_left, List.take_of_length_le (by omega)]
theorem wins {d : Sp.D3} (h : Sp.vld d = true) : Ft.win (u3 d) 0 4 = Tx.pad d.1.toNat 4 ∧ Ft.win (u3 d) 5 7 = Tx.pad d.2.1.toNat 2 ∧ Ft.win (u3 d) 8 10 = Tx.pad d.2.2.toNat 2 ∧ (u3 d)[4]? = some 45 ∧ (u3 d)[7]? = some 45 ∧ Ft.win (u3 d) 0 7 = u2 d := by
 obtain ⟨l1, l2, l3⟩ := lens h
 obtain ⟨hy, hm, hd⟩ := vld_bd h
 have e2 : (Tx.pad d.2.1.toNat 2).length = 2 := len2 (by omega)
 have e3 : (Tx.pad d.2.2.toNat 2).length = 2 := len2 (by omega)
 have w0 : Ft.win (u3 d) 0 7 = u2 d := by
  unfold u3; rw [List.append_assoc, win_left _ _ _ _ (by omega), Ft.win_all _ _ l2]
 have w1 : Ft.win (u2 d) 0 4 = u1 d := by unfold u2; rw [List.append_assoc, win_left _ _ _ _ (by omega), Ft.win_all _ _ l1]
 have g4 : (u2 d)[4]? = some 45 := by
  unfold u2; rw [List.append_assoc, List.getElem?_append_right (by omega), l1]; rfl
 refine ⟨?_, ?_, ?_, ?_, ?_, w0⟩
 ·unfold u3; rw [List.append_assoc, win_left _ _ _ _ (by omega), w1]; rfl
 ·unfold u3; rw [List.append_assoc, win_left _ _ _ _ (by omega)]
  unfold u2; rw [win_right _ _ _ _ (by rw [List.length_append, l1]; rfl) (by rw [List.length_append, l1, e2]; rfl)]
 ·unfold u3; rw [win_right _ _ _ _ (by rw [List.length_append, l2]; rfl) (by rw [List.length_append, l2, e3]; rfl)]
 ·unfold u3; rw [List.append_assoc, List.getElem?_append_left (by omega), g4]
 ·unfold u3; rw [List.append_assoc, List.getElem?_append_right (by omega), l2]; rfl
theorem fx_of {s : List UInt8} {a b n : Nat} {l : List UInt8} (hw : Ft.win s a b = l) (h : Dg.allD l = true ∧ Dg.val l = n) : Sc.fx s a b = (n : Int) := by
 unfold Sc.fx; rw [hw, if_pos h.1, h.2]
theorem kind_day {d : Sp.D3} (h : Sp.vld d = true) : Sp.kind (u3 d) = some (d, d) := by
 obtain ⟨l1, l2, l3⟩ := lens h
 obtain ⟨w1, w2, w3, g4, g7, _⟩ := wins h
 obtain ⟨hy, hm, hd⟩ := vld_bd h
 have f1 : Sc.fx (u3 d) 0 4 = d.1 := by rw [fx_of w1 (Dg.pad4_read (by omega) (by omega))]; omega
 have f2 : Sc.fx (u3 d) 5 7 = d.2.1 := by rw [fx_of w2 (Dg.pad2_read (by omega))]; omega
 have f3 : Sc.fx (u3 d) 8 10 = d.2.2 := by rw [fx_of w3 (Dg.pad2_read (by omega))]; omega
 unfold Sp.kind
 rw [if_neg (by omega), if_neg (by omega), if_pos l3, f1, f2, f3, if_pos ⟨by omega, g4, by omega, g7, by omega⟩]
theorem no_dot {d : Sp.D3} (h : Sp.vld d = true) : ∀ b ∈ u3 d, b ≠ 46 := by
 obtain ⟨hy, hm, hd⟩ := vld_bd h
 have a1 := (Dg.pad4_read (n := d.1.toNat) (by omega) (by omega)).1
 have a2 := (Dg.pad2_read (n := d.2.1.toNat) (by omega)).1
 have a3 := (Dg.pad2_read (n := d.2.2.toNat) (by omega)).1
 intro b hb
 unfold u3 u2 u1 at hb
 simp only [List.mem_append, List.mem_singleton] at hb
 rcases hb with ((((hb | hb) | hb) | hb) | hb)
 ·exact Dg.not_dot a1 b hb
 ·rw [hb]; decide
 ·exact Dg.not_dot a2 b hb
 ·rw [hb]; decide
 ·exact Dg.not_dot a3 b hb
theorem index_dots (p q : List UInt8) (h : ∀ b ∈ p, b ≠ 46) : Lib.index (p ++ (46 :: 46 :: q)) [46, 46] = (p.length : Int) := by
 induction p with
 | nil => simp [Lib.index]
 | cons b p ih =>
   have hb : b ≠ 46 := h b (by simp)
   have := ih (fun x hx => h x (by simp [hx]))
   rw [List.cons_append, Lib.index, this, if_neg (by simp [List.isPrefixOf, Ne.symm hb]), if_neg (by simp)]
   simp
theorem cut_dots (p q : List UInt8) (h : ∀ b ∈ p, b ≠ 46) : Lib.cut (p ++ dots ++ q) [46, 46] = (p, q, true) := by
 have e : p ++ dots ++ q = p ++ (46 :: 46 :: q) := by unfold dots; rw [List.append_assoc]; rfl
 unfold Lib.cut
 rw [e, index_dots p q h, if_pos (by omega)]
 simp
theorem span_days {a b : Sp.D3} (ha : Sp.vld a = true) (hb : Sp.vld b = true) (hle : Sp.num a ≤ Sp.num b) : Sp.span (u3 a ++ dots ++ u3 b) = (Sp.num a * 86400, Sp.num b * 86400 + 86399, 0) := by
 unfold Sp.span
 rw [cut_dots _ _ (no_dot ha)]
 show Sp.sp _ _ _ _ _ _ true = _
 rw [kind_day ha, kind_day hb]
 unfold Sp.sp Sp.outF Sp.outT Sp.outE
 simp only [ha, hb, and_self, if_true]
 rw [if_neg (by omega), if_neg (by simp), if_neg (by omega)]
theorem span_whole {s : List UInt8} {F T : Int} (h : Sp.span s = (F, T, 0)) : F % 86400 = 0 ∧ (T + 1) % 86400 = 0 := by
 have key : ∀ k, Sp.outE k = 0 → (Sp.outF k) % 86400 = 0 ∧ (Sp.outT k + 1) % 86400 = 0 := by
  intro k hk
  rcases k with _ | ⟨a, b⟩
  ·exact absurd hk (by show ¬ (8 : Int) = 0; decide)
  ·unfold Sp.outE at hk
   unfold Sp.outF Sp.outT
   by_cases hv : Sp.vld a = true ∧ Sp.vld b = true
   ·simp only [if_pos hv]; omega
   ·simp only [if_neg hv] at hk; exact absurd hk (by decide)
 unfold Sp.span Sp.sp at h
 simp only [] at h
 split at h
 ·split at h
  ·simp only [Prod.mk.injEq] at h; omega
  ·split at h
   ·simp only [Prod.mk.injEq] at h; omega
   ·rename_i hn
    split at h
    ·simp only [Prod.mk.injEq] at h; omega
    ·simp only [Prod.mk.injEq] at h
     have h1 := key (Sp.kind (Lib.cut s [46, 46]).1) (by omega)
     have h2 := key (Sp.kind (Lib.cut s [46, 46]).2.1) (by omega)
     omega
 ·simp only [Prod.mk.injEq] at h
  have h1 := key (Sp.kind (Lib.cut s [46, 46]).1) (by omega)
  omega
def ok (F T : Int) (s : List UInt8) : Bool := decide (Sp.span s = (F, T, 0))
theorem ok_iff (F T : Int) (s : List UInt8) : ok F T s = true ↔ Sp.span s = (F, T, 0) := decide_eq_true_iff
def text (F T : Int) (a b : Sp.D3) : List UInt8 := best (ok F T) (candP (u1 a) (u2 a) (u3 a) (u1 b) (u2 b) (u3 b))
theorem u_ne {d : Sp.D3} (h : Sp.vld d = true) : u1 d ≠ [] ∧ u2 d ≠ [] ∧ u3 d ≠ [] := by
 obtain ⟨l1, l2, l3⟩ := lens h
 exact ⟨fun e => by rw [e] at l1; simp at l1, fun e => by rw [e] at l2; simp at l2, fun e => by rw [e] at l3; simp at l3⟩
theorem text_ref {F T : Int} {a b : Sp.D3} (ha : Sp.vld a = true) : best (ok F T) (candR (u1 a) (u2 a) (u3 a) (u1 b) (u2 b) (u3 b)) = text F T a b := by
 obtain ⟨h1, h2, h3⟩ := u_ne ha
 exact (both h1 h2 h3).symm
theorem text_ok {F T : Int} {a b : Sp.D3} (ha : Sp.vld a = true) (hb : Sp.vld b = true) (hF : Sp.num a * 86400 = F) (hT : Sp.num b * 86400 + 86399 = T) (hle : F ≤ T) : Sp.span (text F T a b) = (F, T, 0) ∧ text F T a b ≠ [] := by
 obtain ⟨h1, h2, h3⟩ := u_ne ha
 have hs : u3 a ++ dots ++ u3 b ∈ candP (u1 a) (u2 a) (u3 a) (u1 b) (u2 b) (u3 b) := by simp [candP]
 have ho : ok F T (u3 a ++ dots ++ u3 b) = true := by
  rw [ok_iff, span_days ha hb (by omega), hF, hT]
 obtain ⟨m1, m2⟩ := best_some (cand_ne h1 h2 h3) hs ho
 exact ⟨(ok_iff _ _ _).1 m2, cand_ne h1 h2 h3 _ m1⟩
theorem text_no {F T : Int} {a b : Sp.D3} (h : ¬ (F % 86400 = 0 ∧ (T + 1) % 86400 = 0)) : text F T a b = [] := by
 unfold text
 apply best_none
 intro t _
 rw [← Bool.not_eq_true, ok_iff]
 exact fun e => h (span_whole e)
end Sx
end Go.Proofs.YtimjmjmpaicdbaaGreatDoor
