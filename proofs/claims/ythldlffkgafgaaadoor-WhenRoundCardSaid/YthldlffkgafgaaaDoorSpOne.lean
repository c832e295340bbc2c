/- The reference's one: the stretch of a year, a month or a day. -/
import Derived.Test.YthldlffkgafgaaaDoorSpUnit
import Derived.IntWalk
namespace Go.Proofs.YthldlffkgafgaaaDoor
open Go.RowKit Go.Sort Go.Shelf
set_option linter.unusedVariables false
theorem fixedSame_is (s : List UInt8) (a b n : Nat) (hn : b - a = n) (h : n ≤ 18) (hs : b ≤ s.length) (w : World) :
    Calls Tryd.prog 61 #[.string (Tx.mk (Ft.win s a b)), .int .i64 n] w fun e w' => e = .returned (.int .i64 (Sc.fx s a b)) ∧ w = w' := by
  have hl := Ft.win_len s a b hs
  refine (fixed_is (Ft.win s a b) n h (by omega) w).mono ?_
  rintro e w' ⟨rfl, rfl⟩
  refine ⟨?_, rfl⟩
  unfold Sc.fx
  by_cases c : Dg.allD (Ft.win s a b) = true
  · rw [if_pos ⟨by omega, c⟩, if_pos c]
  · rw [if_neg (fun h => c h.2), if_neg c]
theorem dayFor_at (d : Sp.D3) (W : World) : Calls Tryd.prog 72 #[.agg #[.int .i64 d.1, .int .i64 d.2.1, .int .i64 d.2.2]] W fun e w' => e = .returned (.int .i64 (if Sp.vld d = true then Sp.num d else -1)) ∧ Below W.heap.size W w' := by
  obtain ⟨y, m, d⟩ := d
  cases h : Sp.vld (y, m, d)
  · rw [if_neg (by simp)]; exact dayFor_no y m d W h
  · rw [if_pos rfl]; exact dayFor_yes y m d W h
set_option maxRecDepth 100000 in
set_option maxHeartbeats 4000000 in
theorem one_no4 (s : List UInt8) (hl : s.length = 4) (hk : ¬ 0 ≤ Sc.fx s 0 4) (w : World) : Calls Tryd.prog 64 #[.string (Tx.mk s)] w (SpPost w (Sp.kind s)) := by
  obtain ⟨W1, hW1, hP1, hz1, hB1⟩ := box w #[.int .i64 0, .int .i64 0] 45
  obtain ⟨W2, hW2, hP2, hz2, hB2⟩ := box W1 #[.int .i64 0, .int .i64 0, .int .i64 0] 56
  obtain ⟨W3, hW3, hP3, hz3, hB3⟩ := box W2 #[.int .i64 0, .int .i64 0, .int .i64 0] 56
  have HW1 := Lib.hid hW1
  have HW2 := Lib.hid hW2
  have HW3 := Lib.hid hW3
  have hR1 := (hP1.keep hB2).keep hB3
  have hR2 := hP2.keep hB3
  have hBr := below_up (below_up hB1 hB2) hB3
  rw [hz1] at hR2
  rw [hz2, hz1] at hP3
  have hR3 := hP3
  have hsz := Tx.mk_size s
  have hz3' : W3.heap.size = w.heap.size + 3 := by rw [hz3, hz2, hz1]
  clear hW1 hW2 hW3 hP1 hP2 hP3 hB1 hB2 hB3 hz1 hz2 hz3
  obtain ⟨c0, c1⟩ := hR1.two
  have cf := hR1.free
  obtain ⟨d0, d1, d2⟩ := hR2.three
  have df := hR2.free
  obtain ⟨e0, e1, e2⟩ := hR3.three
  have ef := hR3.free
  have F0 : Hid (∀ W, Calls Tryd.prog 61 #[.string (Tx.mk s), .int .i64 4] W fun e w' => e = .returned (.int .i64 (Sc.fx s 0 4)) ∧ W = w') := fun W => by
    have := fixedSame_is s 0 4 4 rfl (by omega) (by omega) W
    rwa [Ft.win_all s 4 hl] at this
  have F1 := F0
  have F2 := F0
  have HK : Hid (Sp.kind s = none) := by show _ = _; unfold Sp.kind; rw [if_pos hl, if_neg hk]
  rw [HK.out]
  rw [hl] at hsz
  clear hl
  generalize Sc.fx s 0 4 = Y at *
  go_enter Tryd.func64, Tryd.ntmps64
  go_wp2_with fail
  rw [HW1.out, HW2.out, HW3.out]
  go_wp2_with (go_at_call 61; (with_reducible first | (refine (F0.out _).mono ?_) | (refine (F1.out _).mono ?_) | (refine (F2.out _).mono ?_)); rintro e w9 ⟨rfl, rfl⟩)
  refine bodyPost_ret (v := .tuple #[.agg #[.int .i64 0, .int .i64 0], .int .i64 8]) ?_ rfl ?_
  · simp [results, Tryd.results64, go_sem, c0, c1]
  · first | exact SpPost.err ⟨rfl, rfl, rfl⟩ hBr | exact SpPost.err ⟨rfl, rfl, rfl⟩ ((hBr.setCell (Nat.le_refl _) _).setCell (Nat.le_refl _) _)
set_option maxRecDepth 100000 in
set_option maxHeartbeats 4000000 in
theorem one_no7 (s : List UInt8) (hl : s.length = 7) (hk : ¬ (0 ≤ Sc.fx s 0 4 ∧ s[4]? = some 45 ∧ 0 ≤ Sc.fx s 5 7)) (w : World) : Calls Tryd.prog 64 #[.string (Tx.mk s)] w (SpPost w (Sp.kind s)) := by
  obtain ⟨W1, hW1, hP1, hz1, hB1⟩ := box w #[.int .i64 0, .int .i64 0] 45
  obtain ⟨W2, hW2, hP2, hz2, hB2⟩ := box W1 #[.int .i64 0, .int .i64 0, .int .i64 0] 56
  obtain ⟨W3, hW3, hP3, hz3, hB3⟩ := box W2 #[.int .i64 0, .int .i64 0, .int .i64 0] 56
  have HW1 := Lib.hid hW1
  have HW2 := Lib.hid hW2
  have HW3 := Lib.hid hW3
  have hR1 := (hP1.keep hB2).keep hB3
  have hR2 := hP2.keep hB3
  have hBr := below_up (below_up hB1 hB2) hB3
  rw [hz1] at hR2
  rw [hz2, hz1] at hP3
  have hR3 := hP3
  have hsz := Tx.mk_size s
  have hz3' : W3.heap.size = w.heap.size + 3 := by rw [hz3, hz2, hz1]
  clear hW1 hW2 hW3 hP1 hP2 hP3 hB1 hB2 hB3 hz1 hz2 hz3
  obtain ⟨c0, c1⟩ := hR1.two
  have cf := hR1.free
  obtain ⟨d0, d1, d2⟩ := hR2.three
  have df := hR2.free
  obtain ⟨e0, e1, e2⟩ := hR3.three
  have ef := hR3.free
  have F0 : Hid (∀ W, Calls Tryd.prog 61 #[.string (Tx.mk (Ft.win s 0 4)), .int .i64 4] W fun e w' => e = .returned (.int .i64 (Sc.fx s 0 4)) ∧ W = w') := fun W => fixedSame_is s 0 4 4 rfl (by omega) (by omega) W
  have F1 : Hid (∀ W, Calls Tryd.prog 61 #[.string (Tx.mk (Ft.win s 5 7)), .int .i64 2] W fun e w' => e = .returned (.int .i64 (Sc.fx s 5 7)) ∧ W = w') := fun W => fixedSame_is s 5 7 2 rfl (by omega) (by omega) W
  have F2 := F0
  have x0 := ext_mk s 0 4
  have x1 := ext_mk s 5 7
  have HK : Hid (Sp.kind s = none) := by show _ = _; unfold Sp.kind; rw [if_neg (by omega), if_pos hl, if_neg hk]
  rw [HK.out]
  rw [hl] at hsz
  obtain ⟨b4, g4⟩ : ∃ c, s[4]? = some c := ⟨_, List.getElem?_eq_getElem (by omega)⟩
  have a4 := strAt s 4 b4 g4
  by_cases q4 : b4 = 45
  · subst q4
    rw [g4] at hk
    clear hl
    generalize Sc.fx s 0 4 = Y at *
    generalize Sc.fx s 5 7 = M at *
    by_cases q0 : 0 ≤ Y
    · have q1 : ¬ 0 ≤ M := fun h => hk ⟨q0, rfl, h⟩
      clear hk
      go_enter Tryd.func64, Tryd.ntmps64
      go_wp2_with fail
      rw [HW1.out, HW2.out, HW3.out]
      go_wp2_with (go_at_call 61; (with_reducible first | (refine (F0.out _).mono ?_) | (refine (F1.out _).mono ?_) | (refine (F2.out _).mono ?_)); rintro e w9 ⟨rfl, rfl⟩)
      refine bodyPost_ret (v := .tuple #[.agg #[.int .i64 0, .int .i64 0], .int .i64 8]) ?_ rfl ?_
      · simp [results, Tryd.results64, go_sem, c0, c1]
      · first | exact SpPost.err ⟨rfl, rfl, rfl⟩ hBr | exact SpPost.err ⟨rfl, rfl, rfl⟩ ((hBr.setCell (Nat.le_refl _) _).setCell (Nat.le_refl _) _)
    · clear hk
      go_enter Tryd.func64, Tryd.ntmps64
      go_wp2_with fail
      rw [HW1.out, HW2.out, HW3.out]
      go_wp2_with (go_at_call 61; (with_reducible first | (refine (F0.out _).mono ?_) | (refine (F1.out _).mono ?_) | (refine (F2.out _).mono ?_)); rintro e w9 ⟨rfl, rfl⟩)
      refine bodyPost_ret (v := .tuple #[.agg #[.int .i64 0, .int .i64 0], .int .i64 8]) ?_ rfl ?_
      · simp [results, Tryd.results64, go_sem, c0, c1]
      · first | exact SpPost.err ⟨rfl, rfl, rfl⟩ hBr | exact SpPost.err ⟨rfl, rfl, rfl⟩ ((hBr.setCell (Nat.le_refl _) _).setCell (Nat.le_refl _) _)
  · have n4 : ¬ (b4.toNat : Int) = 45 := ne_of q4
    clear hk hl
    go_enter Tryd.func64, Tryd.ntmps64
    go_wp2_with fail
    rw [HW1.out, HW2.out, HW3.out]
    go_wp2_with (go_at_call 61; (with_reducible first | (refine (F0.out _).mono ?_) | (refine (F1.out _).mono ?_) | (refine (F2.out _).mono ?_)); rintro e w9 ⟨rfl, rfl⟩)
    refine bodyPost_ret (v := .tuple #[.agg #[.int .i64 0, .int .i64 0], .int .i64 8]) ?_ rfl ?_
    · simp [results, Tryd.results64, go_sem, c0, c1]
    · first | exact SpPost.err ⟨rfl, rfl, rfl⟩ hBr | exact SpPost.err ⟨rfl, rfl, rfl⟩ ((hBr.setCell (Nat.le_refl _) _).setCell (Nat.le_refl _) _)
set_option maxRecDepth 100000 in
set_option maxHeartbeats 4000000 in
theorem one_no10 (s : List UInt8) (hl : s.length = 10) (hk : ¬ (0 ≤ Sc.fx s 0 4 ∧ s[4]? = some 45 ∧ 0 ≤ Sc.fx s 5 7 ∧ s[7]? = some 45 ∧ 0 ≤ Sc.fx s 8 10)) (w : World) : Calls Tryd.prog 64 #[.string (Tx.mk s)] w (SpPost w (Sp.kind s)) := by
  obtain ⟨W1, hW1, hP1, hz1, hB1⟩ := box w #[.int .i64 0, .int .i64 0] 45
  obtain ⟨W2, hW2, hP2, hz2, hB2⟩ := box W1 #[.int .i64 0, .int .i64 0, .int .i64 0] 56
  obtain ⟨W3, hW3, hP3, hz3, hB3⟩ := box W2 #[.int .i64 0, .int .i64 0, .int .i64 0] 56
  have HW1 := Lib.hid hW1
  have HW2 := Lib.hid hW2
  have HW3 := Lib.hid hW3
  have hR1 := (hP1.keep hB2).keep hB3
  have hR2 := hP2.keep hB3
  have hBr := below_up (below_up hB1 hB2) hB3
  rw [hz1] at hR2
  rw [hz2, hz1] at hP3
  have hR3 := hP3
  have hsz := Tx.mk_size s
  have hz3' : W3.heap.size = w.heap.size + 3 := by rw [hz3, hz2, hz1]
  clear hW1 hW2 hW3 hP1 hP2 hP3 hB1 hB2 hB3 hz1 hz2 hz3
  obtain ⟨c0, c1⟩ := hR1.two
  have cf := hR1.free
  obtain ⟨d0, d1, d2⟩ := hR2.three
  have df := hR2.free
  obtain ⟨e0, e1, e2⟩ := hR3.three
  have ef := hR3.free
  have F0 : Hid (∀ W, Calls Tryd.prog 61 #[.string (Tx.mk (Ft.win s 0 4)), .int .i64 4] W fun e w' => e = .returned (.int .i64 (Sc.fx s 0 4)) ∧ W = w') := fun W => fixedSame_is s 0 4 4 rfl (by omega) (by omega) W
  have F1 : Hid (∀ W, Calls Tryd.prog 61 #[.string (Tx.mk (Ft.win s 5 7)), .int .i64 2] W fun e w' => e = .returned (.int .i64 (Sc.fx s 5 7)) ∧ W = w') := fun W => fixedSame_is s 5 7 2 rfl (by omega) (by omega) W
  have F2 : Hid (∀ W, Calls Tryd.prog 61 #[.string (Tx.mk (Ft.win s 8 10)), .int .i64 2] W fun e w' => e = .returned (.int .i64 (Sc.fx s 8 10)) ∧ W = w') := fun W => fixedSame_is s 8 10 2 rfl (by omega) (by omega) W
  have x0 := ext_mk s 0 4
  have x1 := ext_mk s 5 7
  have x2 := ext_mk s 8 10
  have HK : Hid (Sp.kind s = none) := by show _ = _; unfold Sp.kind; rw [if_neg (by omega), if_neg (by omega), if_pos hl, if_neg hk]
  rw [HK.out]
  rw [hl] at hsz
  obtain ⟨b4, g4⟩ : ∃ c, s[4]? = some c := ⟨_, List.getElem?_eq_getElem (by omega)⟩
  obtain ⟨b7, g7⟩ : ∃ c, s[7]? = some c := ⟨_, List.getElem?_eq_getElem (by omega)⟩
  have a4 := strAt s 4 b4 g4
  have a7 := strAt s 7 b7 g7
  by_cases q4 : b4 = 45
  · subst q4
    by_cases q7 : b7 = 45
    · subst q7
      rw [g4, g7] at hk
      clear hl
      generalize Sc.fx s 0 4 = Y at *
      generalize Sc.fx s 5 7 = M at *
      generalize Sc.fx s 8 10 = D at *
      by_cases q0 : 0 ≤ Y
      · by_cases q1 : 0 ≤ M
        · have q2 : ¬ 0 ≤ D := fun h => hk ⟨q0, rfl, q1, rfl, h⟩
          clear hk
          go_enter Tryd.func64, Tryd.ntmps64
          go_wp2_with fail
          rw [HW1.out, HW2.out, HW3.out]
          go_wp2_with (go_at_call 61; (with_reducible first | (refine (F0.out _).mono ?_) | (refine (F1.out _).mono ?_) | (refine (F2.out _).mono ?_)); rintro e w9 ⟨rfl, rfl⟩)
          refine bodyPost_ret (v := .tuple #[.agg #[.int .i64 0, .int .i64 0], .int .i64 8]) ?_ rfl ?_
          · simp [results, Tryd.results64, go_sem, c0, c1]
          · first | exact SpPost.err ⟨rfl, rfl, rfl⟩ hBr | exact SpPost.err ⟨rfl, rfl, rfl⟩ ((hBr.setCell (Nat.le_refl _) _).setCell (Nat.le_refl _) _)
        · clear hk
          go_enter Tryd.func64, Tryd.ntmps64
          go_wp2_with fail
          rw [HW1.out, HW2.out, HW3.out]
          go_wp2_with (go_at_call 61; (with_reducible first | (refine (F0.out _).mono ?_) | (refine (F1.out _).mono ?_) | (refine (F2.out _).mono ?_)); rintro e w9 ⟨rfl, rfl⟩)
          refine bodyPost_ret (v := .tuple #[.agg #[.int .i64 0, .int .i64 0], .int .i64 8]) ?_ rfl ?_
          · simp [results, Tryd.results64, go_sem, c0, c1]
          · first | exact SpPost.err ⟨rfl, rfl, rfl⟩ hBr | exact SpPost.err ⟨rfl, rfl, rfl⟩ ((hBr.setCell (Nat.le_refl _) _).setCell (Nat.le_refl _) _)
      · clear hk
        go_enter Tryd.func64, Tryd.ntmps64
        go_wp2_with fail
        rw [HW1.out, HW2.out, HW3.out]
        go_wp2_with (go_at_call 61; (with_reducible first | (refine (F0.out _).mono ?_) | (refine (F1.out _).mono ?_) | (refine (F2.out _).mono ?_)); rintro e w9 ⟨rfl, rfl⟩)
        refine bodyPost_ret (v := .tuple #[.agg #[.int .i64 0, .int .i64 0], .int .i64 8]) ?_ rfl ?_
        · simp [results, Tryd.results64, go_sem, c0, c1]
        · first | exact SpPost.err ⟨rfl, rfl, rfl⟩ hBr | exact SpPost.err ⟨rfl, rfl, rfl⟩ ((hBr.setCell (Nat.le_refl _) _).setCell (Nat.le_refl _) _)
    · have n7 : ¬ (b7.toNat : Int) = 45 := ne_of q7
      clear hk hl
      go_enter Tryd.func64, Tryd.ntmps64
      go_wp2_with fail
      rw [HW1.out, HW2.out, HW3.out]
      go_wp2_with (go_at_call 61; (with_reducible first | (refine (F0.out _).mono ?_) | (refine (F1.out _).mono ?_) | (refine (F2.out _).mono ?_)); rintro e w9 ⟨rfl, rfl⟩)
      refine bodyPost_ret (v := .tuple #[.agg #[.int .i64 0, .int .i64 0], .int .i64 8]) ?_ rfl ?_
      · simp [results, Tryd.results64, go_sem, c0, c1]
      · first | exact SpPost.err ⟨rfl, rfl, rfl⟩ hBr | exact SpPost.err ⟨rfl, rfl, rfl⟩ ((hBr.setCell (Nat.le_refl _) _).setCell (Nat.le_refl _) _)
  · have n4 : ¬ (b4.toNat : Int) = 45 := ne_of q4
    clear hk hl
    go_enter Tryd.func64, Tryd.ntmps64
    go_wp2_with fail
    rw [HW1.out, HW2.out, HW3.out]
    go_wp2_with (go_at_call 61; (with_reducible first | (refine (F0.out _).mono ?_) | (refine (F1.out _).mono ?_) | (refine (F2.out _).mono ?_)); rintro e w9 ⟨rfl, rfl⟩)
    refine bodyPost_ret (v := .tuple #[.agg #[.int .i64 0, .int .i64 0], .int .i64 8]) ?_ rfl ?_
    · simp [results, Tryd.results64, go_sem, c0, c1]
    · first | exact SpPost.err ⟨rfl, rfl, rfl⟩ hBr | exact SpPost.err ⟨rfl, rfl, rfl⟩ ((hBr.setCell (Nat.le_refl _) _).setCell (Nat.le_refl _) _)
set_option maxRecDepth 100000 in
set_option maxHeartbeats 4000000 in
theorem one_no (s : List UInt8) (h4 : ¬ s.length = 4) (h7 : ¬ s.length = 7) (h10 : ¬ s.length = 10) (w : World) : Calls Tryd.prog 64 #[.string (Tx.mk s)] w (SpPost w (Sp.kind s)) := by
  obtain ⟨W1, hW1, hP1, hz1, hB1⟩ := box w #[.int .i64 0, .int .i64 0] 45
  obtain ⟨W2, hW2, hP2, hz2, hB2⟩ := box W1 #[.int .i64 0, .int .i64 0, .int .i64 0] 56
  obtain ⟨W3, hW3, hP3, hz3, hB3⟩ := box W2 #[.int .i64 0, .int .i64 0, .int .i64 0] 56
  have HW1 := Lib.hid hW1
  have HW2 := Lib.hid hW2
  have HW3 := Lib.hid hW3
  have hR1 := (hP1.keep hB2).keep hB3
  have hR2 := hP2.keep hB3
  have hBr := below_up (below_up hB1 hB2) hB3
  rw [hz1] at hR2
  rw [hz2, hz1] at hP3
  have hR3 := hP3
  have hsz := Tx.mk_size s
  have hz3' : W3.heap.size = w.heap.size + 3 := by rw [hz3, hz2, hz1]
  clear hW1 hW2 hW3 hP1 hP2 hP3 hB1 hB2 hB3 hz1 hz2 hz3
  obtain ⟨c0, c1⟩ := hR1.two
  have cf := hR1.free
  obtain ⟨d0, d1, d2⟩ := hR2.three
  have df := hR2.free
  obtain ⟨e0, e1, e2⟩ := hR3.three
  have ef := hR3.free
  have HK : Hid (Sp.kind s = none) := by show _ = _; unfold Sp.kind; rw [if_neg h4, if_neg h7, if_neg h10]
  rw [HK.out]
  have h4' : ¬ (s.length : Int) = 4 := by omega
  have h7' : ¬ (s.length : Int) = 7 := by omega
  have h10' : ¬ (s.length : Int) = 10 := by omega
  have h4b : ((s.length : Int) == 4) = false := by simp; omega
  have h7b : ((s.length : Int) == 7) = false := by simp; omega
  have h10b : ((s.length : Int) == 10) = false := by simp; omega
  clear h4 h7 h10
  go_enter Tryd.func64, Tryd.ntmps64
  go_wp2_with fail
  rw [HW1.out, HW2.out, HW3.out]
  go_wp2_with fail
  refine bodyPost_ret (v := .tuple #[.agg #[.int .i64 0, .int .i64 0], .int .i64 8]) ?_ rfl ?_
  · simp [results, Tryd.results64, go_sem, c0, c1]
  · first | exact SpPost.err ⟨rfl, rfl, rfl⟩ hBr | exact SpPost.err ⟨rfl, rfl, rfl⟩ ((hBr.setCell (Nat.le_refl _) _).setCell (Nat.le_refl _) _)
end Go.Proofs.YthldlffkgafgaaaDoor
namespace Go.Proofs.YthldlffkgafgaaaDoor
open Go.RowKit Go.Sort Go.Shelf
set_option linter.unusedVariables false
theorem cell_set2 {W : World} {b : Nat} {p : Addr} {v1 v2 x : Value} (ha : p.block ≠ b) (h : W.cell? p = some x) : ((W.setCell ⟨b, 0, none⟩ v1).setCell ⟨b, 1, none⟩ v2).cell? p = some x :=
  cell_set_other ha (cell_set_other ha h)
set_option maxRecDepth 100000 in
set_option maxHeartbeats 4000000 in
theorem one_yes4 (s : List UInt8) (hl : s.length = 4) (hk : 0 ≤ Sc.fx s 0 4) (w : World) : Calls Tryd.prog 64 #[.string (Tx.mk s)] w (SpPost w (Sp.kind s)) := by
  obtain ⟨W1, hW1, hP1, hz1, hB1⟩ := box w #[.int .i64 0, .int .i64 0] 45
  obtain ⟨W2, hW2, hP2, hz2, hB2⟩ := box W1 #[.int .i64 0, .int .i64 0, .int .i64 0] 56
  obtain ⟨W3, hW3, hP3, hz3, hB3⟩ := box W2 #[.int .i64 0, .int .i64 0, .int .i64 0] 56
  have HW1 := Lib.hid hW1
  have HW2 := Lib.hid hW2
  have HW3 := Lib.hid hW3
  have hR1 := (hP1.keep hB2).keep hB3
  have hR2 := hP2.keep hB3
  have hBr := below_up (below_up hB1 hB2) hB3
  rw [hz1] at hR2
  rw [hz2, hz1] at hP3
  have hR3 := hP3
  have hsz := Tx.mk_size s
  have hz3' : W3.heap.size = w.heap.size + 3 := by rw [hz3, hz2, hz1]
  clear hW1 hW2 hW3 hP1 hP2 hP3 hB1 hB2 hB3 hz1 hz2 hz3
  obtain ⟨c0, c1⟩ := hR1.two
  have cf := hR1.free
  obtain ⟨d0, d1, d2⟩ := hR2.three
  have df := hR2.free
  obtain ⟨e0, e1, e2⟩ := hR3.three
  have ef := hR3.free
  have F0 : Hid (∀ W, Calls Tryd.prog 61 #[.string (Tx.mk s), .int .i64 4] W fun e w' => e = .returned (.int .i64 (Sc.fx s 0 4)) ∧ W = w') := fun W => by
    have := fixedSame_is s 0 4 4 rfl (by omega) (by omega) W
    rwa [Ft.win_all s 4 hl] at this
  have F1 := F0
  have F2 := F0
  have HK : Hid (Sp.kind s = some ((Sc.fx s 0 4, 1, 1), (Sc.fx s 0 4, 12, 31))) := by show _ = _; unfold Sp.kind; rw [if_pos hl, if_pos hk]
  rw [HK.out]
  rw [hl] at hsz
  have hy := Sc.fx_bd s 0 4 (by omega)
  clear HK
  generalize Sc.fx s 0 4 = Y at *
  clear hl
  have HDA := Lib.hid (fun V => dayFor_at (Y, 1, 1) V)
  have HDB := Lib.hid (fun V => dayFor_at (Y, 12, 31) V)
  have hv : Sp.vld (Y, 12, 31) = Sp.vld (Y, 1, 1) := Sp.year_vld Y
  rw [hv] at HDB
  cases hv1 : Sp.vld (Y, 1, 1)
  · rw [hv1, if_neg (by simp)] at HDA HDB
    have HO : Hid (Sp.outF (some ((Y, 1, 1), (Y, 12, 31))) = 0 ∧ Sp.outT (some ((Y, 1, 1), (Y, 12, 31))) = 0 ∧ Sp.outE (some ((Y, 1, 1), (Y, 12, 31))) = 1) := by
      show _ ∧ _; simp [Sp.outF, Sp.outT, Sp.outE, hv1]
    clear hv1 hv
    go_enter Tryd.func64, Tryd.ntmps64
    go_wp2_with fail
    rw [HW1.out, HW2.out, HW3.out]
    go_wp2_with (go_at_call 61; (with_reducible first | (refine (F0.out _).mono ?_) | (refine (F1.out _).mono ?_) | (refine (F2.out _).mono ?_)); rintro e w9 ⟨rfl, rfl⟩)
    -- W3: the world's name
    have hS1 : Blk (((((((W3.setCell ⟨w.heap.size + 1, 0, none⟩ (.int .i64 Y)).setCell ⟨w.heap.size + 1, 1, none⟩ (.int .i64 1)).setCell ⟨w.heap.size + 1, 2, none⟩ (.int .i64 1)).setCell ⟨w.heap.size + 1 + 1, 0, none⟩ (.int .i64 Y)).setCell ⟨w.heap.size + 1 + 1, 1, none⟩ (.int .i64 12)).setCell ⟨w.heap.size + 1 + 1, 2, none⟩ (.int .i64 31))) w.heap.size #[.int .i64 0, .int .i64 0] 45 := ((hR1.other3 (by omega)).other3 (by omega))
    have hS2 : Blk (((((((W3.setCell ⟨w.heap.size + 1, 0, none⟩ (.int .i64 Y)).setCell ⟨w.heap.size + 1, 1, none⟩ (.int .i64 1)).setCell ⟨w.heap.size + 1, 2, none⟩ (.int .i64 1)).setCell ⟨w.heap.size + 1 + 1, 0, none⟩ (.int .i64 Y)).setCell ⟨w.heap.size + 1 + 1, 1, none⟩ (.int .i64 12)).setCell ⟨w.heap.size + 1 + 1, 2, none⟩ (.int .i64 31))) (w.heap.size + 1) #[.int .i64 Y, .int .i64 1, .int .i64 1] 56 := hR2.set3.other3 (by omega)
    have hS3 : Blk (((((((W3.setCell ⟨w.heap.size + 1, 0, none⟩ (.int .i64 Y)).setCell ⟨w.heap.size + 1, 1, none⟩ (.int .i64 1)).setCell ⟨w.heap.size + 1, 2, none⟩ (.int .i64 1)).setCell ⟨w.heap.size + 1 + 1, 0, none⟩ (.int .i64 Y)).setCell ⟨w.heap.size + 1 + 1, 1, none⟩ (.int .i64 12)).setCell ⟨w.heap.size + 1 + 1, 2, none⟩ (.int .i64 31))) (w.heap.size + 1 + 1) #[.int .i64 Y, .int .i64 12, .int .i64 31] 56 := (hR3.other3 (by omega)).set3
    have hSB : Below w.heap.size w (((((((W3.setCell ⟨w.heap.size + 1, 0, none⟩ (.int .i64 Y)).setCell ⟨w.heap.size + 1, 1, none⟩ (.int .i64 1)).setCell ⟨w.heap.size + 1, 2, none⟩ (.int .i64 1)).setCell ⟨w.heap.size + 1 + 1, 0, none⟩ (.int .i64 Y)).setCell ⟨w.heap.size + 1 + 1, 1, none⟩ (.int .i64 12)).setCell ⟨w.heap.size + 1 + 1, 2, none⟩ (.int .i64 31))) := below_set3 (below_set3 hBr (by omega)) (by omega)
    clear hR1 hR2 hR3 hBr c0 c1 d0 d1 d2 e0 e1 e2 cf df ef
    generalize (((((((W3.setCell ⟨w.heap.size + 1, 0, none⟩ (.int .i64 Y)).setCell ⟨w.heap.size + 1, 1, none⟩ (.int .i64 1)).setCell ⟨w.heap.size + 1, 2, none⟩ (.int .i64 1)).setCell ⟨w.heap.size + 1 + 1, 0, none⟩ (.int .i64 Y)).setCell ⟨w.heap.size + 1 + 1, 1, none⟩ (.int .i64 12)).setCell ⟨w.heap.size + 1 + 1, 2, none⟩ (.int .i64 31))) = W4 at *
    have hR1 := hS1
    have hR2 := hS2
    have hR3 := hS3
    have hBr := hSB
    clear hS1 hS2 hS3 hSB
    obtain ⟨c0, c1⟩ := hR1.two
    have cf := hR1.free
    obtain ⟨d0, d1, d2⟩ := hR2.three
    obtain ⟨e0, e1, e2⟩ := hR3.three
    go_wp2_with (go_at_call 72; (with_reducible first | (refine (HDA.out _).mono ?_) | (refine (HDB.out _).mono ?_)); rintro e w5 ⟨rfl, hB5⟩; have hR1 := hR1.keep hB5; have hR2 := hR2.keep hB5; have hR3 := hR3.keep hB5; have hBr := below_up hBr hB5; obtain ⟨c0, c1⟩ := hR1.two; have cf := hR1.free; obtain ⟨d0, d1, d2⟩ := hR2.three; obtain ⟨e0, e1, e2⟩ := hR3.three)
    refine bodyPost_ret (v := .tuple #[.agg #[.int .i64 0, .int .i64 0], .int .i64 1]) ?_ rfl ?_
    · simp [results, Tryd.results64, go_sem, c0, c1]
    · first | exact SpPost.err HO.out hBr | exact SpPost.err HO.out ((hBr.setCell (Nat.le_refl _) _).setCell (Nat.le_refl _) _)
  · rw [hv1, if_pos rfl] at HDA HDB
    have HO : Hid (Sp.outF (some ((Y, 1, 1), (Y, 12, 31))) = Sp.num (Y, 1, 1) * 86400 ∧ Sp.outT (some ((Y, 1, 1), (Y, 12, 31))) = Sp.num (Y, 12, 31) * 86400 + 86399 ∧ Sp.outE (some ((Y, 1, 1), (Y, 12, 31))) = 0) := by
      show _ ∧ _; rw [hv1] at hv; simp [Sp.outF, Sp.outT, Sp.outE, hv1, hv]
    have hn1 := Sp.num_bd hv1
    have hn2 := Sp.num_bd (hv.trans hv1)
    generalize Sp.num (Y, 1, 1) = na at *
    generalize Sp.num (Y, 12, 31) = nb at *
    clear hv1 hv
    go_enter Tryd.func64, Tryd.ntmps64
    go_wp2_with fail
    rw [HW1.out, HW2.out, HW3.out]
    go_wp2_with (go_at_call 61; (with_reducible first | (refine (F0.out _).mono ?_) | (refine (F1.out _).mono ?_) | (refine (F2.out _).mono ?_)); rintro e w9 ⟨rfl, rfl⟩)
    -- W3: the world's name
    have hS1 : Blk (((((((W3.setCell ⟨w.heap.size + 1, 0, none⟩ (.int .i64 Y)).setCell ⟨w.heap.size + 1, 1, none⟩ (.int .i64 1)).setCell ⟨w.heap.size + 1, 2, none⟩ (.int .i64 1)).setCell ⟨w.heap.size + 1 + 1, 0, none⟩ (.int .i64 Y)).setCell ⟨w.heap.size + 1 + 1, 1, none⟩ (.int .i64 12)).setCell ⟨w.heap.size + 1 + 1, 2, none⟩ (.int .i64 31))) w.heap.size #[.int .i64 0, .int .i64 0] 45 := ((hR1.other3 (by omega)).other3 (by omega))
    have hS2 : Blk (((((((W3.setCell ⟨w.heap.size + 1, 0, none⟩ (.int .i64 Y)).setCell ⟨w.heap.size + 1, 1, none⟩ (.int .i64 1)).setCell ⟨w.heap.size + 1, 2, none⟩ (.int .i64 1)).setCell ⟨w.heap.size + 1 + 1, 0, none⟩ (.int .i64 Y)).setCell ⟨w.heap.size + 1 + 1, 1, none⟩ (.int .i64 12)).setCell ⟨w.heap.size + 1 + 1, 2, none⟩ (.int .i64 31))) (w.heap.size + 1) #[.int .i64 Y, .int .i64 1, .int .i64 1] 56 := hR2.set3.other3 (by omega)
    have hS3 : Blk (((((((W3.setCell ⟨w.heap.size + 1, 0, none⟩ (.int .i64 Y)).setCell ⟨w.heap.size + 1, 1, none⟩ (.int .i64 1)).setCell ⟨w.heap.size + 1, 2, none⟩ (.int .i64 1)).setCell ⟨w.heap.size + 1 + 1, 0, none⟩ (.int .i64 Y)).setCell ⟨w.heap.size + 1 + 1, 1, none⟩ (.int .i64 12)).setCell ⟨w.heap.size + 1 + 1, 2, none⟩ (.int .i64 31))) (w.heap.size + 1 + 1) #[.int .i64 Y, .int .i64 12, .int .i64 31] 56 := (hR3.other3 (by omega)).set3
    have hSB : Below w.heap.size w (((((((W3.setCell ⟨w.heap.size + 1, 0, none⟩ (.int .i64 Y)).setCell ⟨w.heap.size + 1, 1, none⟩ (.int .i64 1)).setCell ⟨w.heap.size + 1, 2, none⟩ (.int .i64 1)).setCell ⟨w.heap.size + 1 + 1, 0, none⟩ (.int .i64 Y)).setCell ⟨w.heap.size + 1 + 1, 1, none⟩ (.int .i64 12)).setCell ⟨w.heap.size + 1 + 1, 2, none⟩ (.int .i64 31))) := below_set3 (below_set3 hBr (by omega)) (by omega)
    clear hR1 hR2 hR3 hBr c0 c1 d0 d1 d2 e0 e1 e2 cf df ef
    generalize (((((((W3.setCell ⟨w.heap.size + 1, 0, none⟩ (.int .i64 Y)).setCell ⟨w.heap.size + 1, 1, none⟩ (.int .i64 1)).setCell ⟨w.heap.size + 1, 2, none⟩ (.int .i64 1)).setCell ⟨w.heap.size + 1 + 1, 0, none⟩ (.int .i64 Y)).setCell ⟨w.heap.size + 1 + 1, 1, none⟩ (.int .i64 12)).setCell ⟨w.heap.size + 1 + 1, 2, none⟩ (.int .i64 31))) = W4 at *
    have hR1 := hS1
    have hR2 := hS2
    have hR3 := hS3
    have hBr := hSB
    clear hS1 hS2 hS3 hSB
    obtain ⟨c0, c1⟩ := hR1.two
    have cf := hR1.free
    obtain ⟨d0, d1, d2⟩ := hR2.three
    obtain ⟨e0, e1, e2⟩ := hR3.three
    go_wp2_with (go_at_call 72; (with_reducible first | (refine (HDA.out _).mono ?_) | (refine (HDB.out _).mono ?_)); rintro e w5 ⟨rfl, hB5⟩; have hR1 := hR1.keep hB5; have hR2 := hR2.keep hB5; have hR3 := hR3.keep hB5; have hBr := below_up hBr hB5; obtain ⟨c0, c1⟩ := hR1.two; have cf := hR1.free; obtain ⟨d0, d1, d2⟩ := hR2.three; obtain ⟨e0, e1, e2⟩ := hR3.three)
    -- days na, nb; dates Y 1 1, Y 12 31
    have hR1 := hR1.drew
    have hR2 := hR2.drew
    have hR3 := hR3.drew
    have hBr := below_drew1 hBr
    have hne1 : w.heap.size + 1 ≠ w.heap.size := by omega
    have hne2 : w.heap.size + 1 + 1 ≠ w.heap.size := by omega
    have hw1 : IntKind.i64.wrap (na * 86400) = na * 86400 := IntWalk.i64_in _ (by omega)
    have hw2 : IntKind.i64.wrap (nb * 86400) = nb * 86400 := IntWalk.i64_in _ (by omega)
    have hw3 : IntKind.i64.wrap (nb * 86400 + 86400) = nb * 86400 + 86400 := IntWalk.i64_in _ (by omega)
    have hw4 : IntKind.i64.wrap (nb * 86400 + 86400 - 1) = nb * 86400 + 86400 - 1 := IntWalk.i64_in _ (by omega)
    obtain ⟨z0, z1, z2⟩ := hR2.three
    obtain ⟨y0, y1, y2⟩ := hR3.three
    go_region_held3 (fun w' => w'.cell? ⟨w.heap.size + 1, 0, none⟩ = some (.int .i64 Y) ∧ w'.cell? ⟨w.heap.size + 1, 1, none⟩ = some (.int .i64 1) ∧ w'.cell? ⟨w.heap.size + 1, 2, none⟩ = some (.int .i64 1) ∧ w'.cell? ⟨w.heap.size + 1 + 1, 0, none⟩ = some (.int .i64 Y) ∧ w'.cell? ⟨w.heap.size + 1 + 1, 1, none⟩ = some (.int .i64 12) ∧ w'.cell? ⟨w.heap.size + 1 + 1, 2, none⟩ = some (.int .i64 31)) (first | (with_reducible exact ⟨d0, d1, d2, e0, e1, e2⟩) | (with_reducible exact ⟨z0, z1, z2, y0, y1, y2⟩) | (with_reducible exact ⟨cell_set2 hne1 d0, cell_set2 hne1 d1, cell_set2 hne1 d2, cell_set2 hne2 e0, cell_set2 hne2 e1, cell_set2 hne2 e2⟩)) (first | (go_at_call 72; (with_reducible first | (refine (HDA.out _).mono ?_) | (refine (HDB.out _).mono ?_)); rintro e w6 ⟨rfl, hB5⟩; have hR1 := hR1.keep hB5; have hR2 := hR2.keep hB5; have hR3 := hR3.keep hB5; have hBr := below_up hBr hB5; obtain ⟨c0, c1⟩ := hR1.two; have cf := hR1.free; obtain ⟨d0, d1, d2⟩ := hR2.three; obtain ⟨e0, e1, e2⟩ := hR3.three))
    go_wp2_with fail
    refine bodyPost_ret (v := .tuple #[.agg #[.int .i64 (na * 86400), .int .i64 (nb * 86400 + 86399)], .int .i64 0]) ?_ rfl ?_
    · simp [results, Tryd.results64, go_sem, c0, c1]
      omega
    · exact SpPost.ok HO.out ((hBr.setCell (Nat.le_refl _) _).setCell (Nat.le_refl _) _)
end Go.Proofs.YthldlffkgafgaaaDoor
