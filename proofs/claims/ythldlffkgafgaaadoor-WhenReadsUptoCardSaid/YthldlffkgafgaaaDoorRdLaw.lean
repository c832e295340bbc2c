/- ReadStamp and StampRead read alike; Span and SpanOf at a string; the law WhenReads, walked. -/
import Derived.Test.YthldlffkgafgaaaDoorSpSpan
import Derived.Test.YthldlffkgafgaaaDoorRdStamp2
import Derived.Test.YthldlffkgafgaaaDoorStReadB
namespace Go.Proofs.YthldlffkgafgaaaDoor
namespace Rs
theorem fx_ok {s : List UInt8} {a b : Nat} (h : Dg.allD (Ft.win s a b) = true) : Sc.fx s a b = (Dg.val (Ft.win s a b) : Int) := by unfold Sc.fx; rw [if_pos h]
theorem fx_no {s : List UInt8} {a b : Nat} (h : ¬ Dg.allD (Ft.win s a b) = true) : Sc.fx s a b = -1 := by unfold Sc.fx; rw [if_neg h]
theorem sign_res (s : List UInt8) (c : UInt8) (hc : c ≠ 48) :
    Ft.res (s.drop 19) (Ft.zoneF c) = if s.length = 25 ∧ s[19]? = some c ∧ (0 ≤ Sc.fx s 20 22 ∧ s[22]? = some 58) ∧ 0 ≤ Sc.fx s 23 25 then some [Sc.fx s 20 22, Sc.fx s 23 25] else none := by
  rw [Ft.res_zone _ c hc]
  have hl : (s.drop 19).length = 6 ↔ s.length = 25 := by rw [List.length_drop]; omega
  have e0 : (s.drop 19)[0]? = s[19]? := Ft.drop_at s 19 0
  have e3 : (s.drop 19)[3]? = s[22]? := Ft.drop_at s 19 3
  have w1 : Ft.win (s.drop 19) 1 3 = Ft.win s 20 22 := Ft.win_drop s 19 1 3
  have w2 : Ft.win (s.drop 19) 4 6 = Ft.win s 23 25 := Ft.win_drop s 19 4 6
  rw [e0, e3, w1, w2]
  have d : ∀ a b, Dg.allD (Ft.win s a b) = true ↔ 0 ≤ Sc.fx s a b := fun a b => ⟨fun h => by rw [fx_ok h]; omega, fun h => (fx_dig h).1⟩
  by_cases c : s.length = 25 ∧ s[19]? = some c ∧ (0 ≤ Sc.fx s 20 22 ∧ s[22]? = some 58) ∧ 0 ≤ Sc.fx s 23 25
  · rw [if_pos c, if_pos ⟨hl.2 c.1, c.2.1, ⟨(d _ _).2 c.2.2.1.1, c.2.2.1.2⟩, (d _ _).2 c.2.2.2⟩, (fx_dig c.2.2.1.1).2, (fx_dig c.2.2.2).2]
  · rw [if_neg c, if_neg (fun h => c ⟨hl.1 h.1, h.2.1, ⟨(d _ _).1 h.2.2.1.1, h.2.2.1.2⟩, (d _ _).1 h.2.2.2⟩)]
theorem law (s : List UInt8) : read s = val s := by
  unfold read
  by_cases h19 : s.length < 19
  · rw [if_pos h19, ne_of_shape (fun h => by have := h.1; omega)]
  · rw [if_neg h19]
    have hp : plus s = _ := sign_res s 43 (by decide)
    have hm : minus s = _ := sign_res s 45 (by decide)
    rw [Ft.loc_stamp]
    have hloc : (if Sc.secs (Ft.win s 0 19) 45 84 < 0 then none else some (Sc.secs (Ft.win s 0 19) 45 84)) = (if loc s < 0 then none else some (loc s)) := rfl
    rw [hloc]
    by_cases hs : shape s
    · obtain ⟨h25, h22, hsg⟩ := hs
      by_cases h20 : 0 ≤ Sc.fx s 20 22 ∧ 0 ≤ Sc.fx s 23 25
      · obtain ⟨a0, b0⟩ := h20
        rcases hsg with h43 | h45
        · rw [if_pos ⟨h25, h43, ⟨a0, h22⟩, b0⟩] at hp
          rw [if_neg (fun h => by rw [h43] at h; exact absurd h.2.1 (by decide))] at hm
          rw [hp, hm]
          have hz : zone s = 60 * Sc.fx s 20 22 + Sc.fx s 23 25 := by unfold zone; rw [if_neg (by rw [h43]; decide)]
          by_cases hq : loc s < 0
          · rw [if_pos hq, ne_of_parts (fun h => by have h1 := h.1; omega)]; rfl
          · rw [if_neg hq]
            unfold out
            by_cases hc : Sc.fx s 23 25 ≤ 59 ∧ 60 * Sc.fx s 20 22 + Sc.fx s 23 25 ≤ 840 ∧ 0 ≤ loc s - 60 * (60 * Sc.fx s 20 22 + Sc.fx s 23 25) ∧ loc s - 60 * (60 * Sc.fx s 20 22 + Sc.fx s 23 25) ≤ 6311433599
            · rw [val_some ⟨h25, h22, .inl h43⟩ ⟨by omega, a0, b0, hc.1⟩ ⟨hc.2.1, by rw [hz]; exact hc.2.2, fun h => by rw [h43] at h; exact absurd h.1 (by decide)⟩, hz]
              simp only [if_pos hc]
            · simp only [if_neg hc]
              by_cases hp9 : Sc.fx s 23 25 ≤ 59
              · rw [ne_of_fine (fun h => hc ⟨hp9, h.1, by have := h.2.1; rw [hz] at this; exact this⟩)]
              · rw [ne_of_parts (fun h => hp9 h.2.2.2)]
        · rw [if_neg (fun h => by rw [h45] at h; exact absurd h.2.1 (by decide))] at hp
          rw [if_pos ⟨h25, h45, ⟨a0, h22⟩, b0⟩] at hm
          rw [hp, hm]
          have hz : zone s = -(60 * Sc.fx s 20 22 + Sc.fx s 23 25) := by unfold zone; rw [if_pos h45]
          by_cases hq : loc s < 0
          · rw [if_pos hq, ne_of_parts (fun h => by have h1 := h.1; omega)]; rfl
          · rw [if_neg hq]
            unfold out
            by_cases hc : ¬ (Sc.fx s 20 22 = 0 ∧ Sc.fx s 23 25 = 0) ∧ Sc.fx s 23 25 ≤ 59 ∧ 60 * Sc.fx s 20 22 + Sc.fx s 23 25 ≤ 840 ∧ 0 ≤ loc s - 60 * (-(60 * Sc.fx s 20 22 + Sc.fx s 23 25)) ∧ loc s - 60 * (-(60 * Sc.fx s 20 22 + Sc.fx s 23 25)) ≤ 6311433599
            · rw [val_some ⟨h25, h22, .inr h45⟩ ⟨by omega, a0, b0, hc.2.1⟩ ⟨hc.2.2.1, by rw [hz]; exact hc.2.2.2, fun h => hc.1 (by have := h.2; rw [hz] at this; omega)⟩, hz]
              simp only [if_pos hc]
            · simp only [if_neg hc]
              by_cases hp9 : Sc.fx s 23 25 ≤ 59
              · rw [ne_of_fine (fun h => hc ⟨fun e => h.2.2 ⟨h45, by rw [hz]; omega⟩, hp9, h.1, by have := h.2.1; rw [hz] at this; exact this⟩)]
              · rw [ne_of_parts (fun h => hp9 h.2.2.2)]
      · rw [if_neg (fun h => h20 ⟨h.2.2.1.1, h.2.2.2⟩)] at hp hm
        rw [hp, hm, ne_of_parts (fun h => h20 ⟨h.2.1, h.2.2.1⟩)]
        cases (if loc s < 0 then none else some (loc s)) <;> rfl
    · rw [if_neg (fun h => hs ⟨h.1, h.2.2.1.2, .inl h.2.1⟩)] at hp
      rw [if_neg (fun h => hs ⟨h.1, h.2.2.1.2, .inr h.2.1⟩)] at hm
      rw [hp, hm, ne_of_shape hs]
      cases (if loc s < 0 then none else some (loc s)) <;> rfl
end Rs
end Go.Proofs.YthldlffkgafgaaaDoor
namespace Go.Proofs.YthldlffkgafgaaaDoor
open Go.RowKit Go.Sort Go.Shelf
set_option linter.unusedVariables false
theorem span_is (s : List UInt8) (hs : s.length < 4294967281) (w : World) (hm : Mx w) : Calls Tryd.prog 27 #[.string (Tx.mk s)] w (SpanPost w (Sp.span s)) := by
  have hl := cut_len s [46, 46]
  have hc := fun W hW => cut_is s [46, 46] hs W hW
  have ua : UnitAt 63 (Tx.mk (Lib.cut s [46, 46]).1) _ _ _ := fun W => unit_is _ (by omega) W
  have ub : UnitAt 63 (Tx.mk (Lib.cut s [46, 46]).2.1) _ _ _ := fun W => unit_is _ (by omega) W
  have oa := Sp.out_cases (Lib.cut s [46, 46]).1
  have ob := Sp.out_cases (Lib.cut s [46, 46]).2.1
  unfold Sp.span
  show Calls Tryd.prog 27 #[.string (Tx.mk s)] w (SpanPost w (Sp.sp _ _ _ _ _ _ _))
  cases h : (Lib.cut s [46, 46]).2.2
  · rw [h] at hc
    have e : ∀ fa ta ea fb tb eb, Sp.sp fa ta ea fb tb eb false = (fa, ta, ea) := fun _ _ _ _ _ _ => rfl
    rw [e]
    exact span_one _ _ _ _ _ _ w hm hc ua (by rcases oa with h | h | h <;> omega)
  · rw [h] at hc
    exact span_two _ _ _ _ _ _ _ _ _ w hm hc ua ub (by rcases oa with h | h | h <;> omega) (by rcases ob with h | h | h <;> omega)
theorem spanOf_is (s : List UInt8) (hs : s.length < 4294967281) (w : World) (hm : Mx w) : Calls Tryd.prog 28 #[.string (Tx.mk s)] w (SpanPost w (Sp.span s)) := by
  have hc := fun W hW => cut_is s [46, 46] hs W hW
  have ua : UnitAt 64 (Tx.mk (Lib.cut s [46, 46]).1) _ _ _ := fun W => one_is _ W
  have ub : UnitAt 64 (Tx.mk (Lib.cut s [46, 46]).2.1) _ _ _ := fun W => one_is _ W
  have oa := Sp.out_cases (Lib.cut s [46, 46]).1
  have ob := Sp.out_cases (Lib.cut s [46, 46]).2.1
  unfold Sp.span
  show Calls Tryd.prog 28 #[.string (Tx.mk s)] w (SpanPost w (Sp.sp _ _ _ _ _ _ _))
  cases h : (Lib.cut s [46, 46]).2.2
  · rw [h] at hc
    have e : ∀ fa ta ea fb tb eb, Sp.sp fa ta ea fb tb eb false = (fa, ta, ea) := fun _ _ _ _ _ _ => rfl
    rw [e]
    exact spanOf_one _ _ _ _ _ _ w hm hc ua
  · rw [h] at hc
    exact spanOf_two _ _ _ _ _ _ _ _ _ w hm hc ua ub (by rcases oa with h | h | h <;> omega) (by rcases ob with h | h | h <;> omega)
theorem outV_is (r : Option (Int × Int)) : ∃ m z e : Int, Rs.outV r = .tuple #[.int .i64 m, .int .i64 z, .int .i64 e] := by
  rcases r with _ | ⟨m, z⟩
  · exact ⟨0, 0, 8, rfl⟩
  · exact ⟨m, z, 0, rfl⟩
theorem plain_both (s : List UInt8) : ∃ p e : Int, (if Sc.secs s 58 32 < 0 then 0 else Sc.secs s 58 32) = p ∧ (if Sc.secs s 58 32 < 0 then (8 : Int) else 0) = e ∧ (Ft.loc (Ft.res s Ft.plainF)).getD 0 = p ∧ (if (Ft.loc (Ft.res s Ft.plainF)).isSome = true then (0 : Int) else 8) = e := by
  refine ⟨_, _, rfl, rfl, ?_, ?_⟩
  · rw [Ft.loc_plain]; split <;> rfl
  · rw [Ft.loc_plain]; split <;> rfl
set_option maxRecDepth 100000 in
set_option maxHeartbeats 4000000 in
theorem whenReads_walk (s : List UInt8) (hs : s.length < 4294967281) (w : World) (hm : Mx w) : Calls Tryd.prog 7 #[.string (Tx.mk s)] w fun e w' => e = .returned (.bool true) ∧ Below w.heap.size w w' := by
  obtain ⟨m, z, e1, hv⟩ := outV_is (Rs.val s)
  obtain ⟨p, e2, p1, p2, p3, p4⟩ := plain_both s
  have HRS : Hid (∀ W, Calls Tryd.prog 23 #[.string (Tx.mk s)] W fun e w' => e = .returned (.tuple #[.int .i64 m, .int .i64 z, .int .i64 e1]) ∧ Below W.heap.size W w') := fun W => by
    have := readStamp_is s (by omega) W
    rwa [Rs.law, hv] at this
  have HSR : Hid (∀ W, Calls Tryd.prog 24 #[.string (Tx.mk s)] W fun e w' => e = .returned (.tuple #[.int .i64 m, .int .i64 z, .int .i64 e1]) ∧ Below W.heap.size W w') := fun W => by
    have := stampRead_is s W
    rwa [hv] at this
  have HRP : Hid (∀ W, Calls Tryd.prog 25 #[.string (Tx.mk s)] W fun e w' => e = .returned (.tuple #[.int .i64 p, .int .i64 e2]) ∧ Below W.heap.size W w') := fun W => by
    have := readPlain_is s (by omega) W
    rwa [p3, p4] at this
  have HPR : Hid (∀ W, Calls Tryd.prog 26 #[.string (Tx.mk s)] W fun e w' => e = .returned (.tuple #[.int .i64 p, .int .i64 e2]) ∧ Below W.heap.size W w') := fun W => by
    have := plainRead_is s W
    rwa [p1, p2] at this
  have hsp : ∃ f t e3 : Int, Sp.span s = (f, t, e3) := ⟨_, _, _, rfl⟩
  obtain ⟨f, t, e3, hsp⟩ := hsp
  have HSP : Hid (∀ W, Mx W → Calls Tryd.prog 27 #[.string (Tx.mk s)] W fun e w' => e = .returned (.tuple #[.agg #[.int .i64 f, .int .i64 t], .int .i64 e3]) ∧ Below W.heap.size W w') := fun W hW => by
    have := span_is s hs W hW
    rw [hsp] at this; exact this
  have HSO : Hid (∀ W, Mx W → Calls Tryd.prog 28 #[.string (Tx.mk s)] W fun e w' => e = .returned (.tuple #[.agg #[.int .i64 f, .int .i64 t], .int .i64 e3]) ∧ Below W.heap.size W w') := fun W hW => by
    have := spanOf_is s hs W hW
    rw [hsp] at this; exact this
  clear hv p1 p2 p3 p4 hsp hs
  have HM := Lib.hid hm
  clear hm
  go_enter Tryd.func7, Tryd.ntmps7
  go_wp2_with (first
    | (go_at_call 23; (with_reducible refine (HRS.out _).mono ?_); rintro e w1 ⟨rfl, hB1⟩)
    | (go_at_call 24; (with_reducible refine (HSR.out _).mono ?_); rintro e w2 ⟨rfl, hB2⟩)
    | (go_at_call 25; (with_reducible refine (HRP.out _).mono ?_); rintro e w3 ⟨rfl, hB3⟩)
    | (go_at_call 26; (with_reducible refine (HPR.out _).mono ?_); rintro e w4 ⟨rfl, hB4⟩))
  have HM4 := Lib.hid ((((HM.out.below hB1).below hB2).below hB3).below hB4)
  have hBa := below_up (below_up (below_up hB1 hB2) hB3) hB4
  clear hB1 hB2 hB3 hB4
  go_at_call 27
  refine (HSP.out _ HM4.out).mono ?_
  rintro e w5 ⟨rfl, hB5⟩
  have HM5 := Lib.hid (HM4.out.below hB5)
  have hBb := below_up hBa hB5
  obtain ⟨W6, hW6, hP6, hz6, hB6⟩ := box w5 #[.int .i64 f, .int .i64 t] 45
  have HW6 := Lib.hid hW6
  have HM6 := Lib.hid (HM5.out.below hB6)
  have hBc := below_up hBb hB6
  clear hW6
  go_wp2_with fail
  rw [HW6.out]
  go_at_call 28
  refine (HSO.out _ HM6.out).mono ?_
  rintro e w7 ⟨rfl, hB7⟩
  have hQ6 := hP6.keep hB7
  have hBd := below_up hBc hB7
  obtain ⟨c0, c1⟩ := hQ6.two
  have hlt := hQ6.lt
  go_wp2_with fail
  go_ret
  exact ⟨rfl, below_allocs hBd _⟩
end Go.Proofs.YthldlffkgafgaaaDoor
