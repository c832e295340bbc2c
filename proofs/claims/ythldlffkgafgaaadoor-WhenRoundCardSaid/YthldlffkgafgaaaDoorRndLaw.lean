/- ReadStamp reads what a stamp says: plain lists. -/
import Derived.Test.YthldlffkgafgaaaDoorRdStamp
import Derived.Test.YthldlffkgafgaaaDoorRsMath
import Derived.Test.YthldlffkgafgaaaDoorSxLaw
namespace Go.Proofs.YthldlffkgafgaaaDoor
namespace Rs
theorem ne_of_shape2 {s : List UInt8} (h : ¬ shape s) : val s = none := by unfold val; rw [if_neg (fun hh => h hh.1)]
theorem ne_of_parts2 {s : List UInt8} (h : ¬ parts s) : val s = none := by unfold val; rw [if_neg (fun hh => h hh.2.1)]
theorem ne_of_fine2 {s : List UInt8} (h : ¬ fine s) : val s = none := by unfold val; rw [if_neg (fun hh => h hh.2.2)]
theorem val_some2 {s : List UInt8} (h1 : shape s) (h2 : parts s) (h3 : fine s) : val s = some (loc s - 60 * zone s, zone s) := by unfold val; rw [if_pos ⟨h1, h2, h3⟩]
theorem fx_ok2 {s : List UInt8} {a b : Nat} (h : Dg.allD (Ft.win s a b) = true) : Sc.fx s a b = (Dg.val (Ft.win s a b) : Int) := by unfold Sc.fx; rw [if_pos h]
theorem fx_no2 {s : List UInt8} {a b : Nat} (h : ¬ Dg.allD (Ft.win s a b) = true) : Sc.fx s a b = -1 := by unfold Sc.fx; rw [if_neg h]
theorem sign_res2 (s : List UInt8) (c : UInt8) (hc : c ≠ 48) :
    Ft.res (s.drop 19) (Ft.zoneF c) = if s.length = 25 ∧ s[19]? = some c ∧ (0 ≤ Sc.fx s 20 22 ∧ s[22]? = some 58) ∧ 0 ≤ Sc.fx s 23 25 then some [Sc.fx s 20 22, Sc.fx s 23 25] else none := by
  rw [Ft.res_zone _ c hc]
  have hl : (s.drop 19).length = 6 ↔ s.length = 25 := by rw [List.length_drop]; omega
  have e0 : (s.drop 19)[0]? = s[19]? := Ft.drop_at s 19 0
  have e3 : (s.drop 19)[3]? = s[22]? := Ft.drop_at s 19 3
  have w1 : Ft.win (s.drop 19) 1 3 = Ft.win s 20 22 := Ft.win_drop s 19 1 3
  have w2 : Ft.win (s.drop 19) 4 6 = Ft.win s 23 25 := Ft.win_drop s 19 4 6
  rw [e0, e3, w1, w2]
  have d : ∀ a b, Dg.allD (Ft.win s a b) = true ↔ 0 ≤ Sc.fx s a b := fun a b => ⟨fun h => by rw [fx_ok2 h]; omega, fun h => (fx_dig h).1⟩
  by_cases c : s.length = 25 ∧ s[19]? = some c ∧ (0 ≤ Sc.fx s 20 22 ∧ s[22]? = some 58) ∧ 0 ≤ Sc.fx s 23 25
  · rw [if_pos c, if_pos ⟨hl.2 c.1, c.2.1, ⟨(d _ _).2 c.2.2.1.1, c.2.2.1.2⟩, (d _ _).2 c.2.2.2⟩, (fx_dig c.2.2.1.1).2, (fx_dig c.2.2.2).2]
  · rw [if_neg c, if_neg (fun h => c ⟨hl.1 h.1, h.2.1, ⟨(d _ _).1 h.2.2.1.1, h.2.2.1.2⟩, (d _ _).1 h.2.2.2⟩)]
theorem law2 (s : List UInt8) : read s = val s := by
  unfold read
  by_cases h19 : s.length < 19
  · rw [if_pos h19, ne_of_shape2 (fun h => by have := h.1; omega)]
  · rw [if_neg h19]
    have hp : plus s = _ := sign_res2 s 43 (by decide)
    have hm : minus s = _ := sign_res2 s 45 (by decide)
    rw [Ft.loc_stamp]
    have hloc : (if Sc.secs (Ft.win s 0 19) 45 84 < 0 then none else some (Sc.secs (Ft.win s 0 19) 45 84)) = (if loc s < 0 then none else some (loc s)) := rfl
    rw [hloc]
    by_cases hs : shape s
    · obtain ⟨h25, h22, hsg⟩ := hs
      by_cases h20 : 0 ≤ Sc.fx s 20 22 ∧ 0 ≤ Sc.fx s 23 25
      · obtain ⟨a0, b0⟩ := h20
        rcases hsg with h43 | h45
        · rw [if_pos ⟨h25, h43, ⟨a0, h22⟩, b0⟩] at hp
          rw [if_neg (fun h => by rw [h43] at h; exact absurd h.2.1 (by decide))] at hm
          rw [hp, hm]
          have hz : zone s = 60 * Sc.fx s 20 22 + Sc.fx s 23 25 := by unfold zone; rw [if_neg (by rw [h43]; decide)]
          by_cases hq : loc s < 0
          · rw [if_pos hq, ne_of_parts2 (fun h => by have h1 := h.1; omega)]; rfl
          · rw [if_neg hq]
            unfold out
            by_cases hc : Sc.fx s 23 25 ≤ 59 ∧ 60 * Sc.fx s 20 22 + Sc.fx s 23 25 ≤ 840 ∧ 0 ≤ loc s - 60 * (60 * Sc.fx s 20 22 + Sc.fx s 23 25) ∧ loc s - 60 * (60 * Sc.fx s 20 22 + Sc.fx s 23 25) ≤ 6311433599
            · rw [val_some2 ⟨h25, h22, .inl h43⟩ ⟨by omega, a0, b0, hc.1⟩ ⟨hc.2.1, by rw [hz]; exact hc.2.2, fun h => by rw [h43] at h; exact absurd h.1 (by decide)⟩, hz]
              simp only [if_pos hc]
            · simp only [if_neg hc]
              by_cases hp9 : Sc.fx s 23 25 ≤ 59
              · rw [ne_of_fine2 (fun h => hc ⟨hp9, h.1, by have := h.2.1; rw [hz] at this; exact this⟩)]
              · rw [ne_of_parts2 (fun h => hp9 h.2.2.2)]
        · rw [if_neg (fun h => by rw [h45] at h; exact absurd h.2.1 (by decide))] at hp
          rw [if_pos ⟨h25, h45, ⟨a0, h22⟩, b0⟩] at hm
          rw [hp, hm]
          have hz : zone s = -(60 * Sc.fx s 20 22 + Sc.fx s 23 25) := by unfold zone; rw [if_pos h45]
          by_cases hq : loc s < 0
          · rw [if_pos hq, ne_of_parts2 (fun h => by have h1 := h.1; omega)]; rfl
          · rw [if_neg hq]
            unfold out
            by_cases hc : ¬ (Sc.fx s 20 22 = 0 ∧ Sc.fx s 23 25 = 0) ∧ Sc.fx s 23 25 ≤ 59 ∧ 60 * Sc.fx s 20 22 + Sc.fx s 23 25 ≤ 840 ∧ 0 ≤ loc s - 60 * (-(60 * Sc.fx s 20 22 + Sc.fx s 23 25)) ∧ loc s - 60 * (-(60 * Sc.fx s 20 22 + Sc.fx s 23 25)) ≤ 6311433599
            · rw [val_some2 ⟨h25, h22, .inr h45⟩ ⟨by omega, a0, b0, hc.2.1⟩ ⟨hc.2.2.1, by rw [hz]; exact hc.2.2.2, fun h => hc.1 (by have := h.2; rw [hz] at this; omega)⟩, hz]
              simp only [if_pos hc]
            · simp only [if_neg hc]
              by_cases hp9 : Sc.fx s 23 25 ≤ 59
              · rw [ne_of_fine2 (fun h => hc ⟨fun e => h.2.2 ⟨h45, by rw [hz]; omega⟩, hp9, h.1, by have := h.2.1; rw [hz] at this; exact this⟩)]
              · rw [ne_of_parts2 (fun h => hp9 h.2.2.2)]
      · rw [if_neg (fun h => h20 ⟨h.2.2.1.1, h.2.2.2⟩)] at hp hm
        rw [hp, hm, ne_of_parts2 (fun h => h20 ⟨h.2.1, h.2.2.1⟩)]
        cases (if loc s < 0 then none else some (loc s)) <;> rfl
    · rw [if_neg (fun h => hs ⟨h.1, h.2.2.1.2, .inl h.2.1⟩)] at hp
      rw [if_neg (fun h => hs ⟨h.1, h.2.2.1.2, .inr h.2.1⟩)] at hm
      rw [hp, hm, ne_of_shape2 hs]
      cases (if loc s < 0 then none else some (loc s)) <;> rfl
end Rs
end Go.Proofs.YthldlffkgafgaaaDoor
namespace Go.Proofs.YthldlffkgafgaaaDoor
namespace Rd
theorem dig1 (k : Nat) (h : k < 10) : (UInt8.ofNat (48 + k)).toNat = 48 + k := by simp only [UInt8.toNat_ofNat']; omega
theorem pad2_ex (n : Int) (h0 : 0 ≤ n) (h : n < 100) : ∃ p q : UInt8, Tx.P2 n = Tx.mk [p, q] ∧ Dg.allD [p, q] = true ∧ (Dg.val [p, q] : Int) = n := by
  have h1 := Dg.pad2_read (n := n.toNat) (by omega)
  have h2 := Tx.pad2_val (n := n.toNat) (by omega)
  rw [h2] at h1
  exact ⟨_, _, by unfold Tx.P2; rw [h2], h1.1, by rw [h1.2]; omega⟩
theorem pad4_ex (n : Int) (h0 : 1000 ≤ n) (h : n < 10000) : ∃ p q r t : UInt8, Tx.Y4 n = Tx.mk [p, q, r, t] ∧ Dg.allD [p, q, r, t] = true ∧ (Dg.val [p, q, r, t] : Int) = n := by
  have h2 := Tx.pad4_val (n := n.toNat) (by omega) (by omega)
  refine ⟨_, _, _, _, by unfold Tx.Y4; rw [h2], ?_, ?_⟩
  · have t1 := dig1 (n.toNat / 1000) (by omega)
    have t2 := dig1 (n.toNat / 100 % 10) (by omega)
    have t3 := dig1 (n.toNat / 10 % 10) (by omega)
    have t4 := dig1 (n.toNat % 10) (by omega)
    simp only [Dg.allD, List.all_cons, List.all_nil, Bool.and_true, Bool.and_eq_true, Dg.isD, decide_eq_true_eq]
    omega
  · have t1 := dig1 (n.toNat / 1000) (by omega)
    have t2 := dig1 (n.toNat / 100 % 10) (by omega)
    have t3 := dig1 (n.toNat / 10 % 10) (by omega)
    have t4 := dig1 (n.toNat % 10) (by omega)
    show ((10 * (10 * (10 * (10 * 0 + ((UInt8.ofNat (48 + n.toNat / 1000)).toNat - 48)) + ((UInt8.ofNat (48 + n.toNat / 100 % 10)).toNat - 48)) + ((UInt8.ofNat (48 + n.toNat / 10 % 10)).toNat - 48)) + ((UInt8.ofNat (48 + n.toNat % 10)).toNat - 48) : Nat) : Int) = n
    omega
theorem fx_ex {s : List UInt8} {a b : Nat} {l : List UInt8} {n : Int} (hw : Ft.win s a b = l) (h : Dg.allD l = true ∧ (Dg.val l : Int) = n) : Sc.fx s a b = n := by
  unfold Sc.fx; rw [hw, if_pos h.1, h.2]
/-- A date and a time, written and read. -/
theorem lt_ex (y m d sc : Int) (c b : UInt8) (hv : Cal.vld y m d = true) (h0 : 0 ≤ sc) (h1 : sc < 86400) : ∃ l : List UInt8, Tx.LT y m d sc ⟨#[c]⟩ ⟨#[b]⟩ = Tx.mk l ∧ l.length = 19 ∧ Sc.secs l c b = Cal.num y m d * 86400 + sc := by
  obtain ⟨v1, v2, v3, v4, v5, v6⟩ := (Cal.vld_iff _ _ _).1 hv
  have v7 := Cal.len_bd y m
  obtain ⟨y0, y1, y2, y3, ey, hy⟩ := pad4_ex y (by omega) (by omega)
  obtain ⟨m0, m1, em, hm⟩ := pad2_ex m (by omega) (by omega)
  obtain ⟨d0, d1, ed, hd⟩ := pad2_ex d (by omega) (by omega)
  obtain ⟨a0, a1, ea, ha⟩ := pad2_ex (sc / 3600) (by omega) (by omega)
  obtain ⟨b0, b1, eb, hb⟩ := pad2_ex (sc / 60 % 60) (by omega) (by omega)
  obtain ⟨c0, c1, ec, hc⟩ := pad2_ex (sc % 60) (by omega) (by omega)
  refine ⟨[y0, y1, y2, y3, c, m0, m1, c, d0, d1, b, a0, a1, 58, b0, b1, 58, c0, c1], ?_, rfl, ?_⟩
  · unfold Tx.LT Tx.D
    rw [ey, em, ed, ea, eb, ec]
    rfl
  · unfold Sc.secs
    rw [if_pos (show Sc.good _ c b from ⟨rfl, rfl, rfl, rfl, rfl, rfl⟩)]
    have f0 : Sc.fx [y0, y1, y2, y3, c, m0, m1, c, d0, d1, b, a0, a1, 58, b0, b1, 58, c0, c1] 0 4 = y := fx_ex rfl hy
    have f1 : Sc.fx [y0, y1, y2, y3, c, m0, m1, c, d0, d1, b, a0, a1, 58, b0, b1, 58, c0, c1] 5 7 = m := fx_ex rfl hm
    have f2 : Sc.fx [y0, y1, y2, y3, c, m0, m1, c, d0, d1, b, a0, a1, 58, b0, b1, 58, c0, c1] 8 10 = d := fx_ex rfl hd
    have f3 : Sc.fx [y0, y1, y2, y3, c, m0, m1, c, d0, d1, b, a0, a1, 58, b0, b1, 58, c0, c1] 11 13 = sc / 3600 := fx_ex rfl ha
    have f4 : Sc.fx [y0, y1, y2, y3, c, m0, m1, c, d0, d1, b, a0, a1, 58, b0, b1, 58, c0, c1] 14 16 = sc / 60 % 60 := fx_ex rfl hb
    have f5 : Sc.fx [y0, y1, y2, y3, c, m0, m1, c, d0, d1, b, a0, a1, 58, b0, b1, 58, c0, c1] 17 19 = sc % 60 := fx_ex rfl hc
    rw [f0, f1, f2, f3, f4, f5]
    unfold Sc.tell
    rw [if_pos ⟨hv, by omega, by omega, by omega⟩]
    omega
/-- Local seconds, written and read. -/
theorem plain_back {l : Int} (h : 0 ≤ l ∧ l ≤ 6311433599) {s : ByteArray} (hs : Tx.PlainIs l s) : ∃ x : List UInt8, s = Tx.mk x ∧ x.length = 19 ∧ Ft.loc (Ft.res x Ft.plainF) = some l := by
  obtain ⟨y, m, d, hv, hn, rfl⟩ := hs
  obtain ⟨x, e, hl, hx⟩ := lt_ex y m d (l % 86400) 58 32 hv (by omega) (by omega)
  refine ⟨x, e, hl, ?_⟩
  rw [Ft.loc_plain, hx, hn, if_neg (by omega)]
  congr 1; omega
/-- A moment and an offset, written and read. -/
theorem stamp_back {t z : Int} (h : Tx.StOk t z) {s : ByteArray} (hs : Tx.StampIs t z s) : ∃ x : List UInt8, s = Tx.mk x ∧ x.length = 25 ∧ Rs.val x = some (t, z) := by
  obtain ⟨y, m, d, hv, hn, rfl⟩ := hs
  obtain ⟨ht, hz, hl⟩ := h
  obtain ⟨x, e, hxl, hx⟩ := lt_ex y m d ((t + 60 * z) % 86400) 45 84 hv (by omega) (by omega)
  have hmg : 0 ≤ Tx.mag z ∧ Tx.mag z ≤ 840 := by unfold Tx.mag; omega
  obtain ⟨h0, h1, eh, hh⟩ := pad2_ex (Tx.mag z / 60) (by omega) (by omega)
  obtain ⟨m0, m1, em, hm⟩ := pad2_ex (Tx.mag z % 60) (by omega) (by omega)
  have esg : Tx.sgn z = Tx.mk (if z < 0 then [45] else [43]) := by unfold Tx.sgn; split <;> rfl
  have gl : ∀ g : UInt8, (x ++ [g, h0, h1, 58, m0, m1]).length = 25 := fun g => by rw [List.length_append, hxl]; rfl
  have w0 : ∀ g : UInt8, Ft.win (x ++ [g, h0, h1, 58, m0, m1]) 0 19 = x := fun g => by
    unfold Ft.win; rw [List.drop_zero, Nat.sub_zero, List.take_append_of_le_length (by omega), List.take_of_length_le (by omega)]
  have dr : ∀ g : UInt8, (x ++ [g, h0, h1, 58, m0, m1]).drop 19 = [g, h0, h1, 58, m0, m1] := fun g => by rw [← hxl, List.drop_left]
  have w1 : ∀ g : UInt8, Ft.win (x ++ [g, h0, h1, 58, m0, m1]) 20 22 = [h0, h1] := fun g => by
    rw [← Ft.win_drop _ 19 1 3, dr]; rfl
  have w2 : ∀ g : UInt8, Ft.win (x ++ [g, h0, h1, 58, m0, m1]) 23 25 = [m0, m1] := fun g => by
    rw [← Ft.win_drop _ 19 4 6, dr]; rfl
  have g19 : ∀ g : UInt8, (x ++ [g, h0, h1, 58, m0, m1])[19]? = some g := fun g => by
    rw [← Ft.drop_at _ 19 0, dr]; rfl
  have g22 : ∀ g : UInt8, (x ++ [g, h0, h1, 58, m0, m1])[22]? = some 58 := fun g => by
    rw [← Ft.drop_at _ 19 3, dr]; rfl
  have key : ∀ g : UInt8, (g = 45 ∧ z < 0) ∨ (g = 43 ∧ 0 ≤ z) → Rs.val (x ++ [g, h0, h1, 58, m0, m1]) = some (t, z) := by
    intro g hg
    have f1 : Sc.fx (x ++ [g, h0, h1, 58, m0, m1]) 20 22 = Tx.mag z / 60 := fx_ex (w1 g) hh
    have f2 : Sc.fx (x ++ [g, h0, h1, 58, m0, m1]) 23 25 = Tx.mag z % 60 := fx_ex (w2 g) hm
    have hlo : Rs.loc (x ++ [g, h0, h1, 58, m0, m1]) = t + 60 * z := by unfold Rs.loc; rw [w0, hx, hn]; omega
    have hzo : Rs.zone (x ++ [g, h0, h1, 58, m0, m1]) = z := by
      unfold Rs.zone
      rw [g19, f1, f2]
      unfold Tx.mag
      rcases hg with ⟨rfl, hlt⟩ | ⟨rfl, hge⟩
      · rw [if_pos rfl]; omega
      · rw [if_neg (by decide)]; omega
    unfold Rs.val
    rw [if_pos ⟨⟨gl g, g22 g, by rw [g19]; rcases hg with ⟨rfl, _⟩ | ⟨rfl, _⟩; exact .inr rfl; exact .inl rfl⟩, ⟨by rw [hlo]; omega, by rw [f1]; omega, by rw [f2]; omega, by rw [f2]; omega⟩, ⟨by rw [f1, f2]; omega, by rw [hlo, hzo]; omega, by
      rw [hzo, g19]; rintro ⟨h1, h2⟩
      rcases hg with ⟨rfl, hlt⟩ | ⟨rfl, _⟩
      · omega
      · exact absurd h1 (by decide)⟩⟩, hlo, hzo]
    congr 2; omega
  by_cases c : z < 0
  · refine ⟨x ++ [45, h0, h1, 58, m0, m1], ?_, gl 45, key 45 (.inl ⟨rfl, c⟩)⟩
    unfold Tx.ST
    rw [e, esg, if_pos c, eh, em, show ByteArray.mk #[58] = Tx.mk [58] from rfl]
    simp only [Tx.mk_append, List.append_assoc]; rfl
  · refine ⟨x ++ [43, h0, h1, 58, m0, m1], ?_, gl 43, key 43 (.inr ⟨rfl, by omega⟩)⟩
    unfold Tx.ST
    rw [e, esg, if_neg c, eh, em, show ByteArray.mk #[58] = Tx.mk [58] from rfl]
    simp only [Tx.mk_append, List.append_assoc]; rfl
end Rd
end Go.Proofs.YthldlffkgafgaaaDoor
namespace Go.Proofs.YthldlffkgafgaaaDoor
open Go.RowKit Go.Sort Go.Shelf
set_option linter.unusedVariables false
set_option maxRecDepth 100000 in
set_option maxHeartbeats 8000000 in
theorem whenRound_walk (n t z F T : Int) (w : World) (ht : Tx.Tab w) (hmx : Mx w) : Calls Tryd.prog 9 #[.int .i64 n, .int .i64 t, .int .i64 z, .agg #[.int .i64 F, .int .i64 T]] w fun e w' => e = .returned (.bool true) ∧ Below w.heap.size w w' := by
  obtain ⟨xs, es, h1, _, h3⟩ := spans_both F T
  have HSX := Lib.hid h1
  have HSQ : Hid (es = 0 → ∀ W, Mx W → Calls Tryd.prog 27 #[.string (Tx.mk xs)] W fun e w' => e = .returned (.tuple #[.agg #[.int .i64 F, .int .i64 T], .int .i64 0]) ∧ Below W.heap.size W w') := fun he W hW => by
    have := span_is xs (by have := (h3 he).1; omega) W hW
    rw [(h3 he).2] at this
    exact this
  have HPN : Hid (¬ Ev.mom t = true → ∀ W, Tx.Tab W → Calls Tryd.prog 12 #[.int .i64 t] W fun e w' => e = .returned (.tuple #[.string ⟨#[]⟩, .int .i64 2]) ∧ Below W.heap.size W w') := fun hp W _ =>
    (plain_err t (by simpa using hp) W).mono fun e w' ⟨he, hw⟩ => ⟨he, by rw [hw]; exact Below.refl _ _⟩
  have HSN : Hid (¬ Tx.StOk t z → ∀ W, Tx.Tab W → Calls Tryd.prog 10 #[.int .i64 t, .int .i64 z] W fun e w' => e = .returned (.tuple #[.string ⟨#[]⟩, .int .i64 2]) ∧ Below W.heap.size W w') := fun hs W _ =>
    (stamp_err t z hs W).mono fun e w' ⟨he, hw⟩ => ⟨he, by rw [hw]; exact Below.refl _ _⟩
  obtain ⟨px, hpx⟩ : ∃ px : List UInt8, (Ev.mom t = true → (∀ W, Tx.Tab W → Calls Tryd.prog 12 #[.int .i64 t] W fun e w' => e = .returned (.tuple #[.string (Tx.mk px), .int .i64 0]) ∧ Below W.heap.size W w') ∧ (∀ W, Calls Tryd.prog 25 #[.string (Tx.mk px)] W fun e w' => e = .returned (.tuple #[.int .i64 t, .int .i64 0]) ∧ Below W.heap.size W w')) := by
    by_cases hp : Ev.mom t = true
    · have hb := (Ev.mom_iff _).1 hp
      obtain ⟨y, m, d, hv, hn⟩ := Cal.date_ex (t / 86400) (by omega) (by omega)
      have hpi : Tx.PlainIs t (Tx.LT y m d (t % 86400) ⟨#[58]⟩ ⟨#[32]⟩) := ⟨y, m, d, hv, hn, rfl⟩
      obtain ⟨x, ex, hxl, hxr⟩ := Rd.plain_back hb hpi
      refine ⟨x, fun _ => ⟨fun W hW => ?_, fun W => ?_⟩⟩
      · refine (plain_ok t hb W hW).mono ?_
        rintro e w' ⟨s, hs, rfl, hB⟩
        exact ⟨by rw [Tx.plain_same hs hpi, ex], hB⟩
      · have := readPlain_is x (by omega) W
        rw [hxr] at this
        exact this
    · exact ⟨[], fun h => absurd h hp⟩
  have HPY := Lib.hid hpx
  obtain ⟨sx, hsx⟩ : ∃ sx : List UInt8, (Tx.StOk t z → (∀ W, Tx.Tab W → Calls Tryd.prog 10 #[.int .i64 t, .int .i64 z] W fun e w' => e = .returned (.tuple #[.string (Tx.mk sx), .int .i64 0]) ∧ Below W.heap.size W w') ∧ (∀ W, Calls Tryd.prog 23 #[.string (Tx.mk sx)] W fun e w' => e = .returned (.tuple #[.int .i64 t, .int .i64 z, .int .i64 0]) ∧ Below W.heap.size W w')) := by
    by_cases hs : Tx.StOk t z
    · obtain ⟨hb, hz, hl⟩ := hs
      obtain ⟨y, m, d, hv, hn⟩ := Cal.date_ex ((t + 60 * z) / 86400) (by omega) (by omega)
      have hsi : Tx.StampIs t z (Tx.ST y m d ((t + 60 * z) % 86400) z) := ⟨y, m, d, hv, hn, rfl⟩
      obtain ⟨x, ex, hxl, hxr⟩ := Rd.stamp_back ⟨hb, hz, hl⟩ hsi
      refine ⟨x, fun hs => ⟨fun W hW => ?_, fun W => ?_⟩⟩
      · refine (stamp_ok t z hs W hW).mono ?_
        rintro e w' ⟨s, hs, rfl, hB⟩
        exact ⟨by rw [Tx.stamp_same hs hsi, ex], hB⟩
      · have := readStamp_is x (by omega) W
        rw [Rs.law2, hxr] at this
        exact this
    · exact ⟨[], fun h => absurd h hs⟩
  have HSY := Lib.hid hsx
  have HT0 := Lib.hid ht
  have HM0 := Lib.hid hmx
  clear h1 h3 hpx hsx ht hmx
  by_cases hd : 0 ≤ n ∧ n ≤ 73048
  · obtain ⟨y, m, d, hv, hn⟩ := Cal.date_ex n hd.1 hd.2
    have HDA : Hid (∀ W, Calls Tryd.prog 31 #[.int .i64 n] W fun e w' => e = .returned (.tuple #[.agg #[.int .i64 y, .int .i64 m, .int .i64 d], .int .i64 0]) ∧ Below W.heap.size W w') := fun W => by
      refine (dateOf_yes n W hd.1 hd.2).mono ?_
      rintro e w' ⟨y', m', d', hv', hn', rfl, hB⟩
      obtain ⟨rfl, rfl, rfl⟩ := Cal.num_inj _ _ _ _ _ _ hv' hv (hn'.trans hn.symm)
      exact ⟨rfl, hB⟩
    have HDY : Hid (∀ W, Calls Tryd.prog 32 #[.agg #[.int .i64 y, .int .i64 m, .int .i64 d]] W fun e w' => e = .returned (.tuple #[.int .i64 n, .int .i64 0]) ∧ Below W.heap.size W w') := fun W => by
      have := dayOf_yes y m d W hv
      rwa [hn] at this
    clear hd hv hn
    -- the rest of the walk; RN1Y: the dates' block
    by_cases he : es = 0
    · subst he
      have HSP := Lib.hid (HSQ.out rfl)
      by_cases hp : Ev.mom t = true
      · have HPL := Lib.hid (HPY.out hp).1
        have HRP := Lib.hid (HPY.out hp).2
        by_cases hs : Tx.StOk t z
        · have HST := Lib.hid (HSY.out hs).1
          have HRS := Lib.hid (HSY.out hs).2
          clear hs hp
          obtain ⟨W1, hW1, hX, hz, hB⟩ := box w #[.int .i64 F, .int .i64 T] 45
          have HW1 := Lib.hid hW1
          have HT := Lib.hid (Tx.tab_below HT0.out hB)
          have HM := Lib.hid (HM0.out.below hB)
          obtain ⟨c0, c1⟩ := hX.two
          clear hW1
          go_enter Tryd.func9, Tryd.ntmps9
          go_wp2_with fail
          rw [HW1.out]
          go_at_call 14
          refine (awakeWhen_is _ HT.out).mono ?_
          rintro e V ⟨rfl, hN⟩; have hX := hX.keep hN; have hB := below_up hB hN; have HT := Lib.hid (Tx.tab_below HT.out hN); have HM := Lib.hid (HM.out.below hN); obtain ⟨c0, c1⟩ := hX.two; clear hN
          go_wp2_with fail
          go_at_call 31
          refine (HDA.out _).mono ?_
          rintro e V ⟨rfl, hN⟩; have hX := hX.keep hN; have hB := below_up hB hN; have HT := Lib.hid (Tx.tab_below HT.out hN); have HM := Lib.hid (HM.out.below hN); obtain ⟨c0, c1⟩ := hX.two; clear hN
          -- the date's box
          obtain ⟨Wd, hWd, hD, hzd, hN⟩ := box V #[.int .i64 y, .int .i64 m, .int .i64 d] 56
          have HWd := Lib.hid hWd
          have hX := hX.keep hN
          have hB := below_up hB hN
          have HT := Lib.hid (Tx.tab_below HT.out hN)
          have HM := Lib.hid (HM.out.below hN)
          obtain ⟨c0, c1⟩ := hX.two
          obtain ⟨d0, d1, d2⟩ := hD.three
          clear hN hWd
          go_wp2_with fail
          rw [HWd.out]
          go_wp2_with fail
          go_at_call 32
          refine (HDY.out _).mono ?_
          rintro e V ⟨rfl, hN⟩; have hX := hX.keep hN; have hB := below_up hB hN; have HT := Lib.hid (Tx.tab_below HT.out hN); have HM := Lib.hid (HM.out.below hN); obtain ⟨c0, c1⟩ := hX.two; clear hN
          go_wp2_with fail
          go_at_call 10
          refine (HST.out _ HT.out).mono ?_
          rintro e V ⟨rfl, hN⟩; have hX := hX.keep hN; have hB := below_up hB hN; have HT := Lib.hid (Tx.tab_below HT.out hN); have HM := Lib.hid (HM.out.below hN); obtain ⟨c0, c1⟩ := hX.two; clear hN
          go_wp2_with fail
          go_at_call 23
          refine (HRS.out _).mono ?_
          rintro e V ⟨rfl, hN⟩; have hX := hX.keep hN; have hB := below_up hB hN; have HT := Lib.hid (Tx.tab_below HT.out hN); have HM := Lib.hid (HM.out.below hN); obtain ⟨c0, c1⟩ := hX.two; clear hN
          go_wp2_with fail
          go_at_call 12
          refine (HPL.out _ HT.out).mono ?_
          rintro e V ⟨rfl, hN⟩; have hX := hX.keep hN; have hB := below_up hB hN; have HT := Lib.hid (Tx.tab_below HT.out hN); have HM := Lib.hid (HM.out.below hN); obtain ⟨c0, c1⟩ := hX.two; clear hN
          go_wp2_with fail
          go_at_call 25
          refine (HRP.out _).mono ?_
          rintro e V ⟨rfl, hN⟩; have hX := hX.keep hN; have hB := below_up hB hN; have HT := Lib.hid (Tx.tab_below HT.out hN); have HM := Lib.hid (HM.out.below hN); obtain ⟨c0, c1⟩ := hX.two; clear hN
          go_wp2_with fail
          go_at_call 29
          refine (HSX.out _ HT.out HM.out).mono ?_
          rintro e V ⟨rfl, hN⟩; have hX := hX.keep hN; have hB := below_up hB hN; have HT := Lib.hid (Tx.tab_below HT.out hN); have HM := Lib.hid (HM.out.below hN); obtain ⟨c0, c1⟩ := hX.two; clear hN
          go_wp2_with fail
          go_at_call 27
          refine (HSP.out _ HM.out).mono ?_
          rintro e V ⟨rfl, hN⟩; have hX := hX.keep hN; have hB := below_up hB hN; have HT := Lib.hid (Tx.tab_below HT.out hN); have HM := Lib.hid (HM.out.below hN); obtain ⟨c0, c1⟩ := hX.two; clear hN
          have hlt := hX.lt
          go_wp2_with fail
          go_ret
          exact ⟨rfl, below_allocs hB _⟩
        · have HST := Lib.hid (HSN.out hs)
          clear hs hp
          obtain ⟨W1, hW1, hX, hz, hB⟩ := box w #[.int .i64 F, .int .i64 T] 45
          have HW1 := Lib.hid hW1
          have HT := Lib.hid (Tx.tab_below HT0.out hB)
          have HM := Lib.hid (HM0.out.below hB)
          obtain ⟨c0, c1⟩ := hX.two
          clear hW1
          go_enter Tryd.func9, Tryd.ntmps9
          go_wp2_with fail
          rw [HW1.out]
          go_at_call 14
          refine (awakeWhen_is _ HT.out).mono ?_
          rintro e V ⟨rfl, hN⟩; have hX := hX.keep hN; have hB := below_up hB hN; have HT := Lib.hid (Tx.tab_below HT.out hN); have HM := Lib.hid (HM.out.below hN); obtain ⟨c0, c1⟩ := hX.two; clear hN
          go_wp2_with fail
          go_at_call 31
          refine (HDA.out _).mono ?_
          rintro e V ⟨rfl, hN⟩; have hX := hX.keep hN; have hB := below_up hB hN; have HT := Lib.hid (Tx.tab_below HT.out hN); have HM := Lib.hid (HM.out.below hN); obtain ⟨c0, c1⟩ := hX.two; clear hN
          -- the date's box
          obtain ⟨Wd, hWd, hD, hzd, hN⟩ := box V #[.int .i64 y, .int .i64 m, .int .i64 d] 56
          have HWd := Lib.hid hWd
          have hX := hX.keep hN
          have hB := below_up hB hN
          have HT := Lib.hid (Tx.tab_below HT.out hN)
          have HM := Lib.hid (HM.out.below hN)
          obtain ⟨c0, c1⟩ := hX.two
          obtain ⟨d0, d1, d2⟩ := hD.three
          clear hN hWd
          go_wp2_with fail
          rw [HWd.out]
          go_wp2_with fail
          go_at_call 32
          refine (HDY.out _).mono ?_
          rintro e V ⟨rfl, hN⟩; have hX := hX.keep hN; have hB := below_up hB hN; have HT := Lib.hid (Tx.tab_below HT.out hN); have HM := Lib.hid (HM.out.below hN); obtain ⟨c0, c1⟩ := hX.two; clear hN
          go_wp2_with fail
          go_at_call 10
          refine (HST.out _ HT.out).mono ?_
          rintro e V ⟨rfl, hN⟩; have hX := hX.keep hN; have hB := below_up hB hN; have HT := Lib.hid (Tx.tab_below HT.out hN); have HM := Lib.hid (HM.out.below hN); obtain ⟨c0, c1⟩ := hX.two; clear hN
          go_wp2_with fail
          go_at_call 12
          refine (HPL.out _ HT.out).mono ?_
          rintro e V ⟨rfl, hN⟩; have hX := hX.keep hN; have hB := below_up hB hN; have HT := Lib.hid (Tx.tab_below HT.out hN); have HM := Lib.hid (HM.out.below hN); obtain ⟨c0, c1⟩ := hX.two; clear hN
          go_wp2_with fail
          go_at_call 25
          refine (HRP.out _).mono ?_
          rintro e V ⟨rfl, hN⟩; have hX := hX.keep hN; have hB := below_up hB hN; have HT := Lib.hid (Tx.tab_below HT.out hN); have HM := Lib.hid (HM.out.below hN); obtain ⟨c0, c1⟩ := hX.two; clear hN
          go_wp2_with fail
          go_at_call 29
          refine (HSX.out _ HT.out HM.out).mono ?_
          rintro e V ⟨rfl, hN⟩; have hX := hX.keep hN; have hB := below_up hB hN; have HT := Lib.hid (Tx.tab_below HT.out hN); have HM := Lib.hid (HM.out.below hN); obtain ⟨c0, c1⟩ := hX.two; clear hN
          go_wp2_with fail
          go_at_call 27
          refine (HSP.out _ HM.out).mono ?_
          rintro e V ⟨rfl, hN⟩; have hX := hX.keep hN; have hB := below_up hB hN; have HT := Lib.hid (Tx.tab_below HT.out hN); have HM := Lib.hid (HM.out.below hN); obtain ⟨c0, c1⟩ := hX.two; clear hN
          have hlt := hX.lt
          go_wp2_with fail
          go_ret
          exact ⟨rfl, below_allocs hB _⟩
      · have HPL := Lib.hid (HPN.out hp)
        by_cases hs : Tx.StOk t z
        · exact absurd ((Ev.mom_iff _).2 hs.1) hp
        · have HST := Lib.hid (HSN.out hs)
          clear hs hp
          obtain ⟨W1, hW1, hX, hz, hB⟩ := box w #[.int .i64 F, .int .i64 T] 45
          have HW1 := Lib.hid hW1
          have HT := Lib.hid (Tx.tab_below HT0.out hB)
          have HM := Lib.hid (HM0.out.below hB)
          obtain ⟨c0, c1⟩ := hX.two
          clear hW1
          go_enter Tryd.func9, Tryd.ntmps9
          go_wp2_with fail
          rw [HW1.out]
          go_at_call 14
          refine (awakeWhen_is _ HT.out).mono ?_
          rintro e V ⟨rfl, hN⟩; have hX := hX.keep hN; have hB := below_up hB hN; have HT := Lib.hid (Tx.tab_below HT.out hN); have HM := Lib.hid (HM.out.below hN); obtain ⟨c0, c1⟩ := hX.two; clear hN
          go_wp2_with fail
          go_at_call 31
          refine (HDA.out _).mono ?_
          rintro e V ⟨rfl, hN⟩; have hX := hX.keep hN; have hB := below_up hB hN; have HT := Lib.hid (Tx.tab_below HT.out hN); have HM := Lib.hid (HM.out.below hN); obtain ⟨c0, c1⟩ := hX.two; clear hN
          -- the date's box
          obtain ⟨Wd, hWd, hD, hzd, hN⟩ := box V #[.int .i64 y, .int .i64 m, .int .i64 d] 56
          have HWd := Lib.hid hWd
          have hX := hX.keep hN
          have hB := below_up hB hN
          have HT := Lib.hid (Tx.tab_below HT.out hN)
          have HM := Lib.hid (HM.out.below hN)
          obtain ⟨c0, c1⟩ := hX.two
          obtain ⟨d0, d1, d2⟩ := hD.three
          clear hN hWd
          go_wp2_with fail
          rw [HWd.out]
          go_wp2_with fail
          go_at_call 32
          refine (HDY.out _).mono ?_
          rintro e V ⟨rfl, hN⟩; have hX := hX.keep hN; have hB := below_up hB hN; have HT := Lib.hid (Tx.tab_below HT.out hN); have HM := Lib.hid (HM.out.below hN); obtain ⟨c0, c1⟩ := hX.two; clear hN
          go_wp2_with fail
          go_at_call 10
          refine (HST.out _ HT.out).mono ?_
          rintro e V ⟨rfl, hN⟩; have hX := hX.keep hN; have hB := below_up hB hN; have HT := Lib.hid (Tx.tab_below HT.out hN); have HM := Lib.hid (HM.out.below hN); obtain ⟨c0, c1⟩ := hX.two; clear hN
          go_wp2_with fail
          go_at_call 12
          refine (HPL.out _ HT.out).mono ?_
          rintro e V ⟨rfl, hN⟩; have hX := hX.keep hN; have hB := below_up hB hN; have HT := Lib.hid (Tx.tab_below HT.out hN); have HM := Lib.hid (HM.out.below hN); obtain ⟨c0, c1⟩ := hX.two; clear hN
          go_wp2_with fail
          go_at_call 29
          refine (HSX.out _ HT.out HM.out).mono ?_
          rintro e V ⟨rfl, hN⟩; have hX := hX.keep hN; have hB := below_up hB hN; have HT := Lib.hid (Tx.tab_below HT.out hN); have HM := Lib.hid (HM.out.below hN); obtain ⟨c0, c1⟩ := hX.two; clear hN
          go_wp2_with fail
          go_at_call 27
          refine (HSP.out _ HM.out).mono ?_
          rintro e V ⟨rfl, hN⟩; have hX := hX.keep hN; have hB := below_up hB hN; have HT := Lib.hid (Tx.tab_below HT.out hN); have HM := Lib.hid (HM.out.below hN); obtain ⟨c0, c1⟩ := hX.two; clear hN
          have hlt := hX.lt
          go_wp2_with fail
          go_ret
          exact ⟨rfl, below_allocs hB _⟩
    · by_cases hp : Ev.mom t = true
      · have HPL := Lib.hid (HPY.out hp).1
        have HRP := Lib.hid (HPY.out hp).2
        by_cases hs : Tx.StOk t z
        · have HST := Lib.hid (HSY.out hs).1
          have HRS := Lib.hid (HSY.out hs).2
          clear hs hp
          obtain ⟨W1, hW1, hX, hz, hB⟩ := box w #[.int .i64 F, .int .i64 T] 45
          have HW1 := Lib.hid hW1
          have HT := Lib.hid (Tx.tab_below HT0.out hB)
          have HM := Lib.hid (HM0.out.below hB)
          obtain ⟨c0, c1⟩ := hX.two
          clear hW1
          go_enter Tryd.func9, Tryd.ntmps9
          go_wp2_with fail
          rw [HW1.out]
          go_at_call 14
          refine (awakeWhen_is _ HT.out).mono ?_
          rintro e V ⟨rfl, hN⟩; have hX := hX.keep hN; have hB := below_up hB hN; have HT := Lib.hid (Tx.tab_below HT.out hN); have HM := Lib.hid (HM.out.below hN); obtain ⟨c0, c1⟩ := hX.two; clear hN
          go_wp2_with fail
          go_at_call 31
          refine (HDA.out _).mono ?_
          rintro e V ⟨rfl, hN⟩; have hX := hX.keep hN; have hB := below_up hB hN; have HT := Lib.hid (Tx.tab_below HT.out hN); have HM := Lib.hid (HM.out.below hN); obtain ⟨c0, c1⟩ := hX.two; clear hN
          -- the date's box
          obtain ⟨Wd, hWd, hD, hzd, hN⟩ := box V #[.int .i64 y, .int .i64 m, .int .i64 d] 56
          have HWd := Lib.hid hWd
          have hX := hX.keep hN
          have hB := below_up hB hN
          have HT := Lib.hid (Tx.tab_below HT.out hN)
          have HM := Lib.hid (HM.out.below hN)
          obtain ⟨c0, c1⟩ := hX.two
          obtain ⟨d0, d1, d2⟩ := hD.three
          clear hN hWd
          go_wp2_with fail
          rw [HWd.out]
          go_wp2_with fail
          go_at_call 32
          refine (HDY.out _).mono ?_
          rintro e V ⟨rfl, hN⟩; have hX := hX.keep hN; have hB := below_up hB hN; have HT := Lib.hid (Tx.tab_below HT.out hN); have HM := Lib.hid (HM.out.below hN); obtain ⟨c0, c1⟩ := hX.two; clear hN
          go_wp2_with fail
          go_at_call 10
          refine (HST.out _ HT.out).mono ?_
          rintro e V ⟨rfl, hN⟩; have hX := hX.keep hN; have hB := below_up hB hN; have HT := Lib.hid (Tx.tab_below HT.out hN); have HM := Lib.hid (HM.out.below hN); obtain ⟨c0, c1⟩ := hX.two; clear hN
          go_wp2_with fail
          go_at_call 23
          refine (HRS.out _).mono ?_
          rintro e V ⟨rfl, hN⟩; have hX := hX.keep hN; have hB := below_up hB hN; have HT := Lib.hid (Tx.tab_below HT.out hN); have HM := Lib.hid (HM.out.below hN); obtain ⟨c0, c1⟩ := hX.two; clear hN
          go_wp2_with fail
          go_at_call 12
          refine (HPL.out _ HT.out).mono ?_
          rintro e V ⟨rfl, hN⟩; have hX := hX.keep hN; have hB := below_up hB hN; have HT := Lib.hid (Tx.tab_below HT.out hN); have HM := Lib.hid (HM.out.below hN); obtain ⟨c0, c1⟩ := hX.two; clear hN
          go_wp2_with fail
          go_at_call 25
          refine (HRP.out _).mono ?_
          rintro e V ⟨rfl, hN⟩; have hX := hX.keep hN; have hB := below_up hB hN; have HT := Lib.hid (Tx.tab_below HT.out hN); have HM := Lib.hid (HM.out.below hN); obtain ⟨c0, c1⟩ := hX.two; clear hN
          go_wp2_with fail
          go_at_call 29
          refine (HSX.out _ HT.out HM.out).mono ?_
          rintro e V ⟨rfl, hN⟩; have hX := hX.keep hN; have hB := below_up hB hN; have HT := Lib.hid (Tx.tab_below HT.out hN); have HM := Lib.hid (HM.out.below hN); obtain ⟨c0, c1⟩ := hX.two; clear hN
          go_wp2_with fail
          go_ret
          exact ⟨rfl, hB⟩
        · have HST := Lib.hid (HSN.out hs)
          clear hs hp
          obtain ⟨W1, hW1, hX, hz, hB⟩ := box w #[.int .i64 F, .int .i64 T] 45
          have HW1 := Lib.hid hW1
          have HT := Lib.hid (Tx.tab_below HT0.out hB)
          have HM := Lib.hid (HM0.out.below hB)
          obtain ⟨c0, c1⟩ := hX.two
          clear hW1
          go_enter Tryd.func9, Tryd.ntmps9
          go_wp2_with fail
          rw [HW1.out]
          go_at_call 14
          refine (awakeWhen_is _ HT.out).mono ?_
          rintro e V ⟨rfl, hN⟩; have hX := hX.keep hN; have hB := below_up hB hN; have HT := Lib.hid (Tx.tab_below HT.out hN); have HM := Lib.hid (HM.out.below hN); obtain ⟨c0, c1⟩ := hX.two; clear hN
          go_wp2_with fail
          go_at_call 31
          refine (HDA.out _).mono ?_
          rintro e V ⟨rfl, hN⟩; have hX := hX.keep hN; have hB := below_up hB hN; have HT := Lib.hid (Tx.tab_below HT.out hN); have HM := Lib.hid (HM.out.below hN); obtain ⟨c0, c1⟩ := hX.two; clear hN
          -- the date's box
          obtain ⟨Wd, hWd, hD, hzd, hN⟩ := box V #[.int .i64 y, .int .i64 m, .int .i64 d] 56
          have HWd := Lib.hid hWd
          have hX := hX.keep hN
          have hB := below_up hB hN
          have HT := Lib.hid (Tx.tab_below HT.out hN)
          have HM := Lib.hid (HM.out.below hN)
          obtain ⟨c0, c1⟩ := hX.two
          obtain ⟨d0, d1, d2⟩ := hD.three
          clear hN hWd
          go_wp2_with fail
          rw [HWd.out]
          go_wp2_with fail
          go_at_call 32
          refine (HDY.out _).mono ?_
          rintro e V ⟨rfl, hN⟩; have hX := hX.keep hN; have hB := below_up hB hN; have HT := Lib.hid (Tx.tab_below HT.out hN); have HM := Lib.hid (HM.out.below hN); obtain ⟨c0, c1⟩ := hX.two; clear hN
          go_wp2_with fail
          go_at_call 10
          refine (HST.out _ HT.out).mono ?_
          rintro e V ⟨rfl, hN⟩; have hX := hX.keep hN; have hB := below_up hB hN; have HT := Lib.hid (Tx.tab_below HT.out hN); have HM := Lib.hid (HM.out.below hN); obtain ⟨c0, c1⟩ := hX.two; clear hN
          go_wp2_with fail
          go_at_call 12
          refine (HPL.out _ HT.out).mono ?_
          rintro e V ⟨rfl, hN⟩; have hX := hX.keep hN; have hB := below_up hB hN; have HT := Lib.hid (Tx.tab_below HT.out hN); have HM := Lib.hid (HM.out.below hN); obtain ⟨c0, c1⟩ := hX.two; clear hN
          go_wp2_with fail
          go_at_call 25
          refine (HRP.out _).mono ?_
          rintro e V ⟨rfl, hN⟩; have hX := hX.keep hN; have hB := below_up hB hN; have HT := Lib.hid (Tx.tab_below HT.out hN); have HM := Lib.hid (HM.out.below hN); obtain ⟨c0, c1⟩ := hX.two; clear hN
          go_wp2_with fail
          go_at_call 29
          refine (HSX.out _ HT.out HM.out).mono ?_
          rintro e V ⟨rfl, hN⟩; have hX := hX.keep hN; have hB := below_up hB hN; have HT := Lib.hid (Tx.tab_below HT.out hN); have HM := Lib.hid (HM.out.below hN); obtain ⟨c0, c1⟩ := hX.two; clear hN
          go_wp2_with fail
          go_ret
          exact ⟨rfl, hB⟩
      · have HPL := Lib.hid (HPN.out hp)
        by_cases hs : Tx.StOk t z
        · exact absurd ((Ev.mom_iff _).2 hs.1) hp
        · have HST := Lib.hid (HSN.out hs)
          clear hs hp
          obtain ⟨W1, hW1, hX, hz, hB⟩ := box w #[.int .i64 F, .int .i64 T] 45
          have HW1 := Lib.hid hW1
          have HT := Lib.hid (Tx.tab_below HT0.out hB)
          have HM := Lib.hid (HM0.out.below hB)
          obtain ⟨c0, c1⟩ := hX.two
          clear hW1
          go_enter Tryd.func9, Tryd.ntmps9
          go_wp2_with fail
          rw [HW1.out]
          go_at_call 14
          refine (awakeWhen_is _ HT.out).mono ?_
          rintro e V ⟨rfl, hN⟩; have hX := hX.keep hN; have hB := below_up hB hN; have HT := Lib.hid (Tx.tab_below HT.out hN); have HM := Lib.hid (HM.out.below hN); obtain ⟨c0, c1⟩ := hX.two; clear hN
          go_wp2_with fail
          go_at_call 31
          refine (HDA.out _).mono ?_
          rintro e V ⟨rfl, hN⟩; have hX := hX.keep hN; have hB := below_up hB hN; have HT := Lib.hid (Tx.tab_below HT.out hN); have HM := Lib.hid (HM.out.below hN); obtain ⟨c0, c1⟩ := hX.two; clear hN
          -- the date's box
          obtain ⟨Wd, hWd, hD, hzd, hN⟩ := box V #[.int .i64 y, .int .i64 m, .int .i64 d] 56
          have HWd := Lib.hid hWd
          have hX := hX.keep hN
          have hB := below_up hB hN
          have HT := Lib.hid (Tx.tab_below HT.out hN)
          have HM := Lib.hid (HM.out.below hN)
          obtain ⟨c0, c1⟩ := hX.two
          obtain ⟨d0, d1, d2⟩ := hD.three
          clear hN hWd
          go_wp2_with fail
          rw [HWd.out]
          go_wp2_with fail
          go_at_call 32
          refine (HDY.out _).mono ?_
          rintro e V ⟨rfl, hN⟩; have hX := hX.keep hN; have hB := below_up hB hN; have HT := Lib.hid (Tx.tab_below HT.out hN); have HM := Lib.hid (HM.out.below hN); obtain ⟨c0, c1⟩ := hX.two; clear hN
          go_wp2_with fail
          go_at_call 10
          refine (HST.out _ HT.out).mono ?_
          rintro e V ⟨rfl, hN⟩; have hX := hX.keep hN; have hB := below_up hB hN; have HT := Lib.hid (Tx.tab_below HT.out hN); have HM := Lib.hid (HM.out.below hN); obtain ⟨c0, c1⟩ := hX.two; clear hN
          go_wp2_with fail
          go_at_call 12
          refine (HPL.out _ HT.out).mono ?_
          rintro e V ⟨rfl, hN⟩; have hX := hX.keep hN; have hB := below_up hB hN; have HT := Lib.hid (Tx.tab_below HT.out hN); have HM := Lib.hid (HM.out.below hN); obtain ⟨c0, c1⟩ := hX.two; clear hN
          go_wp2_with fail
          go_at_call 29
          refine (HSX.out _ HT.out HM.out).mono ?_
          rintro e V ⟨rfl, hN⟩; have hX := hX.keep hN; have hB := below_up hB hN; have HT := Lib.hid (Tx.tab_below HT.out hN); have HM := Lib.hid (HM.out.below hN); obtain ⟨c0, c1⟩ := hX.two; clear hN
          go_wp2_with fail
          go_ret
          exact ⟨rfl, hB⟩
  · have HDA : Hid (∀ W, Calls Tryd.prog 31 #[.int .i64 n] W fun e w' => e = .returned (.tuple #[.agg #[.int .i64 0, .int .i64 0, .int .i64 0], .int .i64 2]) ∧ Below W.heap.size W w') := fun W => dateOf_no n W (by omega)
    clear hd
    -- the rest of the walk; RN1N: the dates' block
    by_cases he : es = 0
    · subst he
      have HSP := Lib.hid (HSQ.out rfl)
      by_cases hp : Ev.mom t = true
      · have HPL := Lib.hid (HPY.out hp).1
        have HRP := Lib.hid (HPY.out hp).2
        by_cases hs : Tx.StOk t z
        · have HST := Lib.hid (HSY.out hs).1
          have HRS := Lib.hid (HSY.out hs).2
          clear hs hp
          obtain ⟨W1, hW1, hX, hz, hB⟩ := box w #[.int .i64 F, .int .i64 T] 45
          have HW1 := Lib.hid hW1
          have HT := Lib.hid (Tx.tab_below HT0.out hB)
          have HM := Lib.hid (HM0.out.below hB)
          obtain ⟨c0, c1⟩ := hX.two
          clear hW1
          go_enter Tryd.func9, Tryd.ntmps9
          go_wp2_with fail
          rw [HW1.out]
          go_at_call 14
          refine (awakeWhen_is _ HT.out).mono ?_
          rintro e V ⟨rfl, hN⟩; have hX := hX.keep hN; have hB := below_up hB hN; have HT := Lib.hid (Tx.tab_below HT.out hN); have HM := Lib.hid (HM.out.below hN); obtain ⟨c0, c1⟩ := hX.two; clear hN
          go_wp2_with fail
          go_at_call 31
          refine (HDA.out _).mono ?_
          rintro e V ⟨rfl, hN⟩; have hX := hX.keep hN; have hB := below_up hB hN; have HT := Lib.hid (Tx.tab_below HT.out hN); have HM := Lib.hid (HM.out.below hN); obtain ⟨c0, c1⟩ := hX.two; clear hN
          -- the date's box
          obtain ⟨Wd, hWd, hD, hzd, hN⟩ := box V #[.int .i64 0, .int .i64 0, .int .i64 0] 56
          have HWd := Lib.hid hWd
          have hX := hX.keep hN
          have hB := below_up hB hN
          have HT := Lib.hid (Tx.tab_below HT.out hN)
          have HM := Lib.hid (HM.out.below hN)
          obtain ⟨c0, c1⟩ := hX.two
          obtain ⟨d0, d1, d2⟩ := hD.three
          clear hN hWd
          go_wp2_with fail
          rw [HWd.out]
          go_wp2_with fail
          go_at_call 10
          refine (HST.out _ HT.out).mono ?_
          rintro e V ⟨rfl, hN⟩; have hX := hX.keep hN; have hB := below_up hB hN; have HT := Lib.hid (Tx.tab_below HT.out hN); have HM := Lib.hid (HM.out.below hN); obtain ⟨c0, c1⟩ := hX.two; clear hN
          go_wp2_with fail
          go_at_call 23
          refine (HRS.out _).mono ?_
          rintro e V ⟨rfl, hN⟩; have hX := hX.keep hN; have hB := below_up hB hN; have HT := Lib.hid (Tx.tab_below HT.out hN); have HM := Lib.hid (HM.out.below hN); obtain ⟨c0, c1⟩ := hX.two; clear hN
          go_wp2_with fail
          go_at_call 12
          refine (HPL.out _ HT.out).mono ?_
          rintro e V ⟨rfl, hN⟩; have hX := hX.keep hN; have hB := below_up hB hN; have HT := Lib.hid (Tx.tab_below HT.out hN); have HM := Lib.hid (HM.out.below hN); obtain ⟨c0, c1⟩ := hX.two; clear hN
          go_wp2_with fail
          go_at_call 25
          refine (HRP.out _).mono ?_
          rintro e V ⟨rfl, hN⟩; have hX := hX.keep hN; have hB := below_up hB hN; have HT := Lib.hid (Tx.tab_below HT.out hN); have HM := Lib.hid (HM.out.below hN); obtain ⟨c0, c1⟩ := hX.two; clear hN
          go_wp2_with fail
          go_at_call 29
          refine (HSX.out _ HT.out HM.out).mono ?_
          rintro e V ⟨rfl, hN⟩; have hX := hX.keep hN; have hB := below_up hB hN; have HT := Lib.hid (Tx.tab_below HT.out hN); have HM := Lib.hid (HM.out.below hN); obtain ⟨c0, c1⟩ := hX.two; clear hN
          go_wp2_with fail
          go_at_call 27
          refine (HSP.out _ HM.out).mono ?_
          rintro e V ⟨rfl, hN⟩; have hX := hX.keep hN; have hB := below_up hB hN; have HT := Lib.hid (Tx.tab_below HT.out hN); have HM := Lib.hid (HM.out.below hN); obtain ⟨c0, c1⟩ := hX.two; clear hN
          have hlt := hX.lt
          go_wp2_with fail
          go_ret
          exact ⟨rfl, below_allocs hB _⟩
        · have HST := Lib.hid (HSN.out hs)
          clear hs hp
          obtain ⟨W1, hW1, hX, hz, hB⟩ := box w #[.int .i64 F, .int .i64 T] 45
          have HW1 := Lib.hid hW1
          have HT := Lib.hid (Tx.tab_below HT0.out hB)
          have HM := Lib.hid (HM0.out.below hB)
          obtain ⟨c0, c1⟩ := hX.two
          clear hW1
          go_enter Tryd.func9, Tryd.ntmps9
          go_wp2_with fail
          rw [HW1.out]
          go_at_call 14
          refine (awakeWhen_is _ HT.out).mono ?_
          rintro e V ⟨rfl, hN⟩; have hX := hX.keep hN; have hB := below_up hB hN; have HT := Lib.hid (Tx.tab_below HT.out hN); have HM := Lib.hid (HM.out.below hN); obtain ⟨c0, c1⟩ := hX.two; clear hN
          go_wp2_with fail
          go_at_call 31
          refine (HDA.out _).mono ?_
          rintro e V ⟨rfl, hN⟩; have hX := hX.keep hN; have hB := below_up hB hN; have HT := Lib.hid (Tx.tab_below HT.out hN); have HM := Lib.hid (HM.out.below hN); obtain ⟨c0, c1⟩ := hX.two; clear hN
          -- the date's box
          obtain ⟨Wd, hWd, hD, hzd, hN⟩ := box V #[.int .i64 0, .int .i64 0, .int .i64 0] 56
          have HWd := Lib.hid hWd
          have hX := hX.keep hN
          have hB := below_up hB hN
          have HT := Lib.hid (Tx.tab_below HT.out hN)
          have HM := Lib.hid (HM.out.below hN)
          obtain ⟨c0, c1⟩ := hX.two
          obtain ⟨d0, d1, d2⟩ := hD.three
          clear hN hWd
          go_wp2_with fail
          rw [HWd.out]
          go_wp2_with fail
          go_at_call 10
          refine (HST.out _ HT.out).mono ?_
          rintro e V ⟨rfl, hN⟩; have hX := hX.keep hN; have hB := below_up hB hN; have HT := Lib.hid (Tx.tab_below HT.out hN); have HM := Lib.hid (HM.out.below hN); obtain ⟨c0, c1⟩ := hX.two; clear hN
          go_wp2_with fail
          go_at_call 12
          refine (HPL.out _ HT.out).mono ?_
          rintro e V ⟨rfl, hN⟩; have hX := hX.keep hN; have hB := below_up hB hN; have HT := Lib.hid (Tx.tab_below HT.out hN); have HM := Lib.hid (HM.out.below hN); obtain ⟨c0, c1⟩ := hX.two; clear hN
          go_wp2_with fail
          go_at_call 25
          refine (HRP.out _).mono ?_
          rintro e V ⟨rfl, hN⟩; have hX := hX.keep hN; have hB := below_up hB hN; have HT := Lib.hid (Tx.tab_below HT.out hN); have HM := Lib.hid (HM.out.below hN); obtain ⟨c0, c1⟩ := hX.two; clear hN
          go_wp2_with fail
          go_at_call 29
          refine (HSX.out _ HT.out HM.out).mono ?_
          rintro e V ⟨rfl, hN⟩; have hX := hX.keep hN; have hB := below_up hB hN; have HT := Lib.hid (Tx.tab_below HT.out hN); have HM := Lib.hid (HM.out.below hN); obtain ⟨c0, c1⟩ := hX.two; clear hN
          go_wp2_with fail
          go_at_call 27
          refine (HSP.out _ HM.out).mono ?_
          rintro e V ⟨rfl, hN⟩; have hX := hX.keep hN; have hB := below_up hB hN; have HT := Lib.hid (Tx.tab_below HT.out hN); have HM := Lib.hid (HM.out.below hN); obtain ⟨c0, c1⟩ := hX.two; clear hN
          have hlt := hX.lt
          go_wp2_with fail
          go_ret
          exact ⟨rfl, below_allocs hB _⟩
      · have HPL := Lib.hid (HPN.out hp)
        by_cases hs : Tx.StOk t z
        · exact absurd ((Ev.mom_iff _).2 hs.1) hp
        · have HST := Lib.hid (HSN.out hs)
          clear hs hp
          obtain ⟨W1, hW1, hX, hz, hB⟩ := box w #[.int .i64 F, .int .i64 T] 45
          have HW1 := Lib.hid hW1
          have HT := Lib.hid (Tx.tab_below HT0.out hB)
          have HM := Lib.hid (HM0.out.below hB)
          obtain ⟨c0, c1⟩ := hX.two
          clear hW1
          go_enter Tryd.func9, Tryd.ntmps9
          go_wp2_with fail
          rw [HW1.out]
          go_at_call 14
          refine (awakeWhen_is _ HT.out).mono ?_
          rintro e V ⟨rfl, hN⟩; have hX := hX.keep hN; have hB := below_up hB hN; have HT := Lib.hid (Tx.tab_below HT.out hN); have HM := Lib.hid (HM.out.below hN); obtain ⟨c0, c1⟩ := hX.two; clear hN
          go_wp2_with fail
          go_at_call 31
          refine (HDA.out _).mono ?_
          rintro e V ⟨rfl, hN⟩; have hX := hX.keep hN; have hB := below_up hB hN; have HT := Lib.hid (Tx.tab_below HT.out hN); have HM := Lib.hid (HM.out.below hN); obtain ⟨c0, c1⟩ := hX.two; clear hN
          -- the date's box
          obtain ⟨Wd, hWd, hD, hzd, hN⟩ := box V #[.int .i64 0, .int .i64 0, .int .i64 0] 56
          have HWd := Lib.hid hWd
          have hX := hX.keep hN
          have hB := below_up hB hN
          have HT := Lib.hid (Tx.tab_below HT.out hN)
          have HM := Lib.hid (HM.out.below hN)
          obtain ⟨c0, c1⟩ := hX.two
          obtain ⟨d0, d1, d2⟩ := hD.three
          clear hN hWd
          go_wp2_with fail
          rw [HWd.out]
          go_wp2_with fail
          go_at_call 10
          refine (HST.out _ HT.out).mono ?_
          rintro e V ⟨rfl, hN⟩; have hX := hX.keep hN; have hB := below_up hB hN; have HT := Lib.hid (Tx.tab_below HT.out hN); have HM := Lib.hid (HM.out.below hN); obtain ⟨c0, c1⟩ := hX.two; clear hN
          go_wp2_with fail
          go_at_call 12
          refine (HPL.out _ HT.out).mono ?_
          rintro e V ⟨rfl, hN⟩; have hX := hX.keep hN; have hB := below_up hB hN; have HT := Lib.hid (Tx.tab_below HT.out hN); have HM := Lib.hid (HM.out.below hN); obtain ⟨c0, c1⟩ := hX.two; clear hN
          go_wp2_with fail
          go_at_call 29
          refine (HSX.out _ HT.out HM.out).mono ?_
          rintro e V ⟨rfl, hN⟩; have hX := hX.keep hN; have hB := below_up hB hN; have HT := Lib.hid (Tx.tab_below HT.out hN); have HM := Lib.hid (HM.out.below hN); obtain ⟨c0, c1⟩ := hX.two; clear hN
          go_wp2_with fail
          go_at_call 27
          refine (HSP.out _ HM.out).mono ?_
          rintro e V ⟨rfl, hN⟩; have hX := hX.keep hN; have hB := below_up hB hN; have HT := Lib.hid (Tx.tab_below HT.out hN); have HM := Lib.hid (HM.out.below hN); obtain ⟨c0, c1⟩ := hX.two; clear hN
          have hlt := hX.lt
          go_wp2_with fail
          go_ret
          exact ⟨rfl, below_allocs hB _⟩
    · by_cases hp : Ev.mom t = true
      · have HPL := Lib.hid (HPY.out hp).1
        have HRP := Lib.hid (HPY.out hp).2
        by_cases hs : Tx.StOk t z
        · have HST := Lib.hid (HSY.out hs).1
          have HRS := Lib.hid (HSY.out hs).2
          clear hs hp
          obtain ⟨W1, hW1, hX, hz, hB⟩ := box w #[.int .i64 F, .int .i64 T] 45
          have HW1 := Lib.hid hW1
          have HT := Lib.hid (Tx.tab_below HT0.out hB)
          have HM := Lib.hid (HM0.out.below hB)
          obtain ⟨c0, c1⟩ := hX.two
          clear hW1
          go_enter Tryd.func9, Tryd.ntmps9
          go_wp2_with fail
          rw [HW1.out]
          go_at_call 14
          refine (awakeWhen_is _ HT.out).mono ?_
          rintro e V ⟨rfl, hN⟩; have hX := hX.keep hN; have hB := below_up hB hN; have HT := Lib.hid (Tx.tab_below HT.out hN); have HM := Lib.hid (HM.out.below hN); obtain ⟨c0, c1⟩ := hX.two; clear hN
          go_wp2_with fail
          go_at_call 31
          refine (HDA.out _).mono ?_
          rintro e V ⟨rfl, hN⟩; have hX := hX.keep hN; have hB := below_up hB hN; have HT := Lib.hid (Tx.tab_below HT.out hN); have HM := Lib.hid (HM.out.below hN); obtain ⟨c0, c1⟩ := hX.two; clear hN
          -- the date's box
          obtain ⟨Wd, hWd, hD, hzd, hN⟩ := box V #[.int .i64 0, .int .i64 0, .int .i64 0] 56
          have HWd := Lib.hid hWd
          have hX := hX.keep hN
          have hB := below_up hB hN
          have HT := Lib.hid (Tx.tab_below HT.out hN)
          have HM := Lib.hid (HM.out.below hN)
          obtain ⟨c0, c1⟩ := hX.two
          obtain ⟨d0, d1, d2⟩ := hD.three
          clear hN hWd
          go_wp2_with fail
          rw [HWd.out]
          go_wp2_with fail
          go_at_call 10
          refine (HST.out _ HT.out).mono ?_
          rintro e V ⟨rfl, hN⟩; have hX := hX.keep hN; have hB := below_up hB hN; have HT := Lib.hid (Tx.tab_below HT.out hN); have HM := Lib.hid (HM.out.below hN); obtain ⟨c0, c1⟩ := hX.two; clear hN
          go_wp2_with fail
          go_at_call 23
          refine (HRS.out _).mono ?_
          rintro e V ⟨rfl, hN⟩; have hX := hX.keep hN; have hB := below_up hB hN; have HT := Lib.hid (Tx.tab_below HT.out hN); have HM := Lib.hid (HM.out.below hN); obtain ⟨c0, c1⟩ := hX.two; clear hN
          go_wp2_with fail
          go_at_call 12
          refine (HPL.out _ HT.out).mono ?_
          rintro e V ⟨rfl, hN⟩; have hX := hX.keep hN; have hB := below_up hB hN; have HT := Lib.hid (Tx.tab_below HT.out hN); have HM := Lib.hid (HM.out.below hN); obtain ⟨c0, c1⟩ := hX.two; clear hN
          go_wp2_with fail
          go_at_call 25
          refine (HRP.out _).mono ?_
          rintro e V ⟨rfl, hN⟩; have hX := hX.keep hN; have hB := below_up hB hN; have HT := Lib.hid (Tx.tab_below HT.out hN); have HM := Lib.hid (HM.out.below hN); obtain ⟨c0, c1⟩ := hX.two; clear hN
          go_wp2_with fail
          go_at_call 29
          refine (HSX.out _ HT.out HM.out).mono ?_
          rintro e V ⟨rfl, hN⟩; have hX := hX.keep hN; have hB := below_up hB hN; have HT := Lib.hid (Tx.tab_below HT.out hN); have HM := Lib.hid (HM.out.below hN); obtain ⟨c0, c1⟩ := hX.two; clear hN
          go_wp2_with fail
          go_ret
          exact ⟨rfl, hB⟩
        · have HST := Lib.hid (HSN.out hs)
          clear hs hp
          obtain ⟨W1, hW1, hX, hz, hB⟩ := box w #[.int .i64 F, .int .i64 T] 45
          have HW1 := Lib.hid hW1
          have HT := Lib.hid (Tx.tab_below HT0.out hB)
          have HM := Lib.hid (HM0.out.below hB)
          obtain ⟨c0, c1⟩ := hX.two
          clear hW1
          go_enter Tryd.func9, Tryd.ntmps9
          go_wp2_with fail
          rw [HW1.out]
          go_at_call 14
          refine (awakeWhen_is _ HT.out).mono ?_
          rintro e V ⟨rfl, hN⟩; have hX := hX.keep hN; have hB := below_up hB hN; have HT := Lib.hid (Tx.tab_below HT.out hN); have HM := Lib.hid (HM.out.below hN); obtain ⟨c0, c1⟩ := hX.two; clear hN
          go_wp2_with fail
          go_at_call 31
          refine (HDA.out _).mono ?_
          rintro e V ⟨rfl, hN⟩; have hX := hX.keep hN; have hB := below_up hB hN; have HT := Lib.hid (Tx.tab_below HT.out hN); have HM := Lib.hid (HM.out.below hN); obtain ⟨c0, c1⟩ := hX.two; clear hN
          -- the date's box
          obtain ⟨Wd, hWd, hD, hzd, hN⟩ := box V #[.int .i64 0, .int .i64 0, .int .i64 0] 56
          have HWd := Lib.hid hWd
          have hX := hX.keep hN
          have hB := below_up hB hN
          have HT := Lib.hid (Tx.tab_below HT.out hN)
          have HM := Lib.hid (HM.out.below hN)
          obtain ⟨c0, c1⟩ := hX.two
          obtain ⟨d0, d1, d2⟩ := hD.three
          clear hN hWd
          go_wp2_with fail
          rw [HWd.out]
          go_wp2_with fail
          go_at_call 10
          refine (HST.out _ HT.out).mono ?_
          rintro e V ⟨rfl, hN⟩; have hX := hX.keep hN; have hB := below_up hB hN; have HT := Lib.hid (Tx.tab_below HT.out hN); have HM := Lib.hid (HM.out.below hN); obtain ⟨c0, c1⟩ := hX.two; clear hN
          go_wp2_with fail
          go_at_call 12
          refine (HPL.out _ HT.out).mono ?_
          rintro e V ⟨rfl, hN⟩; have hX := hX.keep hN; have hB := below_up hB hN; have HT := Lib.hid (Tx.tab_below HT.out hN); have HM := Lib.hid (HM.out.below hN); obtain ⟨c0, c1⟩ := hX.two; clear hN
          go_wp2_with fail
          go_at_call 25
          refine (HRP.out _).mono ?_
          rintro e V ⟨rfl, hN⟩; have hX := hX.keep hN; have hB := below_up hB hN; have HT := Lib.hid (Tx.tab_below HT.out hN); have HM := Lib.hid (HM.out.below hN); obtain ⟨c0, c1⟩ := hX.two; clear hN
          go_wp2_with fail
          go_at_call 29
          refine (HSX.out _ HT.out HM.out).mono ?_
          rintro e V ⟨rfl, hN⟩; have hX := hX.keep hN; have hB := below_up hB hN; have HT := Lib.hid (Tx.tab_below HT.out hN); have HM := Lib.hid (HM.out.below hN); obtain ⟨c0, c1⟩ := hX.two; clear hN
          go_wp2_with fail
          go_ret
          exact ⟨rfl, hB⟩
      · have HPL := Lib.hid (HPN.out hp)
        by_cases hs : Tx.StOk t z
        · exact absurd ((Ev.mom_iff _).2 hs.1) hp
        · have HST := Lib.hid (HSN.out hs)
          clear hs hp
          obtain ⟨W1, hW1, hX, hz, hB⟩ := box w #[.int .i64 F, .int .i64 T] 45
          have HW1 := Lib.hid hW1
          have HT := Lib.hid (Tx.tab_below HT0.out hB)
          have HM := Lib.hid (HM0.out.below hB)
          obtain ⟨c0, c1⟩ := hX.two
          clear hW1
          go_enter Tryd.func9, Tryd.ntmps9
          go_wp2_with fail
          rw [HW1.out]
          go_at_call 14
          refine (awakeWhen_is _ HT.out).mono ?_
          rintro e V ⟨rfl, hN⟩; have hX := hX.keep hN; have hB := below_up hB hN; have HT := Lib.hid (Tx.tab_below HT.out hN); have HM := Lib.hid (HM.out.below hN); obtain ⟨c0, c1⟩ := hX.two; clear hN
          go_wp2_with fail
          go_at_call 31
          refine (HDA.out _).mono ?_
          rintro e V ⟨rfl, hN⟩; have hX := hX.keep hN; have hB := below_up hB hN; have HT := Lib.hid (Tx.tab_below HT.out hN); have HM := Lib.hid (HM.out.below hN); obtain ⟨c0, c1⟩ := hX.two; clear hN
          -- the date's box
          obtain ⟨Wd, hWd, hD, hzd, hN⟩ := box V #[.int .i64 0, .int .i64 0, .int .i64 0] 56
          have HWd := Lib.hid hWd
          have hX := hX.keep hN
          have hB := below_up hB hN
          have HT := Lib.hid (Tx.tab_below HT.out hN)
          have HM := Lib.hid (HM.out.below hN)
          obtain ⟨c0, c1⟩ := hX.two
          obtain ⟨d0, d1, d2⟩ := hD.three
          clear hN hWd
          go_wp2_with fail
          rw [HWd.out]
          go_wp2_with fail
          go_at_call 10
          refine (HST.out _ HT.out).mono ?_
          rintro e V ⟨rfl, hN⟩; have hX := hX.keep hN; have hB := below_up hB hN; have HT := Lib.hid (Tx.tab_below HT.out hN); have HM := Lib.hid (HM.out.below hN); obtain ⟨c0, c1⟩ := hX.two; clear hN
          go_wp2_with fail
          go_at_call 12
          refine (HPL.out _ HT.out).mono ?_
          rintro e V ⟨rfl, hN⟩; have hX := hX.keep hN; have hB := below_up hB hN; have HT := Lib.hid (Tx.tab_below HT.out hN); have HM := Lib.hid (HM.out.below hN); obtain ⟨c0, c1⟩ := hX.two; clear hN
          go_wp2_with fail
          go_at_call 29
          refine (HSX.out _ HT.out HM.out).mono ?_
          rintro e V ⟨rfl, hN⟩; have hX := hX.keep hN; have hB := below_up hB hN; have HT := Lib.hid (Tx.tab_below HT.out hN); have HM := Lib.hid (HM.out.below hN); obtain ⟨c0, c1⟩ := hX.two; clear hN
          go_wp2_with fail
          go_ret
          exact ⟨rfl, hB⟩
end Go.Proofs.YthldlffkgafgaaaDoor
