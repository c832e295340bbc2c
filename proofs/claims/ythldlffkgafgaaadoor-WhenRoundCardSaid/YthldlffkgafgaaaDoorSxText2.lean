/- SpanText: the candidates are gathered, the best is taken. -/
import Derived.Test.YthldlffkgafgaaaDoorSxText
namespace Go.Proofs.YthldlffkgafgaaaDoor
open Go.RowKit Go.Sort Go.Shelf
set_option linter.unusedVariables false
theorem StrRow.of_own {w : World} {base : Nat} {e : TypeId} {g n cap : Nat} {l : List (List UInt8)} (h : w.ownsRow base e 1 (.slice (some ⟨g, 0, none⟩) n cap) n (l.map strV)) : StrRow w g l := by
  refine ⟨(h.lt g rfl).2, fun i hi => ?_⟩
  have := h.cells (g := g) rfl i (strV (l.getD i [])) (by rw [List.getElem?_map, List.getD_eq_getElem?_getD, List.getElem?_eq_getElem hi]; rfl)
  have hadd : (⟨g, 0, none⟩ : Addr).add i = ⟨g, i, none⟩ := by unfold Addr.add; split <;> simp_all
  rwa [hadd] at this
namespace Sx
theorem candP_len {u1 u2 u3 v1 v2 v3 : List UInt8} (h1 : u1.length ≤ 10) (h2 : u2.length ≤ 10) (h3 : u3.length ≤ 10) (g1 : v1.length ≤ 10) (g2 : v2.length ≤ 10) (g3 : v3.length ≤ 10) : ∀ t ∈ candP u1 u2 u3 v1 v2 v3, t.length ≤ 22 := by
  intro t ht
  simp only [candP, List.mem_cons, List.not_mem_nil, or_false] at ht
  rcases ht with h | h | h | h | h | h | h | h | h | h | h | h <;> (rw [h]; (try simp [dots]); omega)
theorem best_take {ok : List UInt8 → Bool} {P : List (List UInt8)} {j : Nat} {s : List UInt8} (h : P[j]? = some s) : best ok (P.take (j + 1)) = step ok (best ok (P.take j)) s := by
  obtain ⟨hj, he⟩ := List.getElem?_eq_some_iff.1 h
  rw [List.take_succ_eq_append_getElem hj, best_snoc, he]
theorem step_no {F T : Int} {b s : List UInt8} (h : ¬ Sp.span s = (F, T, 0)) : step (ok F T) b s = b := by
  unfold step
  have : ok F T s = false := by rw [← Bool.not_eq_true, ok_iff]; exact h
  rw [this, if_neg (by simp)]
theorem step_nil {F T : Int} {s : List UInt8} (h : Sp.span s = (F, T, 0)) : step (ok F T) [] s = s := by
  unfold step
  rw [(ok_iff F T s).2 h, if_pos (by simp)]
theorem step_lt {F T : Int} {b s : List UInt8} (h : Sp.span s = (F, T, 0)) (hl : lt s b = true) : step (ok F T) b s = s := by
  unfold step
  rw [(ok_iff F T s).2 h, hl, if_pos (by simp)]
theorem step_ge {F T : Int} {b s : List UInt8} (hb : b ≠ []) (hl : lt s b = false) : step (ok F T) b s = b := by
  unfold step
  have hbe : b.isEmpty = false := by cases b with | nil => exact absurd rfl hb | cons => rfl
  rw [hl, hbe, if_neg (by simp)]
end Sx
set_option maxRecDepth 100000 in
set_option maxHeartbeats 8000000 in
theorem spanText_ok (F T : Int) (a b : Sp.D3) (ha : Sp.vld a = true) (hb : Sp.vld b = true) (hF : Ev.mom F = true) (hT : Ev.mom T = true) (h : F ≤ T) (hF0 : F % 86400 = 0) (hT0 : (T + 1) % 86400 = 0) (hna : Sp.num a = F / 86400) (hnb : Sp.num b = T / 86400) (w : World) (ht : Tx.Tab w) (hmx : Mx w) :
    Calls Tryd.prog 29 #[.agg #[.int .i64 F, .int .i64 T]] w fun e w' => e = .returned (.tuple #[.string (Tx.mk (Sx.text F T a b)), .int .i64 0]) ∧ Below w.heap.size w w' := by
  have hf := (Ev.mom_iff _).1 hF
  have htt := (Ev.mom_iff _).1 hT
  have HMF := Lib.hid hF
  have HMT := Lib.hid hT
  have hlt : ¬ T < F := by omega
  obtain ⟨ya, ma, da⟩ := a
  obtain ⟨yb, mb, db⟩ := b
  -- the dates' contracts
  have HDA : Hid (∀ W, Calls Tryd.prog 31 #[.int .i64 (F / 86400)] W fun e w' => e = .returned (.tuple #[.agg #[.int .i64 ya, .int .i64 ma, .int .i64 da], .int .i64 0]) ∧ Below W.heap.size W w') := fun W => by
    refine (dateOf_yes (F / 86400) W (by omega) (by omega)).mono ?_
    rintro e w' ⟨y, m, d, hv, hn, rfl, hB⟩
    obtain ⟨rfl, rfl, rfl⟩ := Cal.num_inj _ _ _ _ _ _ hv ha (hn.trans hna.symm)
    exact ⟨rfl, hB⟩
  have HDB : Hid (∀ W, Calls Tryd.prog 31 #[.int .i64 (T / 86400)] W fun e w' => e = .returned (.tuple #[.agg #[.int .i64 yb, .int .i64 mb, .int .i64 db], .int .i64 0]) ∧ Below W.heap.size W w') := fun W => by
    refine (dateOf_yes (T / 86400) W (by omega) (by omega)).mono ?_
    rintro e w' ⟨y, m, d, hv, hn, rfl, hB⟩
    obtain ⟨rfl, rfl, rfl⟩ := Cal.num_inj _ _ _ _ _ _ hv hb (hn.trans hnb.symm)
    exact ⟨rfl, hB⟩
  have HUA : Hid (∀ W, Tx.Tab W → Calls Tryd.prog 65 #[.agg #[.int .i64 ya, .int .i64 ma, .int .i64 da]] W fun e w' => ∃ g, e = .returned (.slice (some ⟨g, 0, none⟩) 3 3) ∧ W.heap.size ≤ g ∧ StrRow w' g [Sx.u1 (ya, ma, da), Sx.u2 (ya, ma, da), Sx.u3 (ya, ma, da)] ∧ Below W.heap.size W w') := fun W hW => units_is (ya, ma, da) ha W hW
  have HUB : Hid (∀ W, Tx.Tab W → Calls Tryd.prog 65 #[.agg #[.int .i64 yb, .int .i64 mb, .int .i64 db]] W fun e w' => ∃ g, e = .returned (.slice (some ⟨g, 0, none⟩) 3 3) ∧ W.heap.size ≤ g ∧ StrRow w' g [Sx.u1 (yb, mb, db), Sx.u2 (yb, mb, db), Sx.u3 (yb, mb, db)] ∧ Below W.heap.size W w') := fun W hW => units_is (yb, mb, db) hb W hW
  obtain ⟨al1, al2, al3⟩ := Sx.lens ha
  obtain ⟨bl1, bl2, bl3⟩ := Sx.lens hb
  have hul := Sx.U_len (u1 := Sx.u1 (ya, ma, da)) (u2 := Sx.u2 (ya, ma, da)) (u3 := Sx.u3 (ya, ma, da)) (by omega) (by omega) (by omega)
  have hvl := Sx.U_len (u1 := Sx.u1 (yb, mb, db)) (u2 := Sx.u2 (yb, mb, db)) (u3 := Sx.u3 (yb, mb, db)) (by omega) (by omega) (by omega)
  have hP1 := fun k hk => Sx.candP_one (Sx.u1 (ya, ma, da)) (Sx.u2 (ya, ma, da)) (Sx.u3 (ya, ma, da)) (Sx.u1 (yb, mb, db)) (Sx.u2 (yb, mb, db)) (Sx.u3 (yb, mb, db)) k hk
  have hP2 := fun k j hk hj => Sx.candP_two (Sx.u1 (ya, ma, da)) (Sx.u2 (ya, ma, da)) (Sx.u3 (ya, ma, da)) (Sx.u1 (yb, mb, db)) (Sx.u2 (yb, mb, db)) (Sx.u3 (yb, mb, db)) k j hk hj
  have hP12 : (Sx.candP (Sx.u1 (ya, ma, da)) (Sx.u2 (ya, ma, da)) (Sx.u3 (ya, ma, da)) (Sx.u1 (yb, mb, db)) (Sx.u2 (yb, mb, db)) (Sx.u3 (yb, mb, db))).length = 12 := rfl
  have hPL := Sx.candP_len (u1 := Sx.u1 (ya, ma, da)) (u2 := Sx.u2 (ya, ma, da)) (u3 := Sx.u3 (ya, ma, da)) (v1 := Sx.u1 (yb, mb, db)) (v2 := Sx.u2 (yb, mb, db)) (v3 := Sx.u3 (yb, mb, db)) (by omega) (by omega) (by omega) (by omega) (by omega) (by omega)
  unfold Sx.text
  generalize Sx.candP (Sx.u1 (ya, ma, da)) (Sx.u2 (ya, ma, da)) (Sx.u3 (ya, ma, da)) (Sx.u1 (yb, mb, db)) (Sx.u2 (yb, mb, db)) (Sx.u3 (yb, mb, db)) = P at *
  generalize Sx.u1 (ya, ma, da) = a1 at *
  generalize Sx.u2 (ya, ma, da) = a2 at *
  generalize Sx.u3 (ya, ma, da) = a3 at *
  generalize Sx.u1 (yb, mb, db) = b1 at *
  generalize Sx.u2 (yb, mb, db) = b2 at *
  generalize Sx.u3 (yb, mb, db) = b3 at *
  have HP1 := Lib.hid hP1
  have HP2 := Lib.hid hP2
  have HP12 := Lib.hid hP12
  have HPL := Lib.hid hPL
  have HUL := Lib.hid hul
  have HVL := Lib.hid hvl
  obtain ⟨i0, hi, hz0, hz1', hz2⟩ := info_parts infoStr
  have HI0 := Lib.hid hi; have HI1 := Lib.hid hz0; have HI2 := Lib.hid hz1'; have HI3 := Lib.hid hz2
  have HT := Lib.hid ht
  have HM := Lib.hid hmx
  clear hF hT ha hb hna hnb al1 al2 al3 bl1 bl2 bl3 hul hvl hP1 hP2 hP12 hPL hi hz0 hz1' hz2 ht hmx
  obtain ⟨W1, hW1, hX1, hz1, hB1⟩ := box w #[.int .i64 F, .int .i64 T] 45
  have HW1 := Lib.hid hW1
  obtain ⟨c0, c1⟩ := hX1.two
  clear hW1
  go_enter Tryd.func29, Tryd.ntmps29
  go_wp2_with fail
  rw [HW1.out]
  go_wp2_with (go_at_call 33; first | (with_reducible refine (isMoment_is _ _ HMF.out _).mono ?_; rintro e w2 ⟨rfl, rfl⟩) | (with_reducible refine (isMoment_is _ _ HMT.out _).mono ?_; rintro e w2 ⟨rfl, rfl⟩))
  go_at_call 31
  refine (HDA.out _).mono ?_
  rintro e w2 ⟨rfl, hB2⟩
  obtain ⟨W3, hW3, hA3, hz3, hB3⟩ := box w2 #[.int .i64 ya, .int .i64 ma, .int .i64 da] 56
  have HW3 := Lib.hid hW3
  have hX3 := (hX1.keep hB2).keep hB3
  have hBr := below_up (below_up hB1 hB2) hB3
  have HT3 := Lib.hid (Tx.tab_below HT.out hBr)
  have HM3 := Lib.hid (HM.out.below hBr)
  clear hW3 c0 c1
  obtain ⟨c0, c1⟩ := hX3.two
  have hlt2 : w.heap.size < w2.heap.size := by have := hB2.size; omega
  have hx2 := (hX1.keep hB2).two
  obtain ⟨x0, x1⟩ := hx2
  go_wp2_with fail
  rw [HW3.out]
  go_at_call 31
  refine (HDB.out _).mono ?_
  rintro e w4 ⟨rfl, hB4⟩
  obtain ⟨W5, hW5, hD5, hz5, hB5⟩ := box w4 #[.int .i64 yb, .int .i64 mb, .int .i64 db] 56
  have HW5 := Lib.hid hW5
  have hA5 := (hA3.keep hB4).keep hB5
  have hX5 := (hX3.keep hB4).keep hB5
  have hBr5 := below_up (below_up hBr hB4) hB5
  have HT5 := Lib.hid (Tx.tab_below HT.out hBr5)
  clear hW5 c0 c1 x0 x1
  obtain ⟨d0, d1, d2⟩ := (hA3.keep hB4).three
  have hlt4 : w2.heap.size < w4.heap.size := by have := hB4.size; omega
  go_wp2_with fail
  rw [HW5.out]
  go_at_call 65
  refine (HUA.out _ HT5.out).mono ?_
  rintro e w6 ⟨ga, rfl, hga, hUA, hB6⟩
  have hD6 := hD5.keep hB6
  have hX6 := hX5.keep hB6
  have hBr6 := below_up hBr5 hB6
  have HT6 := Lib.hid (Tx.tab_below HT.out hBr6)
  have HM6 := Lib.hid (HM.out.below hBr6)
  clear d0 d1 d2 hA3 hA5 hX3 hX5 hX1 hD5
  go_wp2_with fail
  go_loopg [8, 64] 3 (fun gk v i wr => ∃ k : Nat, k ≤ 3 ∧ gk = 3 - k ∧ i = .int .i64 k ∧ Sx.Row w6.heap.size w6 P (4 * k) v wr)
  case atStart => exact ⟨0, by omega, rfl, rfl, World.ownsRow_nil _ _ _ _, Below.refl _ _⟩
  case round =>
    obtain ⟨k, hk, rfl, rfl, hrow⟩ := hrel
    obtain ⟨hown, hB⟩ := hrow
    by_cases hk3 : k < 3
    · have hkI : (k : Int) < 3 := by omega
      have HO1 := Lib.hid (HP1.out k hk3)
      have hcell := (hUA.keep hB).2 k (by simpa using hk3)
      have hcell' : wr.cell? ⟨ga, k, none⟩ = some (.string (Tx.mk (Sx.U a1 a2 a3 k))) := hcell
      have hUl := HUL.out k
      clear hcell
      obtain ⟨uk, huk⟩ : ∃ uk, Sx.U a1 a2 a3 k = uk := ⟨_, rfl⟩
      rw [huk] at HO1 hcell' hUl
      have HUK := Lib.hid huk
      clear huk
      have hukz := Tx.mk_size uk
      have hBsz := hB.size
      go_wp2_with (first
        | (at_builtin; refine wpList_append_own2 _ rfl _ _ 91 rfl w6.heap.size 9 i0 (.string ByteArray.empty) 1 16 Tryd.underlying91 HI0.out HI1.out HI2.out HI3.out rfl (by decide) _ _ _ rfl (hown.alloc _) ⟨wr.heap.size, 0, none⟩ 1 1 [strV uk] rfl (by decide) rfl (cell_one_new _ _ _) (by simp [strV, Value.oneCell']) (by unfold maxLen; omega) (by omega) (by simp; have := hB.size; omega) ?_; intro g7 cap7 w7 hown7 hgrow7 hnew7; have hB7 := (below_allocs hB (.cells #[.string (Tx.mk uk)] 9)).grown hgrow7 (by simp; omega) (fun q e => (hown.lt q e).1); obtain ⟨d0, d1, d2⟩ := (hD6.keep hB7).three)
        | (go_at_call 65; refine (HUB.out _ (Tx.tab_below HT6.out hB7)).mono ?_; rintro e w8 ⟨gb, rfl, hgb, hVB, hB8⟩))
      have hown8 : w8.ownsRow w6.heap.size 9 1 (.slice (some ⟨g7, 0, none⟩) (4 * k + 1) cap7) (4 * k + 1) ((P.take (4 * k + 1)).map strV) := by
        rw [Sx.take_snoc HO1.out]; exact own_keep hown7 hB8
      have hg7 := (hown7.lt g7 rfl).2
      have hB8' := below_up hB7 hB8
      clear hown7 hgrow7 hnew7 hown hcell' d0 d1 d2
      go_loopg [8, 75] 3 (fun gk v i wq => ∃ j : Nat, j ≤ 3 ∧ gk = 3 - j ∧ i = .int .i64 j ∧ Sx.Row w6.heap.size w6 P (4 * k + 1 + j) v wq ∧ StrRow wq gb [b1, b2, b3] ∧ v.ownBlock ≠ some gb)
      case atStart => exact ⟨0, by omega, rfl, rfl, ⟨hown8, hB8'⟩, hVB, by show some g7 ≠ some gb; intro e; injection e with e; omega⟩
      case round =>
        obtain ⟨j, hj, rfl, rfl, hrow, hVq, hne⟩ := hrel
        obtain ⟨hown, hB⟩ := hrow
        by_cases hj3 : j < 3
        · have hjI : (j : Int) < 3 := by omega
          have HO2 := Lib.hid (HP2.out k j hk3 hj3)
          rw [HUK.out] at HO2
          have hcell' : wr.cell? ⟨gb, j, none⟩ = some (.string (Tx.mk (Sx.U b1 b2 b3 j))) := hVq.2 j (by simpa using hj3)
          have hVl := HVL.out j
          generalize Sx.U b1 b2 b3 j = vj at *
          have hvjz := Tx.mk_size vj
          have hcat1 : Tx.mk uk ++ ByteArray.mk #[46, 46] = Tx.mk (uk ++ Sx.dots) := Tx.mk_append uk Sx.dots
          have hcat2 : Tx.mk (uk ++ Sx.dots) ++ Tx.mk vj = Tx.mk (uk ++ Sx.dots ++ vj) := Tx.mk_append _ vj
          have hcz := Tx.mk_size (uk ++ Sx.dots)
          rw [List.length_append, show Sx.dots.length = 2 from rfl] at hcz
          have hBsz' := hB.size
          generalize uk ++ Sx.dots ++ vj = cc at *
          generalize uk ++ Sx.dots = cd at *
          go_wp2_with (first
            | (at_builtin; refine wpList_append_own2 _ rfl _ _ 91 rfl w6.heap.size 9 i0 (.string ByteArray.empty) 1 16 Tryd.underlying91 HI0.out HI1.out HI2.out HI3.out rfl (by decide) _ _ _ rfl (hown.alloc _) ⟨wr.heap.size, 0, none⟩ 1 1 [strV cc] rfl (by decide) rfl (cell_one_new _ _ _) (by simp [strV, Value.oneCell']) (by unfold maxLen; omega) (by omega) (by simp; have := hB.size; omega) ?_; intro g9 cap9 w9 hown9 hgrow9 hnew9))
          have hB9 := (below_allocs hB (.cells #[.string (Tx.mk cc)] 9)).grown hgrow9 (by simp; omega) (fun q e => (hown.lt q e).1)
          have hV9 := (hVq.keep (below_allocs (Below.refl _ _) (.cells #[.string (Tx.mk cc)] 9))).grown hgrow9 (fun e => hne e.symm) hgrow9.size
          have hn9 : g9 ≠ gb := hnew9.ne (by have := hVq.1; simp; omega) hne
          have hown9' : w9.ownsRow w6.heap.size 9 1 (.slice (some ⟨g9, 0, none⟩) (4 * k + 1 + (j + 1)) cap9) (4 * k + 1 + (j + 1)) ((P.take (4 * k + 1 + (j + 1))).map strV) := by
            rw [show 4 * k + 1 + (j + 1) = (4 * k + 1 + j) + 1 by omega, Sx.take_snoc HO2.out]; exact hown9
          clear hown9 hgrow9 hnew9 hown hcell' hcat1 hcat2 hcz
          go_roundg (3 - (j + 1))
          case rel => exact ⟨j + 1, by omega, rfl, by go_num, ⟨hown9', hB9⟩, hV9, by show some g9 ≠ some gb; intro e; injection e with e; exact hn9 e⟩
          case measure => omega
        · obtain rfl : j = 3 := by omega
          clear hVq hne
          go_wp2_with fail
          go_roundg (3 - (k + 1))
          case rel => exact ⟨k + 1, by omega, rfl, by go_num, ⟨hown, hB⟩⟩
          case measure => omega
    · obtain rfl : k = 3 := by omega
      rw [show 4 * 3 = 12 from rfl, List.take_of_length_le (by rw [HP12.out]; exact Nat.le_refl _)] at hown
      rcases hown.2 with ⟨_, h0⟩ | ⟨gA, capA, cur, rfl, hbg, hrest⟩
      · omega
      have hAR := StrRow.of_own hown
      have hXA := hX6.keep hB
      have HMA := Lib.hid (HM6.out.below hB)
      have hBA := below_up hBr6 hB
      clear hUA hX6 hD6 hown hrest hbg hB
      generalize wr = wA at *
      obtain ⟨c0, c1⟩ := hXA.two
      go_wp2_with fail
      go_loopg [13, 90] 12 (fun gk v i wr => ∃ j : Nat, j ≤ 12 ∧ gk = 12 - j ∧ i = .int .i64 j ∧ v = .string (Tx.mk (Sx.best (Sx.ok F T) (P.take j))) ∧ Below wA.heap.size wA wr)
      case atStart => exact ⟨0, by omega, rfl, rfl, rfl, Below.refl _ _⟩
      case round =>
        obtain ⟨j, hj, rfl, rfl, rfl, hB⟩ := hrel
        by_cases hj3 : j < 12
        · have hjI : (j : Int) < 12 := by omega
          obtain ⟨s, hs⟩ : ∃ s, P[j]? = some s := ⟨_, List.getElem?_eq_getElem (by rw [HP12.out]; exact hj3)⟩
          have hsl : s.length ≤ 22 := HPL.out s (List.mem_of_getElem? hs)
          have hcell' : wr.cell? ⟨gA, j, none⟩ = some (.string (Tx.mk s)) := by
            have := (hAR.keep hB).2 j (by rw [HP12.out]; exact hj3)
            rwa [List.getD_eq_getElem?_getD, hs] at this
          have HBT := Lib.hid (Sx.best_take (ok := Sx.ok F T) hs)
          have HSP := Lib.hid (span_is s (by omega) wr (HMA.out.below hB))
          have hssz := Tx.mk_size s
          generalize Sx.best (Sx.ok F T) (P.take j) = b at *
          have hbsz := Tx.mk_size b
          obtain ⟨x0, x1⟩ := (hXA.keep hB).two
          clear hs
          by_cases hok : Sp.span s = (F, T, 0)
          · rw [hok] at HSP
            by_cases hb0 : b = []
            · subst hb0
              have HST := Lib.hid (Sx.step_nil hok)
              clear hok
              -- Span, the check
              go_wp2_with (go_at_call 27; refine HSP.out.mono ?_; rintro e w8 ⟨rfl, hB8⟩; have hB8' := below_up hB hB8; obtain ⟨y0, y1⟩ := ((hXA.keep hB).keep hB8).two; have hx8 := ((hXA.keep hB).keep hB8).lt)
              go_roundg (12 - (j + 1))
              case rel => exact ⟨j + 1, by omega, rfl, by go_num, by rw [HBT.out, HST.out], below_allocs hB8' _⟩
              case measure => omega
            · have hbe : b.isEmpty = false := by cases b with | nil => exact absurd rfl hb0 | cons => rfl
              have hbq : (b == []) = false := by simpa using hb0
              by_cases hl1 : s.length < b.length
              · have HST := Lib.hid (Sx.step_lt (b := b) hok ((Sx.lt_iff s b).2 (.inl hl1)))
                clear hok
                -- Span, the check
                go_wp2_with (go_at_call 27; refine HSP.out.mono ?_; rintro e w8 ⟨rfl, hB8⟩; have hB8' := below_up hB hB8; obtain ⟨y0, y1⟩ := ((hXA.keep hB).keep hB8).two; have hx8 := ((hXA.keep hB).keep hB8).lt)
                go_roundg (12 - (j + 1))
                case rel => exact ⟨j + 1, by omega, rfl, by go_num, by rw [HBT.out, HST.out], below_allocs hB8' _⟩
                case measure => omega
              · by_cases hl2 : s.length = b.length
                · have hle : ((s.length : Int) == (b.length : Int)) = true := by simp; omega
                  cases hbl : Op.bytesLess s b
                  · have HST := Lib.hid (Sx.step_ge (F := F) (T := T) hb0 (show Sx.lt s b = false by rw [← Bool.not_eq_true, Sx.lt_iff, hbl]; simp; omega))
                    clear hok
                    have HL2 := Lib.hid hl2
                    clear hl2
                    -- Span, the check
                    go_wp2_with (go_at_call 27; refine HSP.out.mono ?_; rintro e w8 ⟨rfl, hB8⟩; have hB8' := below_up hB hB8; obtain ⟨y0, y1⟩ := ((hXA.keep hB).keep hB8).two; have hx8 := ((hXA.keep hB).keep hB8).lt)
                    go_roundg (12 - (j + 1))
                    case rel => exact ⟨j + 1, by omega, rfl, by go_num, by rw [HBT.out, HST.out], below_allocs hB8' _⟩
                    case measure => omega
                  · have HST := Lib.hid (Sx.step_lt (b := b) hok ((Sx.lt_iff s b).2 (.inr ⟨hl2, hbl⟩)))
                    clear hok
                    have HL2 := Lib.hid hl2
                    clear hl2
                    -- Span, the check
                    go_wp2_with (go_at_call 27; refine HSP.out.mono ?_; rintro e w8 ⟨rfl, hB8⟩; have hB8' := below_up hB hB8; obtain ⟨y0, y1⟩ := ((hXA.keep hB).keep hB8).two; have hx8 := ((hXA.keep hB).keep hB8).lt)
                    go_roundg (12 - (j + 1))
                    case rel => exact ⟨j + 1, by omega, rfl, by go_num, by rw [HBT.out, HST.out], below_allocs hB8' _⟩
                    case measure => omega
                · have hle : ((s.length : Int) == (b.length : Int)) = false := by simp; omega
                  have HST := Lib.hid (Sx.step_ge (F := F) (T := T) hb0 (show Sx.lt s b = false by rw [← Bool.not_eq_true, Sx.lt_iff]; intro h; rcases h with h | h; exact hl1 h; exact hl2 h.1))
                  clear hok
                  -- Span, the check
                  go_wp2_with (go_at_call 27; refine HSP.out.mono ?_; rintro e w8 ⟨rfl, hB8⟩; have hB8' := below_up hB hB8; obtain ⟨y0, y1⟩ := ((hXA.keep hB).keep hB8).two; have hx8 := ((hXA.keep hB).keep hB8).lt)
                  go_roundg (12 - (j + 1))
                  case rel => exact ⟨j + 1, by omega, rfl, by go_num, by rw [HBT.out, HST.out], below_allocs hB8' _⟩
                  case measure => omega
          · have HST := Lib.hid (Sx.step_no (b := b) hok)
            obtain ⟨f, t, e, hr⟩ : ∃ f t e, Sp.span s = (f, t, e) := ⟨_, _, _, rfl⟩
            rw [hr] at HSP hok
            clear hr
            by_cases he : e = 0
            · subst he
              by_cases hf' : f = F
              · subst hf'
                have htn : ¬ t = T := fun e => hok (by rw [e])
                clear hok
                -- Span, the check
                go_wp2_with (go_at_call 27; refine HSP.out.mono ?_; rintro e w8 ⟨rfl, hB8⟩; have hB8' := below_up hB hB8; obtain ⟨y0, y1⟩ := ((hXA.keep hB).keep hB8).two; have hx8 := ((hXA.keep hB).keep hB8).lt)
                go_roundg (12 - (j + 1))
                case rel => exact ⟨j + 1, by omega, rfl, by go_num, by rw [HBT.out, HST.out], below_allocs hB8' _⟩
                case measure => omega
              · clear hok
                -- Span, the check
                go_wp2_with (go_at_call 27; refine HSP.out.mono ?_; rintro e w8 ⟨rfl, hB8⟩; have hB8' := below_up hB hB8; obtain ⟨y0, y1⟩ := ((hXA.keep hB).keep hB8).two; have hx8 := ((hXA.keep hB).keep hB8).lt)
                go_roundg (12 - (j + 1))
                case rel => exact ⟨j + 1, by omega, rfl, by go_num, by rw [HBT.out, HST.out], below_allocs hB8' _⟩
                case measure => omega
            · clear hok
              -- Span, the check
              go_wp2_with (go_at_call 27; refine HSP.out.mono ?_; rintro e w8 ⟨rfl, hB8⟩; have hB8' := below_up hB hB8; obtain ⟨y0, y1⟩ := ((hXA.keep hB).keep hB8).two; have hx8 := ((hXA.keep hB).keep hB8).lt)
              go_roundg (12 - (j + 1))
              case rel => exact ⟨j + 1, by omega, rfl, by go_num, by rw [HBT.out, HST.out], below_allocs hB8' _⟩
              case measure => omega
        · obtain rfl : j = 12 := by omega
          rw [List.take_of_length_le (by rw [HP12.out]; exact Nat.le_refl _)]
          obtain ⟨b, hbb⟩ : ∃ b, Sx.best (Sx.ok F T) P = b := ⟨_, rfl⟩
          rw [hbb]
          have HBB := Lib.hid hbb
          clear hbb
          go_wp2_with fail
          go_ret2
          exact ⟨by rw [HBB.out]; rfl, below_up hBA hB⟩
end Go.Proofs.YthldlffkgafgaaaDoor
