/- unit: the stretch of a year, a month or a day. -/
import Derived.Test.YthldlffkgafgaaaDoorSpMath
import Derived.Test.YthldlffkgafgaaaDoorReadLoc
import Derived.BigRegion
import Derived.Deep.RegionHeld3
namespace Go.Proofs.YthldlffkgafgaaaDoor
open Go.RowKit Go.Sort Go.Shelf
set_option linter.unusedVariables false
theorem FtPost.row {w w' : World} {xs : List Int} {e : Ending} (h0 : xs ≠ []) (h : FtPost w (some xs) e w') : ∃ (bk off ca : Nat), e = .returned (.tuple #[.slice (some ⟨bk, off, none⟩) xs.length ca, .bool true]) ∧ (∀ i, i < xs.length → w'.cell? ⟨bk, off + i, none⟩ = some (.int .i64 (xs.getD i 0))) ∧ Below w.heap.size w w' ∧ w.heap.size ≤ bk := by
  rcases h with ⟨hn, _, _⟩ | ⟨ys, ad, ca, hq, rfl, hrow, hB2, hb2⟩
  · exact absurd hn (by simp)
  · obtain rfl := Option.some.inj hq
    obtain ⟨bk, off, rfl, hb, hcell⟩ := hrow (List.length_pos_iff.2 h0)
    exact ⟨bk, off, ca, rfl, fun i hi => by rw [List.getD_eq_getElem?_getD]; exact hcell i hi, hB2, hb2 _ rfl⟩
theorem FtPost.nope' {w w' : World} {e : Ending} (h : FtPost w none e w') : e = .returned (.tuple #[.slice none 0 0, .bool false]) ∧ Below w.heap.size w w' := by
  rcases h with ⟨_, he, hB⟩ | ⟨xs, ad, ca, hq, _⟩
  · exact ⟨he, hB⟩
  · exact absurd hq (by simp)
/-- What unit returns. -/
def SpPost (w : World) (k : Option (Sp.D3 × Sp.D3)) (e : Ending) (w' : World) : Prop := e = .returned (.tuple #[.agg #[.int .i64 (Sp.outF k), .int .i64 (Sp.outT k)], .int .i64 (Sp.outE k)]) ∧ Below w.heap.size w w'
theorem SpPost.err {w w' : World} {k : Option (Sp.D3 × Sp.D3)} {E : Int} (h : Sp.outF k = 0 ∧ Sp.outT k = 0 ∧ Sp.outE k = E) (hB : Below w.heap.size w w') : SpPost w k (.returned (.tuple #[.agg #[.int .i64 0, .int .i64 0], .int .i64 E])) w' := by
  obtain ⟨h1, h2, h3⟩ := h
  unfold SpPost; rw [h1, h2, h3]; exact ⟨rfl, hB⟩
theorem SpPost.ok {w w' : World} {k : Option (Sp.D3 × Sp.D3)} {F T : Int} (h : Sp.outF k = F ∧ Sp.outT k = T ∧ Sp.outE k = 0) (hB : Below w.heap.size w w') : SpPost w k (.returned (.tuple #[.agg #[.int .i64 F, .int .i64 T], .int .i64 0])) w' := by
  obtain ⟨h1, h2, h3⟩ := h
  unfold SpPost; rw [h1, h2, h3]; exact ⟨rfl, hB⟩
set_option maxRecDepth 100000 in
set_option maxHeartbeats 4000000 in
theorem unit_no4 (s : List UInt8) (hl : s.length = 4) (hk : ¬ 0 ≤ Sc.fx s 0 4) (w : World) : Calls Tryd.prog 63 #[.string (Tx.mk s)] w (SpPost w (Sp.kind s)) := by
  obtain ⟨W1, hW1, hP1, hz1, hB1⟩ := box w #[.int .i64 0, .int .i64 0] 45
  obtain ⟨W2, hW2, hP2, hz2, hB2⟩ := box W1 #[.int .i64 1, .int .i64 1, .int .i64 1] 56
  obtain ⟨W3, hW3, hP3, hz3, hB3⟩ := box W2 #[.int .i64 1, .int .i64 12, .int .i64 31] 56
  have HW1 := Lib.hid hW1
  have HW2 := Lib.hid hW2
  have HW3 := Lib.hid hW3
  have hP1' := (hP1.keep hB2).keep hB3
  have hP2' := hP2.keep hB3
  have hBa := below_up (below_up hB1 hB2) hB3
  rw [hz1] at hP2'
  rw [hz2, hz1] at hP3
  clear hW1 hW2 hW3 hP1 hP2
  have hsz := Tx.mk_size s
  have HP : Hid (∀ W, Calls Tryd.prog 59 #[.string (Tx.mk s), .string ⟨#[48, 48, 48, 48]⟩] W (FtPost W none)) := fun W => by
    have := fits_is s Sp.f4 (by omega) Sp.few4 W
    rw [Sp.res4, if_neg (fun h => hk h.2)] at this
    exact this
  have HK : Hid (Sp.kind s = none) := by show _ = _; unfold Sp.kind; rw [if_pos hl, if_neg hk]
  rw [HK.out]
  rw [hl] at hsz
  clear hk hl
  go_enter Tryd.func63, Tryd.ntmps63
  go_wp2_with fail
  rw [HW1.out, HW2.out, HW3.out]
  go_wp2_with (go_at_call 59; (with_reducible refine (HP.out _).mono ?_); intro e w1 hft; obtain ⟨rfl, hBw1⟩ := FtPost.nope' hft; clear hft; have hQ1 := hP1'.keep hBw1; obtain ⟨c0, c1⟩ := hQ1.two; have cf := hQ1.free)
  refine bodyPost_ret (v := .tuple #[.agg #[.int .i64 0, .int .i64 0], .int .i64 8]) ?_ rfl ?_
  · simp [results, Tryd.results63, go_sem, c0, c1]
  · exact SpPost.err ⟨rfl, rfl, rfl⟩ (((below_up hBa hBw1).setCell (Nat.le_refl _) _).setCell (Nat.le_refl _) _)
set_option maxRecDepth 100000 in
set_option maxHeartbeats 4000000 in
theorem unit_no7 (s : List UInt8) (hl : s.length = 7) (hk : ¬ (0 ≤ Sc.fx s 0 4 ∧ s[4]? = some 45 ∧ 0 ≤ Sc.fx s 5 7)) (w : World) : Calls Tryd.prog 63 #[.string (Tx.mk s)] w (SpPost w (Sp.kind s)) := by
  obtain ⟨W1, hW1, hP1, hz1, hB1⟩ := box w #[.int .i64 0, .int .i64 0] 45
  obtain ⟨W2, hW2, hP2, hz2, hB2⟩ := box W1 #[.int .i64 1, .int .i64 1, .int .i64 1] 56
  obtain ⟨W3, hW3, hP3, hz3, hB3⟩ := box W2 #[.int .i64 1, .int .i64 12, .int .i64 31] 56
  have HW1 := Lib.hid hW1
  have HW2 := Lib.hid hW2
  have HW3 := Lib.hid hW3
  have hP1' := (hP1.keep hB2).keep hB3
  have hP2' := hP2.keep hB3
  have hBa := below_up (below_up hB1 hB2) hB3
  rw [hz1] at hP2'
  rw [hz2, hz1] at hP3
  clear hW1 hW2 hW3 hP1 hP2
  have hsz := Tx.mk_size s
  have HP : Hid (∀ W, Calls Tryd.prog 59 #[.string (Tx.mk s), .string ⟨#[48, 48, 48, 48, 45, 48, 48]⟩] W (FtPost W none)) := fun W => by
    have := fits_is s Sp.f7 (by omega) Sp.few7 W
    rw [Sp.res7, if_neg (fun h => hk h.2)] at this
    exact this
  have HK : Hid (Sp.kind s = none) := by show _ = _; unfold Sp.kind; rw [if_neg (by omega), if_pos hl, if_neg hk]
  rw [HK.out]
  rw [hl] at hsz
  clear hk hl
  go_enter Tryd.func63, Tryd.ntmps63
  go_wp2_with fail
  rw [HW1.out, HW2.out, HW3.out]
  go_wp2_with (go_at_call 59; (with_reducible refine (HP.out _).mono ?_); intro e w1 hft; obtain ⟨rfl, hBw1⟩ := FtPost.nope' hft; clear hft; have hQ1 := hP1'.keep hBw1; obtain ⟨c0, c1⟩ := hQ1.two; have cf := hQ1.free)
  refine bodyPost_ret (v := .tuple #[.agg #[.int .i64 0, .int .i64 0], .int .i64 8]) ?_ rfl ?_
  · simp [results, Tryd.results63, go_sem, c0, c1]
  · exact SpPost.err ⟨rfl, rfl, rfl⟩ (((below_up hBa hBw1).setCell (Nat.le_refl _) _).setCell (Nat.le_refl _) _)
set_option maxRecDepth 100000 in
set_option maxHeartbeats 4000000 in
theorem unit_no10 (s : List UInt8) (hs : s.length ≤ 1000000000000) (h4 : ¬ s.length = 4) (h7 : ¬ s.length = 7) (hk : ¬ (s.length = 10 ∧ 0 ≤ Sc.fx s 0 4 ∧ s[4]? = some 45 ∧ 0 ≤ Sc.fx s 5 7 ∧ s[7]? = some 45 ∧ 0 ≤ Sc.fx s 8 10)) (w : World) : Calls Tryd.prog 63 #[.string (Tx.mk s)] w (SpPost w (Sp.kind s)) := by
  obtain ⟨W1, hW1, hP1, hz1, hB1⟩ := box w #[.int .i64 0, .int .i64 0] 45
  obtain ⟨W2, hW2, hP2, hz2, hB2⟩ := box W1 #[.int .i64 1, .int .i64 1, .int .i64 1] 56
  obtain ⟨W3, hW3, hP3, hz3, hB3⟩ := box W2 #[.int .i64 1, .int .i64 12, .int .i64 31] 56
  have HW1 := Lib.hid hW1
  have HW2 := Lib.hid hW2
  have HW3 := Lib.hid hW3
  have hP1' := (hP1.keep hB2).keep hB3
  have hP2' := hP2.keep hB3
  have hBa := below_up (below_up hB1 hB2) hB3
  rw [hz1] at hP2'
  rw [hz2, hz1] at hP3
  clear hW1 hW2 hW3 hP1 hP2
  have hsz := Tx.mk_size s
  have HP : Hid (∀ W, Calls Tryd.prog 59 #[.string (Tx.mk s), .string ⟨#[48, 48, 48, 48, 45, 48, 48, 45, 48, 48]⟩] W (FtPost W none)) := fun W => by
    have := fits_is s Sp.f10 hs Sp.few10 W
    rw [Sp.res10, if_neg hk] at this
    exact this
  have HK : Hid (Sp.kind s = none) := by
    show _ = _; unfold Sp.kind; rw [if_neg h4, if_neg h7]
    by_cases hl : s.length = 10
    · rw [if_pos hl, if_neg (fun h => hk ⟨hl, h⟩)]
    · rw [if_neg hl]
  rw [HK.out]
  have h4' : ¬ (s.length : Int) = 4 := by omega
  have h7' : ¬ (s.length : Int) = 7 := by omega
  clear hk
  go_enter Tryd.func63, Tryd.ntmps63
  go_wp2_with fail
  rw [HW1.out, HW2.out, HW3.out]
  go_wp2_with (go_at_call 59; (with_reducible refine (HP.out _).mono ?_); intro e w1 hft; obtain ⟨rfl, hBw1⟩ := FtPost.nope' hft; clear hft; have hQ1 := hP1'.keep hBw1; obtain ⟨c0, c1⟩ := hQ1.two; have cf := hQ1.free)
  refine bodyPost_ret (v := .tuple #[.agg #[.int .i64 0, .int .i64 0], .int .i64 8]) ?_ rfl ?_
  · simp [results, Tryd.results63, go_sem, c0, c1]
  · exact SpPost.err ⟨rfl, rfl, rfl⟩ (((below_up hBa hBw1).setCell (Nat.le_refl _) _).setCell (Nat.le_refl _) _)
theorem below_drew1 {B : Nat} {a w : World} (h : Below B a w) : Below B a w.drew := ⟨h.os, h.tape, h.output, h.size, h.block⟩
/-- DayOf, of a right date and of a wrong one. -/
theorem dayOf_at (d : Sp.D3) (W : World) : Calls Tryd.prog 32 #[.agg #[.int .i64 d.1, .int .i64 d.2.1, .int .i64 d.2.2]] W fun e w' => e = .returned (.tuple #[.int .i64 (if Sp.vld d = true then Sp.num d else 0), .int .i64 (if Sp.vld d = true then 0 else 1)]) ∧ Below W.heap.size W w' := by
  obtain ⟨y, m, d⟩ := d
  cases h : Sp.vld (y, m, d)
  · rw [if_neg (by simp), if_neg (by simp)]; exact dayOf_no y m d W h
  · rw [if_pos rfl, if_pos rfl]; exact dayOf_yes y m d W h
set_option maxRecDepth 100000 in
set_option maxHeartbeats 4000000 in
theorem unit_yes4 (s : List UInt8) (hl : s.length = 4) (hk : 0 ≤ Sc.fx s 0 4) (w : World) : Calls Tryd.prog 63 #[.string (Tx.mk s)] w (SpPost w (Sp.kind s)) := by
  obtain ⟨W1, hW1, hP1, hz1, hB1⟩ := box w #[.int .i64 0, .int .i64 0] 45
  obtain ⟨W2, hW2, hP2, hz2, hB2⟩ := box W1 #[.int .i64 1, .int .i64 1, .int .i64 1] 56
  obtain ⟨W3, hW3, hP3, hz3, hB3⟩ := box W2 #[.int .i64 1, .int .i64 12, .int .i64 31] 56
  have HW1 := Lib.hid hW1
  have HW2 := Lib.hid hW2
  have HW3 := Lib.hid hW3
  have hP1' := (hP1.keep hB2).keep hB3
  have hP2' := hP2.keep hB3
  have hBa := below_up (below_up hB1 hB2) hB3
  rw [hz1] at hP2'
  rw [hz2, hz1] at hP3
  clear hW1 hW2 hW3 hP1 hP2
  have hsz := Tx.mk_size s
  have HP : Hid (∀ W, Calls Tryd.prog 59 #[.string (Tx.mk s), .string ⟨#[48, 48, 48, 48]⟩] W (FtPost W (some [Sc.fx s 0 4]))) := fun W => by
    have := fits_is s Sp.f4 (by omega) Sp.few4 W
    rw [Sp.res4, if_pos ⟨hl, hk⟩] at this
    exact this
  have HK : Hid (Sp.kind s = some ((Sc.fx s 0 4, 1, 1), (Sc.fx s 0 4, 12, 31))) := by show _ = _; unfold Sp.kind; rw [if_pos hl, if_pos hk]
  rw [HK.out]
  rw [hl] at hsz
  have hy := Sc.fx_bd s 0 4 (by omega)
  clear HK
  generalize Sc.fx s 0 4 = Y at *
  clear hl
  have HDA := Lib.hid (fun V => dayOf_at (Y, 1, 1) V)
  have HDB := Lib.hid (fun V => dayOf_at (Y, 12, 31) V)
  have hv : Sp.vld (Y, 12, 31) = Sp.vld (Y, 1, 1) := Sp.year_vld Y
  rw [hv] at HDB
  cases hv1 : Sp.vld (Y, 1, 1)
  · rw [hv1, if_neg (by simp), if_neg (by simp)] at HDA HDB
    have HO : Hid (Sp.outF (some ((Y, 1, 1), (Y, 12, 31))) = 0 ∧ Sp.outT (some ((Y, 1, 1), (Y, 12, 31))) = 0 ∧ Sp.outE (some ((Y, 1, 1), (Y, 12, 31))) = 1) := by
      show _ ∧ _; simp [Sp.outF, Sp.outT, Sp.outE, hv1]
    clear hv1 hv
    go_enter Tryd.func63, Tryd.ntmps63
    go_wp2_with fail
    rw [HW1.out, HW2.out, HW3.out]
    go_wp2_with (go_at_call 59; (with_reducible refine (HP.out _).mono ?_); intro e w1 hft; obtain ⟨bk, off, ca, rfl, hcell, hBw1, hbk⟩ := FtPost.row (by simp) hft; clear hft; have hQ1 := hP1'.keep hBw1; have hQ2 := hP2'.keep hBw1; have hQ3 := hP3.keep hBw1; obtain ⟨c0, c1⟩ := hQ1.two; have cf := hQ1.free; obtain ⟨d0, d1, d2⟩ := hQ2.three; have df := hQ2.free; obtain ⟨e0, e1, e2⟩ := hQ3.three; have ef := hQ3.free; have x0 : w1.cell? ⟨bk, off, none⟩ = some (.int .i64 Y) := hcell 0 (by simp); clear hcell)
    go_region
    have hR1 : Blk (((w1.setCell ⟨w.heap.size + 1, 0, none⟩ (.int .i64 Y)).setCell ⟨w.heap.size + 1 + 1, 0, none⟩ (.int .i64 Y)).drew) w.heap.size #[.int .i64 0, .int .i64 0] 45 := ((hQ1.setOther (by simp) _).setOther (by simp; omega) _).drew
    have hR2 : Blk (((w1.setCell ⟨w.heap.size + 1, 0, none⟩ (.int .i64 Y)).setCell ⟨w.heap.size + 1 + 1, 0, none⟩ (.int .i64 Y)).drew) (w.heap.size + 1) #[.int .i64 Y, .int .i64 1, .int .i64 1] 56 := ((hQ2.set 0 (.int .i64 Y)).setOther (by simp) _).drew
    have hR3 : Blk (((w1.setCell ⟨w.heap.size + 1, 0, none⟩ (.int .i64 Y)).setCell ⟨w.heap.size + 1 + 1, 0, none⟩ (.int .i64 Y)).drew) (w.heap.size + 1 + 1) #[.int .i64 Y, .int .i64 12, .int .i64 31] 56 := ((hQ3.setOther (by simp) _).set 0 (.int .i64 Y)).drew
    have hBr : Below w.heap.size w (((w1.setCell ⟨w.heap.size + 1, 0, none⟩ (.int .i64 Y)).setCell ⟨w.heap.size + 1 + 1, 0, none⟩ (.int .i64 Y)).drew) := below_drew1 (((below_up hBa hBw1).setCell (by simp) _).setCell (by simp; omega) _)
    generalize ((w1.setCell ⟨w.heap.size + 1, 0, none⟩ (.int .i64 Y)).setCell ⟨w.heap.size + 1 + 1, 0, none⟩ (.int .i64 Y)).drew = W4 at *
    clear c0 c1 d0 d1 d2 e0 e1 e2 cf df ef
    obtain ⟨c0, c1⟩ := hR1.two
    have cf := hR1.free
    obtain ⟨d0, d1, d2⟩ := hR2.three
    obtain ⟨e0, e1, e2⟩ := hR3.three
    go_wp2_with (go_at_call 32; (with_reducible first | (refine (HDA.out _).mono ?_) | (refine (HDB.out _).mono ?_)); rintro e w5 ⟨rfl, hB5⟩; have hR1 := hR1.keep hB5; have hR2 := hR2.keep hB5; have hR3 := hR3.keep hB5; have hBr := below_up hBr hB5; obtain ⟨c0, c1⟩ := hR1.two; have cf := hR1.free; obtain ⟨d0, d1, d2⟩ := hR2.three; obtain ⟨e0, e1, e2⟩ := hR3.three)
    refine bodyPost_ret (v := .tuple #[.agg #[.int .i64 0, .int .i64 0], .int .i64 1]) ?_ rfl ?_
    · simp [results, Tryd.results63, go_sem, c0, c1]
    · exact SpPost.err HO.out ((hBr.setCell (Nat.le_refl _) _).setCell (Nat.le_refl _) _)
  · rw [hv1, if_pos rfl, if_pos rfl] at HDA HDB
    have HO : Hid (Sp.outF (some ((Y, 1, 1), (Y, 12, 31))) = Sp.num (Y, 1, 1) * 86400 ∧ Sp.outT (some ((Y, 1, 1), (Y, 12, 31))) = Sp.num (Y, 12, 31) * 86400 + 86399 ∧ Sp.outE (some ((Y, 1, 1), (Y, 12, 31))) = 0) := by
      show _ ∧ _; rw [hv1] at hv; simp [Sp.outF, Sp.outT, Sp.outE, hv1, hv]
    have hn1 := Sp.num_bd hv1
    have hn2 := Sp.num_bd (hv.trans hv1)
    generalize Sp.num (Y, 1, 1) = na at *
    generalize Sp.num (Y, 12, 31) = nb at *
    clear hv1 hv
    go_enter Tryd.func63, Tryd.ntmps63
    go_wp2_with fail
    rw [HW1.out, HW2.out, HW3.out]
    go_wp2_with (go_at_call 59; (with_reducible refine (HP.out _).mono ?_); intro e w1 hft; obtain ⟨bk, off, ca, rfl, hcell, hBw1, hbk⟩ := FtPost.row (by simp) hft; clear hft; have hQ1 := hP1'.keep hBw1; have hQ2 := hP2'.keep hBw1; have hQ3 := hP3.keep hBw1; obtain ⟨c0, c1⟩ := hQ1.two; have cf := hQ1.free; obtain ⟨d0, d1, d2⟩ := hQ2.three; have df := hQ2.free; obtain ⟨e0, e1, e2⟩ := hQ3.three; have ef := hQ3.free; have x0 : w1.cell? ⟨bk, off, none⟩ = some (.int .i64 Y) := hcell 0 (by simp); clear hcell)
    go_region
    have hR1 : Blk (((w1.setCell ⟨w.heap.size + 1, 0, none⟩ (.int .i64 Y)).setCell ⟨w.heap.size + 1 + 1, 0, none⟩ (.int .i64 Y)).drew) w.heap.size #[.int .i64 0, .int .i64 0] 45 := ((hQ1.setOther (by simp) _).setOther (by simp; omega) _).drew
    have hR2 : Blk (((w1.setCell ⟨w.heap.size + 1, 0, none⟩ (.int .i64 Y)).setCell ⟨w.heap.size + 1 + 1, 0, none⟩ (.int .i64 Y)).drew) (w.heap.size + 1) #[.int .i64 Y, .int .i64 1, .int .i64 1] 56 := ((hQ2.set 0 (.int .i64 Y)).setOther (by simp) _).drew
    have hR3 : Blk (((w1.setCell ⟨w.heap.size + 1, 0, none⟩ (.int .i64 Y)).setCell ⟨w.heap.size + 1 + 1, 0, none⟩ (.int .i64 Y)).drew) (w.heap.size + 1 + 1) #[.int .i64 Y, .int .i64 12, .int .i64 31] 56 := ((hQ3.setOther (by simp) _).set 0 (.int .i64 Y)).drew
    have hBr : Below w.heap.size w (((w1.setCell ⟨w.heap.size + 1, 0, none⟩ (.int .i64 Y)).setCell ⟨w.heap.size + 1 + 1, 0, none⟩ (.int .i64 Y)).drew) := below_drew1 (((below_up hBa hBw1).setCell (by simp) _).setCell (by simp; omega) _)
    generalize ((w1.setCell ⟨w.heap.size + 1, 0, none⟩ (.int .i64 Y)).setCell ⟨w.heap.size + 1 + 1, 0, none⟩ (.int .i64 Y)).drew = W4 at *
    clear c0 c1 d0 d1 d2 e0 e1 e2 cf df ef
    obtain ⟨c0, c1⟩ := hR1.two
    have cf := hR1.free
    obtain ⟨d0, d1, d2⟩ := hR2.three
    obtain ⟨e0, e1, e2⟩ := hR3.three
    -- both dates are right; the days are na, nb
    go_wp2_with (go_at_call 32; (with_reducible first | (refine (HDA.out _).mono ?_) | (refine (HDB.out _).mono ?_)); rintro e w5 ⟨rfl, hB5⟩; have hR1 := hR1.keep hB5; have hR2 := hR2.keep hB5; have hR3 := hR3.keep hB5; have hBr := below_up hBr hB5; obtain ⟨c0, c1⟩ := hR1.two; have cf := hR1.free; obtain ⟨d0, d1, d2⟩ := hR2.three; obtain ⟨e0, e1, e2⟩ := hR3.three)
    refine bodyPost_ret (v := .tuple #[.agg #[.int .i64 (na * 86400), .int .i64 (nb * 86400 + 86399)], .int .i64 0]) ?_ rfl ?_
    · simp [results, Tryd.results63, go_sem, c0, c1]
      try omega
    · exact SpPost.ok HO.out ((hBr.setCell (Nat.le_refl _) _).setCell (Nat.le_refl _) _)
end Go.Proofs.YthldlffkgafgaaaDoor
