/- Parts of the proof, no condition: SpUnit, SpOne. -/
import Derived.Test.YtimjmjmpaicdbaaGreatDoorPc7
import Derived.Test.YtimjmjmpaicdbaaGreatDoorPc8
import Derived.BigRegion
import Derived.Deep.RegionHeld3
import Derived.IntWalk
set_option maxRecDepth 100000
set_option maxHeartbeats 4000000
set_option linter.unusedVariables false
namespace Go.Proofs.YtimjmjmpaicdbaaGreatDoor
open Go.RowKit Go.Sort Go.Shelf
theorem FtPost.row {w w' : World} {xs : List Int} {e : Ending} (h0 : xs ≠ []) (h : FtPost w (some xs) e w') : ∃ (bk off ca : Nat), e = .returned (.tuple #[.slice (some ⟨bk, off, none⟩) xs.length ca, .bool true]) ∧ (∀ i, i < xs.length → w'.cell? ⟨bk, off + i, none⟩ = some (.int .i64 (xs.getD i 0))) ∧ Below w.heap.size w w' ∧ w.heap.size ≤ bk := by
 rcases h with ⟨hn, _, _⟩ | ⟨ys, ad, ca, hq, rfl, hrow, hB2, hb2⟩
 ·exact absurd hn (by simp)
 ·obtain rfl := Option.some.inj hq
  obtain ⟨bk, off, rfl, hb, hcell⟩ := hrow (List.length_pos_iff.2 h0)
  exact ⟨bk, off, ca, rfl, fun i hi => by rw [List.getD_eq_getElem?_getD]; exact hcell i hi, hB2, hb2 _ rfl⟩
theorem FtPost.nope' {w w' : World} {e : Ending} (h : FtPost w none e w') : e = .returned (.tuple #[.slice none 0 0, .bool false]) ∧ Below w.heap.size w w' := by
 rcases h with ⟨_, he, hB⟩ | ⟨xs, ad, ca, hq, _⟩
 ·exact ⟨he, hB⟩
 ·exact absurd hq (by simp)
def SpPost (w : World) (k : Option (Sp.D3 × Sp.D3)) (e : Ending) (w' : World) : Prop := e = .returned (.tuple #[.agg #[.int .i64 (Sp.outF k), .int .i64 (Sp.outT k)], .int .i64 (Sp.outE k)]) ∧ Below w.heap.size w w'
theorem SpPost.err {w w' : World} {k : Option (Sp.D3 × Sp.D3)} {E : Int} (h : Sp.outF k = 0 ∧ Sp.outT k = 0 ∧ Sp.outE k = E) (hB : Below w.heap.size w w') : SpPost w k (.returned (.tuple #[.agg #[.int .i64 0, .int .i64 0], .int .i64 E])) w' := by
 obtain ⟨h1, h2, h3⟩ := h
 unfold SpPost; rw [h1, h2, h3]; exact ⟨rfl, hB⟩
theorem SpPost.ok {w w' : World} {k : Option (Sp.D3 × Sp.D3)} {F T : Int} (h : Sp.outF k = F ∧ Sp.outT k = T ∧ Sp.outE k = 0) (hB : Below w.heap.size w w') : SpPost w k (.returned (.tuple #[.agg #[.int .i64 F, .int .i64 T], .int .i64 0])) w' := by
 obtain ⟨h1, h2, h3⟩ := h
 unfold SpPost; rw [h1, h2, h3]; exact ⟨rfl, hB⟩
theorem unit_no4 (s : List UInt8) (hl : s.length = 4) (hk : ¬ 0 ≤ Sc.fx s 0 4) (w : World) : Calls Tryz.prog 161 #[.string (Tx.mk s)] w (SpPost w (Sp.kind s)) := by
 obtain ⟨W1, hW1, hP1, hz1, hB1⟩ := box w #[.int .i64 0, .int .i64 0] 108
 obtain ⟨W2, hW2, hP2, hz2, hB2⟩ := box W1 #[.int .i64 1, .int .i64 1, .int .i64 1] 138
 obtain ⟨W3, hW3, hP3, hz3, hB3⟩ := box W2 #[.int .i64 1, .int .i64 12, .int .i64 31] 138
 have HW1 := Lib.hid hW1
 have HW2 := Lib.hid hW2
 have HW3 := Lib.hid hW3
 have hP1' := (hP1.keep hB2).keep hB3
 have hP2' := hP2.keep hB3
 have hBa := below_up (below_up hB1 hB2) hB3
 rw [hz1] at hP2'
 rw [hz2, hz1] at hP3
 clear hW1 hW2 hW3 hP1 hP2
 have hsz := Tx.mk_size s
 have HP : Hid (∀ W, Calls Tryz.prog 194 #[.string (Tx.mk s), .string ⟨#[48, 48, 48, 48]⟩] W (FtPost W none)) := fun W => by
  have := fits_is s Sp.f4 (by omega) Sp.few4 W
  rw [Sp.res4, if_neg (fun h => hk h.2)] at this
  exact this
 have HK : Hid (Sp.kind s = none) := by show _ = _; unfold Sp.kind; rw [if_pos hl, if_neg hk]
 rw [HK.out]
 rw [hl] at hsz
 clear hk hl
 go_enter Tryz.func161, Tryz.ntmps161
 go_wp2_with fail
 rw [HW1.out, HW2.out, HW3.out]
 go_wp2_with (go_at_call 194; (with_reducible refine (HP.out _).mono ?_); intro e w1 hft; obtain ⟨rfl, hBw1⟩ := FtPost.nope' hft; clear hft; have hQ1 := hP1'.keep hBw1; obtain ⟨c0, c1⟩ := hQ1.two; have cf := hQ1.free)
 refine bodyPost_ret (v := .tuple #[.agg #[.int .i64 0, .int .i64 0], .int .i64 8]) ?_ rfl ?_
 ·simp [results, Tryz.results161, go_sem, c0, c1]
 ·exact SpPost.err ⟨rfl, rfl, rfl⟩ (((below_up hBa hBw1).setCell (Nat.le_refl _) _).setCell (Nat.le_refl _) _)
theorem unit_no7 (s : List UInt8) (hl : s.length = 7) (hk : ¬ (0 ≤ Sc.fx s 0 4 ∧ s[4]? = some 45 ∧ 0 ≤ Sc.fx s 5 7)) (w : World) : Calls Tryz.prog 161 #[.string (Tx.mk s)] w (SpPost w (Sp.kind s)) := by
 obtain ⟨W1, hW1, hP1, hz1, hB1⟩ := box w #[.int .i64 0, .int .i64 0] 108
 obtain ⟨W2, hW2, hP2, hz2, hB2⟩ := box W1 #[.int .i64 1, .int .i64 1, .int .i64 1] 138
 obtain ⟨W3, hW3, hP3, hz3, hB3⟩ := box W2 #[.int .i64 1, .int .i64 12, .int .i64 31] 138
 have HW1 := Lib.hid hW1
 have HW2 := Lib.hid hW2
 have HW3 := Lib.hid hW3
 have hP1' := (hP1.keep hB2).keep hB3
 have hP2' := hP2.keep hB3
 have hBa := below_up (below_up hB1 hB2) hB3
 rw [hz1] at hP2'
 rw [hz2, hz1] at hP3
 clear hW1 hW2 hW3 hP1 hP2
 have hsz := Tx.mk_size s
 have HP : Hid (∀ W, Calls Tryz.prog 194 #[.string (Tx.mk s), .string ⟨#[48, 48, 48, 48, 45, 48, 48]⟩] W (FtPost W none)) := fun W => by
  have := fits_is s Sp.f7 (by omega) Sp.few7 W
  rw [Sp.res7, if_neg (fun h => hk h.2)] at this
  exact this
 have HK : Hid (Sp.kind s = none) := by show _ = _; unfold Sp.kind; rw [if_neg (by omega), if_pos hl, if_neg hk]
 rw [HK.out]
 rw [hl] at hsz
 clear hk hl
 go_enter Tryz.func161, Tryz.ntmps161
 go_wp2_with fail
 rw [HW1.out, HW2.out, HW3.out]
 go_wp2_with (go_at_call 194; (with_reducible refine (HP.out _).mono ?_); intro e w1 hft; obtain ⟨rfl, hBw1⟩ := FtPost.nope' hft; clear hft; have hQ1 := hP1'.keep hBw1; obtain ⟨c0, c1⟩ := hQ1.two; have cf := hQ1.free)
 refine bodyPost_ret (v := .tuple #[.agg #[.int .i64 0, .int .i64 0], .int .i64 8]) ?_ rfl ?_
 ·simp [results, Tryz.results161, go_sem, c0, c1]
 ·exact SpPost.err ⟨rfl, rfl, rfl⟩ (((below_up hBa hBw1).setCell (Nat.le_refl _) _).setCell (Nat.le_refl _) _)
theorem unit_no10 (s : List UInt8) (hs : s.length ≤ 1000000000000) (h4 : ¬ s.length = 4) (h7 : ¬ s.length = 7) (hk : ¬ (s.length = 10 ∧ 0 ≤ Sc.fx s 0 4 ∧ s[4]? = some 45 ∧ 0 ≤ Sc.fx s 5 7 ∧ s[7]? = some 45 ∧ 0 ≤ Sc.fx s 8 10)) (w : World) : Calls Tryz.prog 161 #[.string (Tx.mk s)] w (SpPost w (Sp.kind s)) := by
 obtain ⟨W1, hW1, hP1, hz1, hB1⟩ := box w #[.int .i64 0, .int .i64 0] 108
 obtain ⟨W2, hW2, hP2, hz2, hB2⟩ := box W1 #[.int .i64 1, .int .i64 1, .int .i64 1] 138
 obtain ⟨W3, hW3, hP3, hz3, hB3⟩ := box W2 #[.int .i64 1, .int .i64 12, .int .i64 31] 138
 have HW1 := Lib.hid hW1
 have HW2 := Lib.hid hW2
 have HW3 := Lib.hid hW3
 have hP1' := (hP1.keep hB2).keep hB3
 have hP2' := hP2.keep hB3
 have hBa := below_up (below_up hB1 hB2) hB3
 rw [hz1] at hP2'
 rw [hz2, hz1] at hP3
 clear hW1 hW2 hW3 hP1 hP2
 have hsz := Tx.mk_size s
 have HP : Hid (∀ W, Calls Tryz.prog 194 #[.string (Tx.mk s), .string ⟨#[48, 48, 48, 48, 45, 48, 48, 45, 48, 48]⟩] W (FtPost W none)) := fun W => by
  have := fits_is s Sp.f10 hs Sp.few10 W
  rw [Sp.res10, if_neg hk] at this
  exact this
 have HK : Hid (Sp.kind s = none) := by
  show _ = _; unfold Sp.kind; rw [if_neg h4, if_neg h7]
  by_cases hl : s.length = 10
  ·rw [if_pos hl, if_neg (fun h => hk ⟨hl, h⟩)]
  ·rw [if_neg hl]
 rw [HK.out]
 have h4' : ¬ (s.length : Int) = 4 := by omega
 have h7' : ¬ (s.length : Int) = 7 := by omega
 clear hk
 go_enter Tryz.func161, Tryz.ntmps161
 go_wp2_with fail
 rw [HW1.out, HW2.out, HW3.out]
 go_wp2_with (go_at_call 194; (with_reducible refine (HP.out _).mono ?_); intro e w1 hft; obtain ⟨rfl, hBw1⟩ := FtPost.nope' hft; clear hft; have hQ1 := hP1'.keep hBw1; obtain ⟨c0, c1⟩ := hQ1.two; have cf := hQ1.free)
 refine bodyPost_ret (v := .tuple #[.agg #[.int .i64 0, .int .i64 0], .int .i64 8]) ?_ rfl ?_
 ·simp [results, Tryz.results161, go_sem, c0, c1]
 ·exact SpPost.err ⟨rfl, rfl, rfl⟩ (((below_up hBa hBw1).setCell (Nat.le_refl _) _).setCell (Nat.le_refl _) _)
theorem below_drew1 {B : Nat} {a w : World} (h : Below B a w) : Below B a w.drew := ⟨h.os, h.tape, h.output, h.size, h.block⟩
theorem dayOf_at (d : Sp.D3) (W : World) : Calls Tryz.prog 195 #[.agg #[.int .i64 d.1, .int .i64 d.2.1, .int .i64 d.2.2]] W fun e w' => e = .returned (.tuple #[.int .i64 (if Sp.vld d = true then Sp.num d else 0), .int .i64 (if Sp.vld d = true then 0 else 1)]) ∧ Below W.heap.size W w' := by
 obtain ⟨y, m, d⟩ := d
 cases h : Sp.vld (y, m, d)
 ·rw [if_neg (by simp), if_neg (by simp)]; exact dayOf_no y m d W h
 ·rw [if_pos rfl, if_pos rfl]; exact dayOf_yes y m d W h
theorem unit_yes4 (s : List UInt8) (hl : s.length = 4) (hk : 0 ≤ Sc.fx s 0 4) (w : World) : Calls Tryz.prog 161 #[.string (Tx.mk s)] w (SpPost w (Sp.kind s)) := by
 obtain ⟨W1, hW1, hP1, hz1, hB1⟩ := box w #[.int .i64 0, .int .i64 0] 108
 obtain ⟨W2, hW2, hP2, hz2, hB2⟩ := box W1 #[.int .i64 1, .int .i64 1, .int .i64 1] 138
 obtain ⟨W3, hW3, hP3, hz3, hB3⟩ := box W2 #[.int .i64 1, .int .i64 12, .int .i64 31] 138
 have HW1 := Lib.hid hW1
 have HW2 := Lib.hid hW2
 have HW3 := Lib.hid hW3
 have hP1' := (hP1.keep hB2).keep hB3
 have hP2' := hP2.keep hB3
 have hBa := below_up (below_up hB1 hB2) hB3
 rw [hz1] at hP2'
 rw [hz2, hz1] at hP3
 clear hW1 hW2 hW3 hP1 hP2
 have hsz := Tx.mk_size s
 have HP : Hid (∀ W, Calls Tryz.prog 194 #[.string (Tx.mk s), .string ⟨#[48, 48, 48, 48]⟩] W (FtPost W (some [Sc.fx s 0 4]))) := fun W => by
  have := fits_is s Sp.f4 (by omega) Sp.few4 W
  rw [Sp.res4, if_pos ⟨hl, hk⟩] at this
  exact this
 have HK : Hid (Sp.kind s = some ((Sc.fx s 0 4, 1, 1), (Sc.fx s 0 4, 12, 31))) := by show _ = _; unfold Sp.kind; rw [if_pos hl, if_pos hk]
 rw [HK.out]
 rw [hl] at hsz
 have hy := Sc.fx_bd s 0 4 (by omega)
 clear HK
 generalize Sc.fx s 0 4 = Y at *
 clear hl
 have HDA := Lib.hid (fun V => dayOf_at (Y, 1, 1) V)
 have HDB := Lib.hid (fun V => dayOf_at (Y, 12, 31) V)
 have hv : Sp.vld (Y, 12, 31) = Sp.vld (Y, 1, 1) := Sp.year_vld Y
 rw [hv] at HDB
 cases hv1 : Sp.vld (Y, 1, 1)
 ·rw [hv1, if_neg (by simp), if_neg (by simp)] at HDA HDB
  have HO : Hid (Sp.outF (some ((Y, 1, 1), (Y, 12, 31))) = 0 ∧ Sp.outT (some ((Y, 1, 1), (Y, 12, 31))) = 0 ∧ Sp.outE (some ((Y, 1, 1), (Y, 12, 31))) = 1) := by
   show _ ∧ _; simp [Sp.outF, Sp.outT, Sp.outE, hv1]
  clear hv1 hv
  go_enter Tryz.func161, Tryz.ntmps161
  go_wp2_with fail
  rw [HW1.out, HW2.out, HW3.out]
  go_wp2_with (go_at_call 194; (with_reducible refine (HP.out _).mono ?_); intro e w1 hft; obtain ⟨bk, off, ca, rfl, hcell, hBw1, hbk⟩ := FtPost.row (by simp) hft; clear hft; have hQ1 := hP1'.keep hBw1; have hQ2 := hP2'.keep hBw1; have hQ3 := hP3.keep hBw1; obtain ⟨c0, c1⟩ := hQ1.two; have cf := hQ1.free; obtain ⟨d0, d1, d2⟩ := hQ2.three; have df := hQ2.free; obtain ⟨e0, e1, e2⟩ := hQ3.three; have ef := hQ3.free; have x0 : w1.cell? ⟨bk, off, none⟩ = some (.int .i64 Y) := hcell 0 (by simp); clear hcell)
  go_region
  have hR1 : Blk (((w1.setCell ⟨w.heap.size + 1, 0, none⟩ (.int .i64 Y)).setCell ⟨w.heap.size + 1 + 1, 0, none⟩ (.int .i64 Y)).drew) w.heap.size #[.int .i64 0, .int .i64 0] 108 := ((hQ1.setOther (by simp) _).setOther (by simp; omega) _).drew
  have hR2 : Blk (((w1.setCell ⟨w.heap.size + 1, 0, none⟩ (.int .i64 Y)).setCell ⟨w.heap.size + 1 + 1, 0, none⟩ (.int .i64 Y)).drew) (w.heap.size + 1) #[.int .i64 Y, .int .i64 1, .int .i64 1] 138 := ((hQ2.set 0 (.int .i64 Y)).setOther (by simp) _).drew
  have hR3 : Blk (((w1.setCell ⟨w.heap.size + 1, 0, none⟩ (.int .i64 Y)).setCell ⟨w.heap.size + 1 + 1, 0, none⟩ (.int .i64 Y)).drew) (w.heap.size + 1 + 1) #[.int .i64 Y, .int .i64 12, .int .i64 31] 138 := ((hQ3.setOther (by simp) _).set 0 (.int .i64 Y)).drew
  have hBr : Below w.heap.size w (((w1.setCell ⟨w.heap.size + 1, 0, none⟩ (.int .i64 Y)).setCell ⟨w.heap.size + 1 + 1, 0, none⟩ (.int .i64 Y)).drew) := below_drew1 (((below_up hBa hBw1).setCell (by simp) _).setCell (by simp; omega) _)
  generalize ((w1.setCell ⟨w.heap.size + 1, 0, none⟩ (.int .i64 Y)).setCell ⟨w.heap.size + 1 + 1, 0, none⟩ (.int .i64 Y)).drew = W4 at *
  clear c0 c1 d0 d1 d2 e0 e1 e2 cf df ef
  obtain ⟨c0, c1⟩ := hR1.two
  have cf := hR1.free
  obtain ⟨d0, d1, d2⟩ := hR2.three
  obtain ⟨e0, e1, e2⟩ := hR3.three
  go_wp2_with (go_at_call 195; (with_reducible first | (refine (HDA.out _).mono ?_) | (refine (HDB.out _).mono ?_)); rintro e w5 ⟨rfl, hB5⟩; have hR1 := hR1.keep hB5; have hR2 := hR2.keep hB5; have hR3 := hR3.keep hB5; have hBr := below_up hBr hB5; obtain ⟨c0, c1⟩ := hR1.two; have cf := hR1.free; obtain ⟨d0, d1, d2⟩ := hR2.three; obtain ⟨e0, e1, e2⟩ := hR3.three)
  refine bodyPost_ret (v := .tuple #[.agg #[.int .i64 0, .int .i64 0], .int .i64 1]) ?_ rfl ?_
  ·simp [results, Tryz.results161, go_sem, c0, c1]
  ·exact SpPost.err HO.out ((hBr.setCell (Nat.le_refl _) _).setCell (Nat.le_refl _) _)
 ·rw [hv1, if_pos rfl, if_pos rfl] at HDA HDB
  have HO : Hid (Sp.outF (some ((Y, 1, 1), (Y, 12, 31))) = Sp.num (Y, 1, 1) * 86400 ∧ Sp.outT (some ((Y, 1, 1), (Y, 12, 31))) = Sp.num (Y, 12, 31) * 86400 + 86399 ∧ Sp.outE (some ((Y, 1, 1), (Y, 12, 31))) = 0) := by
   show _ ∧ _; rw [hv1] at hv; simp [Sp.outF, Sp.outT, Sp.outE, hv1, hv]
  have hn1 := Sp.num_bd hv1
  have hn2 := Sp.num_bd (hv.trans hv1)
  generalize Sp.num (Y, 1, 1) = na at *
  generalize Sp.num (Y, 12, 31) = nb at *
  clear hv1 hv
  go_enter Tryz.func161, Tryz.ntmps161
  go_wp2_with fail
  rw [HW1.out, HW2.out, HW3.out]
  go_wp2_with (go_at_call 194; (with_reducible refine (HP.out _).mono ?_); intro e w1 hft; obtain ⟨bk, off, ca, rfl, hcell, hBw1, hbk⟩ := FtPost.row (by simp) hft; clear hft; have hQ1 := hP1'.keep hBw1; have hQ2 := hP2'.keep hBw1; have hQ3 := hP3.keep hBw1; obtain ⟨c0, c1⟩ := hQ1.two; have cf := hQ1.free; obtain ⟨d0, d1, d2⟩ := hQ2.three; have df := hQ2.free; obtain ⟨e0, e1, e2⟩ := hQ3.three; have ef := hQ3.free; have x0 : w1.cell? ⟨bk, off, none⟩ = some (.int .i64 Y) := hcell 0 (by simp); clear hcell)
  go_region
  have hR1 : Blk (((w1.setCell ⟨w.heap.size + 1, 0, none⟩ (.int .i64 Y)).setCell ⟨w.heap.size + 1 + 1, 0, none⟩ (.int .i64 Y)).drew) w.heap.size #[.int .i64 0, .int .i64 0] 108 := ((hQ1.setOther (by simp) _).setOther (by simp; omega) _).drew
  have hR2 : Blk (((w1.setCell ⟨w.heap.size + 1, 0, none⟩ (.int .i64 Y)).setCell ⟨w.heap.size + 1 + 1, 0, none⟩ (.int .i64 Y)).drew) (w.heap.size + 1) #[.int .i64 Y, .int .i64 1, .int .i64 1] 138 := ((hQ2.set 0 (.int .i64 Y)).setOther (by simp) _).drew
  have hR3 : Blk (((w1.setCell ⟨w.heap.size + 1, 0, none⟩ (.int .i64 Y)).setCell ⟨w.heap.size + 1 + 1, 0, none⟩ (.int .i64 Y)).drew) (w.heap.size + 1 + 1) #[.int .i64 Y, .int .i64 12, .int .i64 31] 138 := ((hQ3.setOther (by simp) _).set 0 (.int .i64 Y)).drew
  have hBr : Below w.heap.size w (((w1.setCell ⟨w.heap.size + 1, 0, none⟩ (.int .i64 Y)).setCell ⟨w.heap.size + 1 + 1, 0, none⟩ (.int .i64 Y)).drew) := below_drew1 (((below_up hBa hBw1).setCell (by simp) _).setCell (by simp; omega) _)
  generalize ((w1.setCell ⟨w.heap.size + 1, 0, none⟩ (.int .i64 Y)).setCell ⟨w.heap.size + 1 + 1, 0, none⟩ (.int .i64 Y)).drew = W4 at *
  clear c0 c1 d0 d1 d2 e0 e1 e2 cf df ef
  obtain ⟨c0, c1⟩ := hR1.two
  have cf := hR1.free
  obtain ⟨d0, d1, d2⟩ := hR2.three
  obtain ⟨e0, e1, e2⟩ := hR3.three
  go_wp2_with (go_at_call 195; (with_reducible first | (refine (HDA.out _).mono ?_) | (refine (HDB.out _).mono ?_)); rintro e w5 ⟨rfl, hB5⟩; have hR1 := hR1.keep hB5; have hR2 := hR2.keep hB5; have hR3 := hR3.keep hB5; have hBr := below_up hBr hB5; obtain ⟨c0, c1⟩ := hR1.two; have cf := hR1.free; obtain ⟨d0, d1, d2⟩ := hR2.three; obtain ⟨e0, e1, e2⟩ := hR3.three)
  refine bodyPost_ret (v := .tuple #[.agg #[.int .i64 (na * 86400), .int .i64 (nb * 86400 + 86399)], .int .i64 0]) ?_ rfl ?_
  ·simp [results, Tryz.results161, go_sem, c0, c1]
   try omega
  ·exact SpPost.ok HO.out ((hBr.setCell (Nat.le_refl _) _).setCell (Nat.le_refl _) _)
theorem cell_set3 {W : World} {b : Nat} {p : Addr} {v1 v2 v3 x : Value} (ha : p.block ≠ b) (h : W.cell? p = some x) : (((W.setCell ⟨b, 0, none⟩ v1).setCell ⟨b, 1, none⟩ v2).setCell ⟨b, 2, none⟩ v3).cell? p = some x :=
 cell_set_other ha (cell_set_other ha (cell_set_other ha h))
theorem Blk.set3 {W : World} {b : Nat} {t : TypeId} {a1 a2 a3 v1 v2 v3 : Value} (h : Blk W b #[a1, a2, a3] t) : Blk (((W.setCell ⟨b, 0, none⟩ v1).setCell ⟨b, 1, none⟩ v2).setCell ⟨b, 2, none⟩ v3) b #[v1, v2, v3] t := ((h.set 0 v1).set 1 v2).set 2 v3
theorem Blk.other3 {W : World} {b c : Nat} {t : TypeId} {cs : Array Value} {v1 v2 v3 : Value} (h : Blk W b cs t) (hne : b ≠ c) : Blk (((W.setCell ⟨c, 0, none⟩ v1).setCell ⟨c, 1, none⟩ v2).setCell ⟨c, 2, none⟩ v3) b cs t := ((h.setOther hne v1).setOther hne v2).setOther hne v3
theorem below_set3 {B : Nat} {w W : World} {b : Nat} {v1 v2 v3 : Value} (h : Below B w W) (hb : B ≤ b) : Below B w (((W.setCell ⟨b, 0, none⟩ v1).setCell ⟨b, 1, none⟩ v2).setCell ⟨b, 2, none⟩ v3) := ((h.setCell hb _).setCell hb _).setCell hb _
theorem unit_yes10 (s : List UInt8) (hk : s.length = 10 ∧ 0 ≤ Sc.fx s 0 4 ∧ s[4]? = some 45 ∧ 0 ≤ Sc.fx s 5 7 ∧ s[7]? = some 45 ∧ 0 ≤ Sc.fx s 8 10) (w : World) : Calls Tryz.prog 161 #[.string (Tx.mk s)] w (SpPost w (Sp.kind s)) := by
 obtain ⟨W1, hW1, hP1, hz1, hB1⟩ := box w #[.int .i64 0, .int .i64 0] 108
 obtain ⟨W2, hW2, hP2, hz2, hB2⟩ := box W1 #[.int .i64 1, .int .i64 1, .int .i64 1] 138
 obtain ⟨W3, hW3, hP3, hz3, hB3⟩ := box W2 #[.int .i64 1, .int .i64 12, .int .i64 31] 138
 have HW1 := Lib.hid hW1
 have HW2 := Lib.hid hW2
 have HW3 := Lib.hid hW3
 have hP1' := (hP1.keep hB2).keep hB3
 have hP2' := hP2.keep hB3
 have hBa := below_up (below_up hB1 hB2) hB3
 rw [hz1] at hP2'
 rw [hz2, hz1] at hP3
 clear hW1 hW2 hW3 hP1 hP2
 have hsz := Tx.mk_size s
 have HP : Hid (∀ W, Calls Tryz.prog 194 #[.string (Tx.mk s), .string ⟨#[48, 48, 48, 48, 45, 48, 48, 45, 48, 48]⟩] W (FtPost W (some [Sc.fx s 0 4, Sc.fx s 5 7, Sc.fx s 8 10]))) := fun W => by
  have := fits_is s Sp.f10 (by omega) Sp.few10 W
  rw [Sp.res10, if_pos hk] at this
  exact this
 have HK : Hid (Sp.kind s = some ((Sc.fx s 0 4, Sc.fx s 5 7, Sc.fx s 8 10), (Sc.fx s 0 4, Sc.fx s 5 7, Sc.fx s 8 10))) := by show _ = _; unfold Sp.kind; rw [if_neg (by omega), if_neg (by omega), if_pos hk.1, if_pos hk.2]
 rw [HK.out]
 have hl := hk.1
 rw [hl] at hsz
 have hy := Sc.fx_bd s 0 4 (by omega)
 have hm := Sc.fx_bd s 5 7 (by omega)
 have hd := Sc.fx_bd s 8 10 (by omega)
 clear HK hk
 generalize Sc.fx s 0 4 = Y at *
 generalize Sc.fx s 5 7 = M at *
 generalize Sc.fx s 8 10 = D at *
 clear hl
 have HDA := Lib.hid (fun V => dayOf_at (Y, M, D) V)
 cases hv1 : Sp.vld (Y, M, D)
 ·rw [hv1, if_neg (by simp), if_neg (by simp)] at HDA
  have HDB := HDA
  have HO : Hid (Sp.outF (some ((Y, M, D), (Y, M, D))) = 0 ∧ Sp.outT (some ((Y, M, D), (Y, M, D))) = 0 ∧ Sp.outE (some ((Y, M, D), (Y, M, D))) = 1) := by
   show _ ∧ _; simp [Sp.outF, Sp.outT, Sp.outE, hv1]
  clear hv1
  go_enter Tryz.func161, Tryz.ntmps161
  go_wp2_with fail
  rw [HW1.out, HW2.out, HW3.out]
  go_wp2_with (go_at_call 194; (with_reducible refine (HP.out _).mono ?_); intro e w1 hft; obtain ⟨bk, off, ca, rfl, hcell, hBw1, hbk⟩ := FtPost.row (by simp) hft; clear hft; have hQ1 := hP1'.keep hBw1; have hQ2 := hP2'.keep hBw1; have hQ3 := hP3.keep hBw1; obtain ⟨c0, c1⟩ := hQ1.two; have cf := hQ1.free; obtain ⟨d0, d1, d2⟩ := hQ2.three; have df := hQ2.free; obtain ⟨e0, e1, e2⟩ := hQ3.three; have ef := hQ3.free; have x0 : w1.cell? ⟨bk, off, none⟩ = some (.int .i64 Y) := hcell 0 (by simp); have x1 : w1.cell? ⟨bk, off + 1, none⟩ = some (.int .i64 M) := hcell 1 (by simp); have x2 : w1.cell? ⟨bk, off + 2, none⟩ = some (.int .i64 D) := hcell 2 (by simp); clear hcell)
  go_region
  go_wp2_with fail
  have hR1 : Blk (((((((w1.setCell ⟨w.heap.size + 1, 0, none⟩ (.int .i64 Y)).setCell ⟨w.heap.size + 1, 1, none⟩ (.int .i64 M)).setCell ⟨w.heap.size + 1, 2, none⟩ (.int .i64 D)).setCell ⟨w.heap.size + 1 + 1, 0, none⟩ (.int .i64 Y)).setCell ⟨w.heap.size + 1 + 1, 1, none⟩ (.int .i64 M)).setCell ⟨w.heap.size + 1 + 1, 2, none⟩ (.int .i64 D))).drew w.heap.size #[.int .i64 0, .int .i64 0] 108 := ((hQ1.other3 (by omega)).other3 (by omega)).drew
  have hR2 : Blk (((((((w1.setCell ⟨w.heap.size + 1, 0, none⟩ (.int .i64 Y)).setCell ⟨w.heap.size + 1, 1, none⟩ (.int .i64 M)).setCell ⟨w.heap.size + 1, 2, none⟩ (.int .i64 D)).setCell ⟨w.heap.size + 1 + 1, 0, none⟩ (.int .i64 Y)).setCell ⟨w.heap.size + 1 + 1, 1, none⟩ (.int .i64 M)).setCell ⟨w.heap.size + 1 + 1, 2, none⟩ (.int .i64 D))).drew (w.heap.size + 1) #[.int .i64 Y, .int .i64 M, .int .i64 D] 138 := (hQ2.set3.other3 (by omega)).drew
  have hR3 : Blk (((((((w1.setCell ⟨w.heap.size + 1, 0, none⟩ (.int .i64 Y)).setCell ⟨w.heap.size + 1, 1, none⟩ (.int .i64 M)).setCell ⟨w.heap.size + 1, 2, none⟩ (.int .i64 D)).setCell ⟨w.heap.size + 1 + 1, 0, none⟩ (.int .i64 Y)).setCell ⟨w.heap.size + 1 + 1, 1, none⟩ (.int .i64 M)).setCell ⟨w.heap.size + 1 + 1, 2, none⟩ (.int .i64 D))).drew (w.heap.size + 1 + 1) #[.int .i64 Y, .int .i64 M, .int .i64 D] 138 := (hQ3.other3 (by omega)).set3.drew
  have hBr : Below w.heap.size w (((((((w1.setCell ⟨w.heap.size + 1, 0, none⟩ (.int .i64 Y)).setCell ⟨w.heap.size + 1, 1, none⟩ (.int .i64 M)).setCell ⟨w.heap.size + 1, 2, none⟩ (.int .i64 D)).setCell ⟨w.heap.size + 1 + 1, 0, none⟩ (.int .i64 Y)).setCell ⟨w.heap.size + 1 + 1, 1, none⟩ (.int .i64 M)).setCell ⟨w.heap.size + 1 + 1, 2, none⟩ (.int .i64 D))).drew := below_drew1 (below_set3 (below_set3 (below_up hBa hBw1) (by omega)) (by omega))
  generalize (((((((w1.setCell ⟨w.heap.size + 1, 0, none⟩ (.int .i64 Y)).setCell ⟨w.heap.size + 1, 1, none⟩ (.int .i64 M)).setCell ⟨w.heap.size + 1, 2, none⟩ (.int .i64 D)).setCell ⟨w.heap.size + 1 + 1, 0, none⟩ (.int .i64 Y)).setCell ⟨w.heap.size + 1 + 1, 1, none⟩ (.int .i64 M)).setCell ⟨w.heap.size + 1 + 1, 2, none⟩ (.int .i64 D))).drew = W4 at *
  clear c0 c1 d0 d1 d2 e0 e1 e2 cf df ef
  obtain ⟨c0, c1⟩ := hR1.two
  have cf := hR1.free
  obtain ⟨d0, d1, d2⟩ := hR2.three
  obtain ⟨e0, e1, e2⟩ := hR3.three
  go_wp2_with (go_at_call 195; (with_reducible first | (refine (HDA.out _).mono ?_) | (refine (HDB.out _).mono ?_)); rintro e w5 ⟨rfl, hB5⟩; have hR1 := hR1.keep hB5; have hR2 := hR2.keep hB5; have hR3 := hR3.keep hB5; have hBr := below_up hBr hB5; obtain ⟨c0, c1⟩ := hR1.two; have cf := hR1.free; obtain ⟨d0, d1, d2⟩ := hR2.three; obtain ⟨e0, e1, e2⟩ := hR3.three)
  refine bodyPost_ret (v := .tuple #[.agg #[.int .i64 0, .int .i64 0], .int .i64 1]) ?_ rfl ?_
  ·simp [results, Tryz.results161, go_sem, c0, c1]
  ·exact SpPost.err HO.out ((hBr.setCell (Nat.le_refl _) _).setCell (Nat.le_refl _) _)
 ·rw [hv1, if_pos rfl, if_pos rfl] at HDA
  have HDB := HDA
  have HO : Hid (Sp.outF (some ((Y, M, D), (Y, M, D))) = Sp.num (Y, M, D) * 86400 ∧ Sp.outT (some ((Y, M, D), (Y, M, D))) = Sp.num (Y, M, D) * 86400 + 86399 ∧ Sp.outE (some ((Y, M, D), (Y, M, D))) = 0) := by
   show _ ∧ _; simp [Sp.outF, Sp.outT, Sp.outE, hv1]
  have hn1 := Sp.num_bd hv1
  generalize Sp.num (Y, M, D) = na at *
  clear hv1
  go_enter Tryz.func161, Tryz.ntmps161
  go_wp2_with fail
  rw [HW1.out, HW2.out, HW3.out]
  go_wp2_with (go_at_call 194; (with_reducible refine (HP.out _).mono ?_); intro e w1 hft; obtain ⟨bk, off, ca, rfl, hcell, hBw1, hbk⟩ := FtPost.row (by simp) hft; clear hft; have hQ1 := hP1'.keep hBw1; have hQ2 := hP2'.keep hBw1; have hQ3 := hP3.keep hBw1; obtain ⟨c0, c1⟩ := hQ1.two; have cf := hQ1.free; obtain ⟨d0, d1, d2⟩ := hQ2.three; have df := hQ2.free; obtain ⟨e0, e1, e2⟩ := hQ3.three; have ef := hQ3.free; have x0 : w1.cell? ⟨bk, off, none⟩ = some (.int .i64 Y) := hcell 0 (by simp); have x1 : w1.cell? ⟨bk, off + 1, none⟩ = some (.int .i64 M) := hcell 1 (by simp); have x2 : w1.cell? ⟨bk, off + 2, none⟩ = some (.int .i64 D) := hcell 2 (by simp); clear hcell)
  go_region
  go_wp2_with fail
  have hR1 : Blk (((((((w1.setCell ⟨w.heap.size + 1, 0, none⟩ (.int .i64 Y)).setCell ⟨w.heap.size + 1, 1, none⟩ (.int .i64 M)).setCell ⟨w.heap.size + 1, 2, none⟩ (.int .i64 D)).setCell ⟨w.heap.size + 1 + 1, 0, none⟩ (.int .i64 Y)).setCell ⟨w.heap.size + 1 + 1, 1, none⟩ (.int .i64 M)).setCell ⟨w.heap.size + 1 + 1, 2, none⟩ (.int .i64 D))).drew w.heap.size #[.int .i64 0, .int .i64 0] 108 := ((hQ1.other3 (by omega)).other3 (by omega)).drew
  have hR2 : Blk (((((((w1.setCell ⟨w.heap.size + 1, 0, none⟩ (.int .i64 Y)).setCell ⟨w.heap.size + 1, 1, none⟩ (.int .i64 M)).setCell ⟨w.heap.size + 1, 2, none⟩ (.int .i64 D)).setCell ⟨w.heap.size + 1 + 1, 0, none⟩ (.int .i64 Y)).setCell ⟨w.heap.size + 1 + 1, 1, none⟩ (.int .i64 M)).setCell ⟨w.heap.size + 1 + 1, 2, none⟩ (.int .i64 D))).drew (w.heap.size + 1) #[.int .i64 Y, .int .i64 M, .int .i64 D] 138 := (hQ2.set3.other3 (by omega)).drew
  have hR3 : Blk (((((((w1.setCell ⟨w.heap.size + 1, 0, none⟩ (.int .i64 Y)).setCell ⟨w.heap.size + 1, 1, none⟩ (.int .i64 M)).setCell ⟨w.heap.size + 1, 2, none⟩ (.int .i64 D)).setCell ⟨w.heap.size + 1 + 1, 0, none⟩ (.int .i64 Y)).setCell ⟨w.heap.size + 1 + 1, 1, none⟩ (.int .i64 M)).setCell ⟨w.heap.size + 1 + 1, 2, none⟩ (.int .i64 D))).drew (w.heap.size + 1 + 1) #[.int .i64 Y, .int .i64 M, .int .i64 D] 138 := (hQ3.other3 (by omega)).set3.drew
  have hBr : Below w.heap.size w (((((((w1.setCell ⟨w.heap.size + 1, 0, none⟩ (.int .i64 Y)).setCell ⟨w.heap.size + 1, 1, none⟩ (.int .i64 M)).setCell ⟨w.heap.size + 1, 2, none⟩ (.int .i64 D)).setCell ⟨w.heap.size + 1 + 1, 0, none⟩ (.int .i64 Y)).setCell ⟨w.heap.size + 1 + 1, 1, none⟩ (.int .i64 M)).setCell ⟨w.heap.size + 1 + 1, 2, none⟩ (.int .i64 D))).drew := below_drew1 (below_set3 (below_set3 (below_up hBa hBw1) (by omega)) (by omega))
  generalize (((((((w1.setCell ⟨w.heap.size + 1, 0, none⟩ (.int .i64 Y)).setCell ⟨w.heap.size + 1, 1, none⟩ (.int .i64 M)).setCell ⟨w.heap.size + 1, 2, none⟩ (.int .i64 D)).setCell ⟨w.heap.size + 1 + 1, 0, none⟩ (.int .i64 Y)).setCell ⟨w.heap.size + 1 + 1, 1, none⟩ (.int .i64 M)).setCell ⟨w.heap.size + 1 + 1, 2, none⟩ (.int .i64 D))).drew = W4 at *
  clear c0 c1 d0 d1 d2 e0 e1 e2 cf df ef
  obtain ⟨c0, c1⟩ := hR1.two
  have cf := hR1.free
  obtain ⟨d0, d1, d2⟩ := hR2.three
  obtain ⟨e0, e1, e2⟩ := hR3.three
  go_wp2_with (go_at_call 195; (with_reducible first | (refine (HDA.out _).mono ?_) | (refine (HDB.out _).mono ?_)); rintro e w5 ⟨rfl, hB5⟩; have hR1 := hR1.keep hB5; have hR2 := hR2.keep hB5; have hR3 := hR3.keep hB5; have hBr := below_up hBr hB5; obtain ⟨c0, c1⟩ := hR1.two; have cf := hR1.free; obtain ⟨d0, d1, d2⟩ := hR2.three; obtain ⟨e0, e1, e2⟩ := hR3.three)
  refine bodyPost_ret (v := .tuple #[.agg #[.int .i64 (na * 86400), .int .i64 (na * 86400 + 86399)], .int .i64 0]) ?_ rfl ?_
  ·simp [results, Tryz.results161, go_sem, c0, c1]
   try omega
  ·exact SpPost.ok HO.out ((hBr.setCell (Nat.le_refl _) _).setCell (Nat.le_refl _) _)
theorem unit_yes7 (s : List UInt8) (hl : s.length = 7) (hk : 0 ≤ Sc.fx s 0 4 ∧ s[4]? = some 45 ∧ 0 ≤ Sc.fx s 5 7) (w : World) : Calls Tryz.prog 161 #[.string (Tx.mk s)] w (SpPost w (Sp.kind s)) := by
 obtain ⟨W1, hW1, hP1, hz1, hB1⟩ := box w #[.int .i64 0, .int .i64 0] 108
 obtain ⟨W2, hW2, hP2, hz2, hB2⟩ := box W1 #[.int .i64 1, .int .i64 1, .int .i64 1] 138
 obtain ⟨W3, hW3, hP3, hz3, hB3⟩ := box W2 #[.int .i64 1, .int .i64 12, .int .i64 31] 138
 have HW1 := Lib.hid hW1
 have HW2 := Lib.hid hW2
 have HW3 := Lib.hid hW3
 have hP1' := (hP1.keep hB2).keep hB3
 have hP2' := hP2.keep hB3
 have hBa := below_up (below_up hB1 hB2) hB3
 rw [hz1] at hP2'
 rw [hz2, hz1] at hP3
 clear hW1 hW2 hW3 hP1 hP2
 have hsz := Tx.mk_size s
 have HP : Hid (∀ W, Calls Tryz.prog 194 #[.string (Tx.mk s), .string ⟨#[48, 48, 48, 48, 45, 48, 48]⟩] W (FtPost W (some [Sc.fx s 0 4, Sc.fx s 5 7]))) := fun W => by
  have := fits_is s Sp.f7 (by omega) Sp.few7 W
  rw [Sp.res7, if_pos ⟨hl, hk⟩] at this
  exact this
 have HK : Hid (Sp.kind s = some ((Sc.fx s 0 4, Sc.fx s 5 7, 1), (Sc.fx s 0 4, Sc.fx s 5 7, Cal.len (Sc.fx s 0 4) (Sc.fx s 5 7)))) := by show _ = _; unfold Sp.kind; rw [if_neg (by omega), if_pos hl, if_pos hk]
 rw [HK.out]
 rw [hl] at hsz
 have hy := Sc.fx_bd s 0 4 (by omega)
 have hy0 := hk.1
 have hm := Sc.fx_bd s 5 7 (by omega)
 clear HK hk
 generalize Sc.fx s 0 4 = Y at *
 generalize Sc.fx s 5 7 = M at *
 clear hl
 by_cases hmm : 1 ≤ M ∧ M ≤ 12
 ·obtain ⟨hm1, hm2⟩ := hmm
  have HDA := Lib.hid (fun V => dayOf_at (Y, M, 1) V)
  have HDB := Lib.hid (fun V => dayOf_at (Y, M, Cal.len Y M) V)
  have hv : Sp.vld (Y, M, Cal.len Y M) = Sp.vld (Y, M, 1) := Sp.month_vld Y M
  have hlen := Cal.len_bd Y M
  cases hv1 : Sp.vld (Y, M, 1)
  ·rw [hv, hv1, if_neg (by simp), if_neg (by simp)] at HDB
   rw [hv1, if_neg (by simp), if_neg (by simp)] at HDA
   have HO : Hid (Sp.outF (some ((Y, M, 1), (Y, M, Cal.len Y M))) = 0 ∧ Sp.outT (some ((Y, M, 1), (Y, M, Cal.len Y M))) = 0 ∧ Sp.outE (some ((Y, M, 1), (Y, M, Cal.len Y M))) = 1) := by
    show _ ∧ _; simp [Sp.outF, Sp.outT, Sp.outE, hv1]
   clear hv1 hv
   go_enter Tryz.func161, Tryz.ntmps161
   go_wp2_with fail
   rw [HW1.out, HW2.out, HW3.out]
   go_wp2_with (first | (go_at_call 194; (with_reducible refine (HP.out _).mono ?_); intro e w1 hft; obtain ⟨bk, off, ca, rfl, hcell, hBw1, hbk⟩ := FtPost.row (by simp) hft; clear hft; have hQ1 := hP1'.keep hBw1; have hQ2 := hP2'.keep hBw1; have hQ3 := hP3.keep hBw1; obtain ⟨c0, c1⟩ := hQ1.two; have cf := hQ1.free; obtain ⟨d0, d1, d2⟩ := hQ2.three; have df := hQ2.free; obtain ⟨e0, e1, e2⟩ := hQ3.three; have ef := hQ3.free; have x0 : w1.cell? ⟨bk, off, none⟩ = some (.int .i64 Y) := hcell 0 (by simp); have x1 : w1.cell? ⟨bk, off + 1, none⟩ = some (.int .i64 M) := hcell 1 (by simp); clear hcell) | (go_at_call 156; refine (outside_no _ _ _ _ (by omega) (by omega)).mono ?_; rintro e w2 ⟨rfl, rfl⟩))
   have hbk1 : bk ≠ w.heap.size + 1 := by omega
   have hbk2 : bk ≠ w.heap.size + 1 + 1 := by omega
   have z0 : w1.drew.cell? ⟨bk, off, none⟩ = some (.int .i64 Y) := x0
   have z1 : w1.drew.cell? ⟨bk, off + 1, none⟩ = some (.int .i64 M) := x1
   have HLEN := Lib.hid (fun V => lengthOf_any Y M V (by omega) hm1 hm2)
   go_region_held3 (fun w' => w'.cell? ⟨bk, off, none⟩ = some (.int .i64 Y) ∧ w'.cell? ⟨bk, off + 1, none⟩ = some (.int .i64 M)) (first | (with_reducible exact ⟨x0, x1⟩) | (with_reducible exact ⟨z0, z1⟩) | (with_reducible exact ⟨y0, y1⟩) | (with_reducible exact ⟨cell_set3 hbk1 y0, cell_set3 hbk1 y1⟩) | (with_reducible exact ⟨cell_set3 hbk2 (cell_set3 hbk1 y0), cell_set3 hbk2 (cell_set3 hbk1 y1)⟩)) (first | (go_at_call 158; refine (HLEN.out _).mono ?_; rintro e w3 ⟨rfl, hB3⟩; have y0 := cell_below hB3 z0; have y1 := cell_below hB3 z1; have hR1 := hQ1.drew.keep hB3; have hR2 := hQ2.drew.keep hB3; have hR3 := hQ3.drew.keep hB3; obtain ⟨c0, c1⟩ := hR1.two; have cf := hR1.free; obtain ⟨d0, d1, d2⟩ := hR2.three; have df := hR2.free; obtain ⟨e0, e1, e2⟩ := hR3.three; have ef := hR3.free))
   have hBr : Below w.heap.size w (((((((w3.setCell ⟨w.heap.size + 1, 0, none⟩ (.int .i64 Y)).setCell ⟨w.heap.size + 1, 1, none⟩ (.int .i64 M)).setCell ⟨w.heap.size + 1, 2, none⟩ (.int .i64 1)).setCell ⟨w.heap.size + 1 + 1, 0, none⟩ (.int .i64 Y)).setCell ⟨w.heap.size + 1 + 1, 1, none⟩ (.int .i64 M)).setCell ⟨w.heap.size + 1 + 1, 2, none⟩ (.int .i64 (Cal.len Y M)))) := below_set3 (below_set3 (below_up (below_drew1 (below_up hBa hBw1)) hB3) (by omega)) (by omega)
   have hS1 : Blk (((((((w3.setCell ⟨w.heap.size + 1, 0, none⟩ (.int .i64 Y)).setCell ⟨w.heap.size + 1, 1, none⟩ (.int .i64 M)).setCell ⟨w.heap.size + 1, 2, none⟩ (.int .i64 1)).setCell ⟨w.heap.size + 1 + 1, 0, none⟩ (.int .i64 Y)).setCell ⟨w.heap.size + 1 + 1, 1, none⟩ (.int .i64 M)).setCell ⟨w.heap.size + 1 + 1, 2, none⟩ (.int .i64 (Cal.len Y M)))) w.heap.size #[.int .i64 0, .int .i64 0] 108 := ((hR1.other3 (by omega)).other3 (by omega))
   have hS2 : Blk (((((((w3.setCell ⟨w.heap.size + 1, 0, none⟩ (.int .i64 Y)).setCell ⟨w.heap.size + 1, 1, none⟩ (.int .i64 M)).setCell ⟨w.heap.size + 1, 2, none⟩ (.int .i64 1)).setCell ⟨w.heap.size + 1 + 1, 0, none⟩ (.int .i64 Y)).setCell ⟨w.heap.size + 1 + 1, 1, none⟩ (.int .i64 M)).setCell ⟨w.heap.size + 1 + 1, 2, none⟩ (.int .i64 (Cal.len Y M)))) (w.heap.size + 1) #[.int .i64 Y, .int .i64 M, .int .i64 1] 138 := hR2.set3.other3 (by omega)
   have hS3 : Blk (((((((w3.setCell ⟨w.heap.size + 1, 0, none⟩ (.int .i64 Y)).setCell ⟨w.heap.size + 1, 1, none⟩ (.int .i64 M)).setCell ⟨w.heap.size + 1, 2, none⟩ (.int .i64 1)).setCell ⟨w.heap.size + 1 + 1, 0, none⟩ (.int .i64 Y)).setCell ⟨w.heap.size + 1 + 1, 1, none⟩ (.int .i64 M)).setCell ⟨w.heap.size + 1 + 1, 2, none⟩ (.int .i64 (Cal.len Y M)))) (w.heap.size + 1 + 1) #[.int .i64 Y, .int .i64 M, .int .i64 (Cal.len Y M)] 138 := (hR3.other3 (by omega)).set3
   clear hR1 hR2 hR3
   generalize (((((((w3.setCell ⟨w.heap.size + 1, 0, none⟩ (.int .i64 Y)).setCell ⟨w.heap.size + 1, 1, none⟩ (.int .i64 M)).setCell ⟨w.heap.size + 1, 2, none⟩ (.int .i64 1)).setCell ⟨w.heap.size + 1 + 1, 0, none⟩ (.int .i64 Y)).setCell ⟨w.heap.size + 1 + 1, 1, none⟩ (.int .i64 M)).setCell ⟨w.heap.size + 1 + 1, 2, none⟩ (.int .i64 (Cal.len Y M)))) = W4 at *
   have hR1 := hS1
   have hR2 := hS2
   have hR3 := hS3
   clear hS1 hS2 hS3
   clear c0 c1 d0 d1 d2 e0 e1 e2 cf df ef
   obtain ⟨c0, c1⟩ := hR1.two
   have cf := hR1.free
   obtain ⟨d0, d1, d2⟩ := hR2.three
   obtain ⟨e0, e1, e2⟩ := hR3.three
   go_wp2_with (go_at_call 195; (with_reducible first | (refine (HDA.out _).mono ?_) | (refine (HDB.out _).mono ?_)); rintro e w5 ⟨rfl, hB5⟩; have hR1 := hR1.keep hB5; have hR2 := hR2.keep hB5; have hR3 := hR3.keep hB5; have hBr := below_up hBr hB5; obtain ⟨c0, c1⟩ := hR1.two; have cf := hR1.free; obtain ⟨d0, d1, d2⟩ := hR2.three; obtain ⟨e0, e1, e2⟩ := hR3.three)
   refine bodyPost_ret (v := .tuple #[.agg #[.int .i64 0, .int .i64 0], .int .i64 1]) ?_ rfl ?_
   ·simp [results, Tryz.results161, go_sem, c0, c1]
   ·exact SpPost.err HO.out ((hBr.setCell (Nat.le_refl _) _).setCell (Nat.le_refl _) _)
  ·rw [hv, hv1, if_pos rfl, if_pos rfl] at HDB
   rw [hv1, if_pos rfl, if_pos rfl] at HDA
   have HO : Hid (Sp.outF (some ((Y, M, 1), (Y, M, Cal.len Y M))) = Sp.num (Y, M, 1) * 86400 ∧ Sp.outT (some ((Y, M, 1), (Y, M, Cal.len Y M))) = Sp.num (Y, M, Cal.len Y M) * 86400 + 86399 ∧ Sp.outE (some ((Y, M, 1), (Y, M, Cal.len Y M))) = 0) := by
    show _ ∧ _; rw [hv1] at hv; simp [Sp.outF, Sp.outT, Sp.outE, hv1, hv]
   have hn1 := Sp.num_bd hv1
   have hn2 := Sp.num_bd (hv.trans hv1)
   generalize Sp.num (Y, M, 1) = na at *
   generalize Sp.num (Y, M, Cal.len Y M) = nb at *
   clear hv1 hv
   go_enter Tryz.func161, Tryz.ntmps161
   go_wp2_with fail
   rw [HW1.out, HW2.out, HW3.out]
   go_wp2_with (first | (go_at_call 194; (with_reducible refine (HP.out _).mono ?_); intro e w1 hft; obtain ⟨bk, off, ca, rfl, hcell, hBw1, hbk⟩ := FtPost.row (by simp) hft; clear hft; have hQ1 := hP1'.keep hBw1; have hQ2 := hP2'.keep hBw1; have hQ3 := hP3.keep hBw1; obtain ⟨c0, c1⟩ := hQ1.two; have cf := hQ1.free; obtain ⟨d0, d1, d2⟩ := hQ2.three; have df := hQ2.free; obtain ⟨e0, e1, e2⟩ := hQ3.three; have ef := hQ3.free; have x0 : w1.cell? ⟨bk, off, none⟩ = some (.int .i64 Y) := hcell 0 (by simp); have x1 : w1.cell? ⟨bk, off + 1, none⟩ = some (.int .i64 M) := hcell 1 (by simp); clear hcell) | (go_at_call 156; refine (outside_no _ _ _ _ (by omega) (by omega)).mono ?_; rintro e w2 ⟨rfl, rfl⟩))
   have hbk1 : bk ≠ w.heap.size + 1 := by omega
   have hbk2 : bk ≠ w.heap.size + 1 + 1 := by omega
   have z0 : w1.drew.cell? ⟨bk, off, none⟩ = some (.int .i64 Y) := x0
   have z1 : w1.drew.cell? ⟨bk, off + 1, none⟩ = some (.int .i64 M) := x1
   have HLEN := Lib.hid (fun V => lengthOf_any Y M V (by omega) hm1 hm2)
   go_region_held3 (fun w' => w'.cell? ⟨bk, off, none⟩ = some (.int .i64 Y) ∧ w'.cell? ⟨bk, off + 1, none⟩ = some (.int .i64 M)) (first | (with_reducible exact ⟨x0, x1⟩) | (with_reducible exact ⟨z0, z1⟩) | (with_reducible exact ⟨y0, y1⟩) | (with_reducible exact ⟨cell_set3 hbk1 y0, cell_set3 hbk1 y1⟩) | (with_reducible exact ⟨cell_set3 hbk2 (cell_set3 hbk1 y0), cell_set3 hbk2 (cell_set3 hbk1 y1)⟩)) (first | (go_at_call 158; refine (HLEN.out _).mono ?_; rintro e w3 ⟨rfl, hB3⟩; have y0 := cell_below hB3 z0; have y1 := cell_below hB3 z1; have hR1 := hQ1.drew.keep hB3; have hR2 := hQ2.drew.keep hB3; have hR3 := hQ3.drew.keep hB3; obtain ⟨c0, c1⟩ := hR1.two; have cf := hR1.free; obtain ⟨d0, d1, d2⟩ := hR2.three; have df := hR2.free; obtain ⟨e0, e1, e2⟩ := hR3.three; have ef := hR3.free))
   have hBr : Below w.heap.size w (((((((w3.setCell ⟨w.heap.size + 1, 0, none⟩ (.int .i64 Y)).setCell ⟨w.heap.size + 1, 1, none⟩ (.int .i64 M)).setCell ⟨w.heap.size + 1, 2, none⟩ (.int .i64 1)).setCell ⟨w.heap.size + 1 + 1, 0, none⟩ (.int .i64 Y)).setCell ⟨w.heap.size + 1 + 1, 1, none⟩ (.int .i64 M)).setCell ⟨w.heap.size + 1 + 1, 2, none⟩ (.int .i64 (Cal.len Y M)))) := below_set3 (below_set3 (below_up (below_drew1 (below_up hBa hBw1)) hB3) (by omega)) (by omega)
   have hS1 : Blk (((((((w3.setCell ⟨w.heap.size + 1, 0, none⟩ (.int .i64 Y)).setCell ⟨w.heap.size + 1, 1, none⟩ (.int .i64 M)).setCell ⟨w.heap.size + 1, 2, none⟩ (.int .i64 1)).setCell ⟨w.heap.size + 1 + 1, 0, none⟩ (.int .i64 Y)).setCell ⟨w.heap.size + 1 + 1, 1, none⟩ (.int .i64 M)).setCell ⟨w.heap.size + 1 + 1, 2, none⟩ (.int .i64 (Cal.len Y M)))) w.heap.size #[.int .i64 0, .int .i64 0] 108 := ((hR1.other3 (by omega)).other3 (by omega))
   have hS2 : Blk (((((((w3.setCell ⟨w.heap.size + 1, 0, none⟩ (.int .i64 Y)).setCell ⟨w.heap.size + 1, 1, none⟩ (.int .i64 M)).setCell ⟨w.heap.size + 1, 2, none⟩ (.int .i64 1)).setCell ⟨w.heap.size + 1 + 1, 0, none⟩ (.int .i64 Y)).setCell ⟨w.heap.size + 1 + 1, 1, none⟩ (.int .i64 M)).setCell ⟨w.heap.size + 1 + 1, 2, none⟩ (.int .i64 (Cal.len Y M)))) (w.heap.size + 1) #[.int .i64 Y, .int .i64 M, .int .i64 1] 138 := hR2.set3.other3 (by omega)
   have hS3 : Blk (((((((w3.setCell ⟨w.heap.size + 1, 0, none⟩ (.int .i64 Y)).setCell ⟨w.heap.size + 1, 1, none⟩ (.int .i64 M)).setCell ⟨w.heap.size + 1, 2, none⟩ (.int .i64 1)).setCell ⟨w.heap.size + 1 + 1, 0, none⟩ (.int .i64 Y)).setCell ⟨w.heap.size + 1 + 1, 1, none⟩ (.int .i64 M)).setCell ⟨w.heap.size + 1 + 1, 2, none⟩ (.int .i64 (Cal.len Y M)))) (w.heap.size + 1 + 1) #[.int .i64 Y, .int .i64 M, .int .i64 (Cal.len Y M)] 138 := (hR3.other3 (by omega)).set3
   clear hR1 hR2 hR3
   generalize (((((((w3.setCell ⟨w.heap.size + 1, 0, none⟩ (.int .i64 Y)).setCell ⟨w.heap.size + 1, 1, none⟩ (.int .i64 M)).setCell ⟨w.heap.size + 1, 2, none⟩ (.int .i64 1)).setCell ⟨w.heap.size + 1 + 1, 0, none⟩ (.int .i64 Y)).setCell ⟨w.heap.size + 1 + 1, 1, none⟩ (.int .i64 M)).setCell ⟨w.heap.size + 1 + 1, 2, none⟩ (.int .i64 (Cal.len Y M)))) = W4 at *
   have hR1 := hS1
   have hR2 := hS2
   have hR3 := hS3
   clear hS1 hS2 hS3
   clear c0 c1 d0 d1 d2 e0 e1 e2 cf df ef
   obtain ⟨c0, c1⟩ := hR1.two
   have cf := hR1.free
   obtain ⟨d0, d1, d2⟩ := hR2.three
   obtain ⟨e0, e1, e2⟩ := hR3.three
   go_wp2_with (go_at_call 195; (with_reducible first | (refine (HDA.out _).mono ?_) | (refine (HDB.out _).mono ?_)); rintro e w5 ⟨rfl, hB5⟩; have hR1 := hR1.keep hB5; have hR2 := hR2.keep hB5; have hR3 := hR3.keep hB5; have hBr := below_up hBr hB5; obtain ⟨c0, c1⟩ := hR1.two; have cf := hR1.free; obtain ⟨d0, d1, d2⟩ := hR2.three; obtain ⟨e0, e1, e2⟩ := hR3.three)
   refine bodyPost_ret (v := .tuple #[.agg #[.int .i64 (na * 86400), .int .i64 (nb * 86400 + 86399)], .int .i64 0]) ?_ rfl ?_
   ·simp [results, Tryz.results161, go_sem, c0, c1]
    try omega
   ·exact SpPost.ok HO.out ((hBr.setCell (Nat.le_refl _) _).setCell (Nat.le_refl _) _)
 ·have HO : Hid (Sp.outF (some ((Y, M, 1), (Y, M, Cal.len Y M))) = 0 ∧ Sp.outT (some ((Y, M, 1), (Y, M, Cal.len Y M))) = 0 ∧ Sp.outE (some ((Y, M, 1), (Y, M, Cal.len Y M))) = 1) := by
   have hv1 : Sp.vld (Y, M, 1) = false := by
    rw [← Bool.not_eq_true]; intro h; have := (Cal.vld_iff _ _ _).1 h; exact hmm ⟨this.2.2.1, this.2.2.2.1⟩
   show _ ∧ _; simp [Sp.outF, Sp.outT, Sp.outE, hv1]
  go_enter Tryz.func161, Tryz.ntmps161
  go_wp2_with fail
  rw [HW1.out, HW2.out, HW3.out]
  go_wp2_with (first | (go_at_call 194; (with_reducible refine (HP.out _).mono ?_); intro e w1 hft; obtain ⟨bk, off, ca, rfl, hcell, hBw1, hbk⟩ := FtPost.row (by simp) hft; clear hft; have hQ1 := hP1'.keep hBw1; have hQ2 := hP2'.keep hBw1; have hQ3 := hP3.keep hBw1; obtain ⟨c0, c1⟩ := hQ1.two; have cf := hQ1.free; obtain ⟨d0, d1, d2⟩ := hQ2.three; have df := hQ2.free; obtain ⟨e0, e1, e2⟩ := hQ3.three; have ef := hQ3.free; have x0 : w1.cell? ⟨bk, off, none⟩ = some (.int .i64 Y) := hcell 0 (by simp); have x1 : w1.cell? ⟨bk, off + 1, none⟩ = some (.int .i64 M) := hcell 1 (by simp); clear hcell) | (go_at_call 156; refine (outside_yes _ _ _ _ (by omega)).mono ?_; rintro e w2 ⟨rfl, rfl⟩))
  refine bodyPost_ret (v := .tuple #[.agg #[.int .i64 0, .int .i64 0], .int .i64 1]) ?_ rfl ?_
  ·simp [results, Tryz.results161, go_sem, c0, c1]
  ·exact SpPost.err HO.out (((below_up hBa hBw1).setCell (Nat.le_refl _) _).setCell (Nat.le_refl _) _)
theorem unit_is (s : List UInt8) (hs : s.length ≤ 1000000000000) (w : World) : Calls Tryz.prog 161 #[.string (Tx.mk s)] w (SpPost w (Sp.kind s)) := by
 by_cases h4 : s.length = 4
 ·by_cases hk : 0 ≤ Sc.fx s 0 4
  ·exact unit_yes4 s h4 hk w
  ·exact unit_no4 s h4 hk w
 ·by_cases h7 : s.length = 7
  ·by_cases hk : 0 ≤ Sc.fx s 0 4 ∧ s[4]? = some 45 ∧ 0 ≤ Sc.fx s 5 7
   ·exact unit_yes7 s h7 hk w
   ·exact unit_no7 s h7 hk w
  ·by_cases hk : s.length = 10 ∧ 0 ≤ Sc.fx s 0 4 ∧ s[4]? = some 45 ∧ 0 ≤ Sc.fx s 5 7 ∧ s[7]? = some 45 ∧ 0 ≤ Sc.fx s 8 10
   ·exact unit_yes10 s hk w
   ·exact unit_no10 s hs h4 h7 hk w
theorem fixedSame_is (s : List UInt8) (a b n : Nat) (hn : b - a = n) (h : n ≤ 18) (hs : b ≤ s.length) (w : World) :
  Calls Tryz.prog 196 #[.string (Tx.mk (Ft.win s a b)), .int .i64 n] w fun e w' => e = .returned (.int .i64 (Sc.fx s a b)) ∧ w = w' := by
 have hl := Ft.win_len s a b hs
 refine (fixed_is (Ft.win s a b) n h (by omega) w).mono ?_
 rintro e w' ⟨rfl, rfl⟩
 refine ⟨?_, rfl⟩
 unfold Sc.fx
 by_cases c : Dg.allD (Ft.win s a b) = true
 ·rw [if_pos ⟨by omega, c⟩, if_pos c]
 ·rw [if_neg (fun h => c h.2), if_neg c]
theorem dayFor_at (d : Sp.D3) (W : World) : Calls Tryz.prog 152 #[.agg #[.int .i64 d.1, .int .i64 d.2.1, .int .i64 d.2.2]] W fun e w' => e = .returned (.int .i64 (if Sp.vld d = true then Sp.num d else -1)) ∧ Below W.heap.size W w' := by
 obtain ⟨y, m, d⟩ := d
 cases h : Sp.vld (y, m, d)
 ·rw [if_neg (by simp)]; exact dayFor_no y m d W h
 ·rw [if_pos rfl]; exact dayFor_yes y m d W h
theorem one_no4 (s : List UInt8) (hl : s.length = 4) (hk : ¬ 0 ≤ Sc.fx s 0 4) (w : World) : Calls Tryz.prog 162 #[.string (Tx.mk s)] w (SpPost w (Sp.kind s)) := by
 obtain ⟨W1, hW1, hP1, hz1, hB1⟩ := box w #[.int .i64 0, .int .i64 0] 108
 obtain ⟨W2, hW2, hP2, hz2, hB2⟩ := box W1 #[.int .i64 0, .int .i64 0, .int .i64 0] 138
 obtain ⟨W3, hW3, hP3, hz3, hB3⟩ := box W2 #[.int .i64 0, .int .i64 0, .int .i64 0] 138
 have HW1 := Lib.hid hW1
 have HW2 := Lib.hid hW2
 have HW3 := Lib.hid hW3
 have hR1 := (hP1.keep hB2).keep hB3
 have hR2 := hP2.keep hB3
 have hBr := below_up (below_up hB1 hB2) hB3
 rw [hz1] at hR2
 rw [hz2, hz1] at hP3
 have hR3 := hP3
 have hsz := Tx.mk_size s
 have hz3' : W3.heap.size = w.heap.size + 3 := by rw [hz3, hz2, hz1]
 clear hW1 hW2 hW3 hP1 hP2 hP3 hB1 hB2 hB3 hz1 hz2 hz3
 obtain ⟨c0, c1⟩ := hR1.two
 have cf := hR1.free
 obtain ⟨d0, d1, d2⟩ := hR2.three
 have df := hR2.free
 obtain ⟨e0, e1, e2⟩ := hR3.three
 have ef := hR3.free
 have F0 : Hid (∀ W, Calls Tryz.prog 196 #[.string (Tx.mk s), .int .i64 4] W fun e w' => e = .returned (.int .i64 (Sc.fx s 0 4)) ∧ W = w') := fun W => by
  have := fixedSame_is s 0 4 4 rfl (by omega) (by omega) W
  rwa [Ft.win_all s 4 hl] at this
 have F1 := F0
 have F2 := F0
 have HK : Hid (Sp.kind s = none) := by show _ = _; unfold Sp.kind; rw [if_pos hl, if_neg hk]
 rw [HK.out]
 rw [hl] at hsz
 clear hl
 generalize Sc.fx s 0 4 = Y at *
 go_enter Tryz.func162, Tryz.ntmps162
 go_wp2_with fail
 rw [HW1.out, HW2.out, HW3.out]
 go_wp2_with (go_at_call 196; (with_reducible first | (refine (F0.out _).mono ?_) | (refine (F1.out _).mono ?_) | (refine (F2.out _).mono ?_)); rintro e w9 ⟨rfl, rfl⟩)
 refine bodyPost_ret (v := .tuple #[.agg #[.int .i64 0, .int .i64 0], .int .i64 8]) ?_ rfl ?_
 ·simp [results, Tryz.results162, go_sem, c0, c1]
 ·first | exact SpPost.err ⟨rfl, rfl, rfl⟩ hBr | exact SpPost.err ⟨rfl, rfl, rfl⟩ ((hBr.setCell (Nat.le_refl _) _).setCell (Nat.le_refl _) _)
theorem one_no7 (s : List UInt8) (hl : s.length = 7) (hk : ¬ (0 ≤ Sc.fx s 0 4 ∧ s[4]? = some 45 ∧ 0 ≤ Sc.fx s 5 7)) (w : World) : Calls Tryz.prog 162 #[.string (Tx.mk s)] w (SpPost w (Sp.kind s)) := by
 obtain ⟨W1, hW1, hP1, hz1, hB1⟩ := box w #[.int .i64 0, .int .i64 0] 108
 obtain ⟨W2, hW2, hP2, hz2, hB2⟩ := box W1 #[.int .i64 0, .int .i64 0, .int .i64 0] 138
 obtain ⟨W3, hW3, hP3, hz3, hB3⟩ := box W2 #[.int .i64 0, .int .i64 0, .int .i64 0] 138
 have HW1 := Lib.hid hW1
 have HW2 := Lib.hid hW2
 have HW3 := Lib.hid hW3
 have hR1 := (hP1.keep hB2).keep hB3
 have hR2 := hP2.keep hB3
 have hBr := below_up (below_up hB1 hB2) hB3
 rw [hz1] at hR2
 rw [hz2, hz1] at hP3
 have hR3 := hP3
 have hsz := Tx.mk_size s
 have hz3' : W3.heap.size = w.heap.size + 3 := by rw [hz3, hz2, hz1]
 clear hW1 hW2 hW3 hP1 hP2 hP3 hB1 hB2 hB3 hz1 hz2 hz3
 obtain ⟨c0, c1⟩ := hR1.two
 have cf := hR1.free
 obtain ⟨d0, d1, d2⟩ := hR2.three
 have df := hR2.free
 obtain ⟨e0, e1, e2⟩ := hR3.three
 have ef := hR3.free
 have F0 : Hid (∀ W, Calls Tryz.prog 196 #[.string (Tx.mk (Ft.win s 0 4)), .int .i64 4] W fun e w' => e = .returned (.int .i64 (Sc.fx s 0 4)) ∧ W = w') := fun W => fixedSame_is s 0 4 4 rfl (by omega) (by omega) W
 have F1 : Hid (∀ W, Calls Tryz.prog 196 #[.string (Tx.mk (Ft.win s 5 7)), .int .i64 2] W fun e w' => e = .returned (.int .i64 (Sc.fx s 5 7)) ∧ W = w') := fun W => fixedSame_is s 5 7 2 rfl (by omega) (by omega) W
 have F2 := F0
 have x0 := ext_mk s 0 4
 have x1 := ext_mk s 5 7
 have HK : Hid (Sp.kind s = none) := by show _ = _; unfold Sp.kind; rw [if_neg (by omega), if_pos hl, if_neg hk]
 rw [HK.out]
 rw [hl] at hsz
 obtain ⟨b4, g4⟩ : ∃ c, s[4]? = some c := ⟨_, List.getElem?_eq_getElem (by omega)⟩
 have a4 := strAt s 4 b4 g4
 by_cases q4 : b4 = 45
 ·subst q4
  rw [g4] at hk
  clear hl
  generalize Sc.fx s 0 4 = Y at *
  generalize Sc.fx s 5 7 = M at *
  by_cases q0 : 0 ≤ Y
  ·have q1 : ¬ 0 ≤ M := fun h => hk ⟨q0, rfl, h⟩
   clear hk
   go_enter Tryz.func162, Tryz.ntmps162
   go_wp2_with fail
   rw [HW1.out, HW2.out, HW3.out]
   go_wp2_with (go_at_call 196; (with_reducible first | (refine (F0.out _).mono ?_) | (refine (F1.out _).mono ?_) | (refine (F2.out _).mono ?_)); rintro e w9 ⟨rfl, rfl⟩)
   refine bodyPost_ret (v := .tuple #[.agg #[.int .i64 0, .int .i64 0], .int .i64 8]) ?_ rfl ?_
   ·simp [results, Tryz.results162, go_sem, c0, c1]
   ·first | exact SpPost.err ⟨rfl, rfl, rfl⟩ hBr | exact SpPost.err ⟨rfl, rfl, rfl⟩ ((hBr.setCell (Nat.le_refl _) _).setCell (Nat.le_refl _) _)
  ·clear hk
   go_enter Tryz.func162, Tryz.ntmps162
   go_wp2_with fail
   rw [HW1.out, HW2.out, HW3.out]
   go_wp2_with (go_at_call 196; (with_reducible first | (refine (F0.out _).mono ?_) | (refine (F1.out _).mono ?_) | (refine (F2.out _).mono ?_)); rintro e w9 ⟨rfl, rfl⟩)
   refine bodyPost_ret (v := .tuple #[.agg #[.int .i64 0, .int .i64 0], .int .i64 8]) ?_ rfl ?_
   ·simp [results, Tryz.results162, go_sem, c0, c1]
   ·first | exact SpPost.err ⟨rfl, rfl, rfl⟩ hBr | exact SpPost.err ⟨rfl, rfl, rfl⟩ ((hBr.setCell (Nat.le_refl _) _).setCell (Nat.le_refl _) _)
 ·have n4 : ¬ (b4.toNat : Int) = 45 := ne_of q4
  clear hk hl
  go_enter Tryz.func162, Tryz.ntmps162
  go_wp2_with fail
  rw [HW1.out, HW2.out, HW3.out]
  go_wp2_with (go_at_call 196; (with_reducible first | (refine (F0.out _).mono ?_) | (refine (F1.out _).mono ?_) | (refine (F2.out _).mono ?_)); rintro e w9 ⟨rfl, rfl⟩)
  refine bodyPost_ret (v := .tuple #[.agg #[.int .i64 0, .int .i64 0], .int .i64 8]) ?_ rfl ?_
  ·simp [results, Tryz.results162, go_sem, c0, c1]
  ·first | exact SpPost.err ⟨rfl, rfl, rfl⟩ hBr | exact SpPost.err ⟨rfl, rfl, rfl⟩ ((hBr.setCell (Nat.le_refl _) _).setCell (Nat.le_refl _) _)
theorem one_no10 (s : List UInt8) (hl : s.length = 10) (hk : ¬ (0 ≤ Sc.fx s 0 4 ∧ s[4]? = some 45 ∧ 0 ≤ Sc.fx s 5 7 ∧ s[7]? = some 45 ∧ 0 ≤ Sc.fx s 8 10)) (w : World) : Calls Tryz.prog 162 #[.string (Tx.mk s)] w (SpPost w (Sp.kind s)) := by
 obtain ⟨W1, hW1, hP1, hz1, hB1⟩ := box w #[.int .i64 0, .int .i64 0] 108
 obtain ⟨W2, hW2, hP2, hz2, hB2⟩ := box W1 #[.int .i64 0, .int .i64 0, .int .i64 0] 138
 obtain ⟨W3, hW3, hP3, hz3, hB3⟩ := box W2 #[.int .i64 0, .int .i64 0, .int .i64 0] 138
 have HW1 := Lib.hid hW1
 have HW2 := Lib.hid hW2
 have HW3 := Lib.hid hW3
 have hR1 := (hP1.keep hB2).keep hB3
 have hR2 := hP2.keep hB3
 have hBr := below_up (below_up hB1 hB2) hB3
 rw [hz1] at hR2
 rw [hz2, hz1] at hP3
 have hR3 := hP3
 have hsz := Tx.mk_size s
 have hz3' : W3.heap.size = w.heap.size + 3 := by rw [hz3, hz2, hz1]
 clear hW1 hW2 hW3 hP1 hP2 hP3 hB1 hB2 hB3 hz1 hz2 hz3
 obtain ⟨c0, c1⟩ := hR1.two
 have cf := hR1.free
 obtain ⟨d0, d1, d2⟩ := hR2.three
 have df := hR2.free
 obtain ⟨e0, e1, e2⟩ := hR3.three
 have ef := hR3.free
 have F0 : Hid (∀ W, Calls Tryz.prog 196 #[.string (Tx.mk (Ft.win s 0 4)), .int .i64 4] W fun e w' => e = .returned (.int .i64 (Sc.fx s 0 4)) ∧ W = w') := fun W => fixedSame_is s 0 4 4 rfl (by omega) (by omega) W
 have F1 : Hid (∀ W, Calls Tryz.prog 196 #[.string (Tx.mk (Ft.win s 5 7)), .int .i64 2] W fun e w' => e = .returned (.int .i64 (Sc.fx s 5 7)) ∧ W = w') := fun W => fixedSame_is s 5 7 2 rfl (by omega) (by omega) W
 have F2 : Hid (∀ W, Calls Tryz.prog 196 #[.string (Tx.mk (Ft.win s 8 10)), .int .i64 2] W fun e w' => e = .returned (.int .i64 (Sc.fx s 8 10)) ∧ W = w') := fun W => fixedSame_is s 8 10 2 rfl (by omega) (by omega) W
 have x0 := ext_mk s 0 4
 have x1 := ext_mk s 5 7
 have x2 := ext_mk s 8 10
 have HK : Hid (Sp.kind s = none) := by show _ = _; unfold Sp.kind; rw [if_neg (by omega), if_neg (by omega), if_pos hl, if_neg hk]
 rw [HK.out]
 rw [hl] at hsz
 obtain ⟨b4, g4⟩ : ∃ c, s[4]? = some c := ⟨_, List.getElem?_eq_getElem (by omega)⟩
 obtain ⟨b7, g7⟩ : ∃ c, s[7]? = some c := ⟨_, List.getElem?_eq_getElem (by omega)⟩
 have a4 := strAt s 4 b4 g4
 have a7 := strAt s 7 b7 g7
 by_cases q4 : b4 = 45
 ·subst q4
  by_cases q7 : b7 = 45
  ·subst q7
   rw [g4, g7] at hk
   clear hl
   generalize Sc.fx s 0 4 = Y at *
   generalize Sc.fx s 5 7 = M at *
   generalize Sc.fx s 8 10 = D at *
   by_cases q0 : 0 ≤ Y
   ·by_cases q1 : 0 ≤ M
    ·have q2 : ¬ 0 ≤ D := fun h => hk ⟨q0, rfl, q1, rfl, h⟩
     clear hk
     go_enter Tryz.func162, Tryz.ntmps162
     go_wp2_with fail
     rw [HW1.out, HW2.out, HW3.out]
     go_wp2_with (go_at_call 196; (with_reducible first | (refine (F0.out _).mono ?_) | (refine (F1.out _).mono ?_) | (refine (F2.out _).mono ?_)); rintro e w9 ⟨rfl, rfl⟩)
     refine bodyPost_ret (v := .tuple #[.agg #[.int .i64 0, .int .i64 0], .int .i64 8]) ?_ rfl ?_
     ·simp [results, Tryz.results162, go_sem, c0, c1]
     ·first | exact SpPost.err ⟨rfl, rfl, rfl⟩ hBr | exact SpPost.err ⟨rfl, rfl, rfl⟩ ((hBr.setCell (Nat.le_refl _) _).setCell (Nat.le_refl _) _)
    ·clear hk
     go_enter Tryz.func162, Tryz.ntmps162
     go_wp2_with fail
     rw [HW1.out, HW2.out, HW3.out]
     go_wp2_with (go_at_call 196; (with_reducible first | (refine (F0.out _).mono ?_) | (refine (F1.out _).mono ?_) | (refine (F2.out _).mono ?_)); rintro e w9 ⟨rfl, rfl⟩)
     refine bodyPost_ret (v := .tuple #[.agg #[.int .i64 0, .int .i64 0], .int .i64 8]) ?_ rfl ?_
     ·simp [results, Tryz.results162, go_sem, c0, c1]
     ·first | exact SpPost.err ⟨rfl, rfl, rfl⟩ hBr | exact SpPost.err ⟨rfl, rfl, rfl⟩ ((hBr.setCell (Nat.le_refl _) _).setCell (Nat.le_refl _) _)
   ·clear hk
    go_enter Tryz.func162, Tryz.ntmps162
    go_wp2_with fail
    rw [HW1.out, HW2.out, HW3.out]
    go_wp2_with (go_at_call 196; (with_reducible first | (refine (F0.out _).mono ?_) | (refine (F1.out _).mono ?_) | (refine (F2.out _).mono ?_)); rintro e w9 ⟨rfl, rfl⟩)
    refine bodyPost_ret (v := .tuple #[.agg #[.int .i64 0, .int .i64 0], .int .i64 8]) ?_ rfl ?_
    ·simp [results, Tryz.results162, go_sem, c0, c1]
    ·first | exact SpPost.err ⟨rfl, rfl, rfl⟩ hBr | exact SpPost.err ⟨rfl, rfl, rfl⟩ ((hBr.setCell (Nat.le_refl _) _).setCell (Nat.le_refl _) _)
  ·have n7 : ¬ (b7.toNat : Int) = 45 := ne_of q7
   clear hk hl
   go_enter Tryz.func162, Tryz.ntmps162
   go_wp2_with fail
   rw [HW1.out, HW2.out, HW3.out]
   go_wp2_with (go_at_call 196; (with_reducible first | (refine (F0.out _).mono ?_) | (refine (F1.out _).mono ?_) | (refine (F2.out _).mono ?_)); rintro e w9 ⟨rfl, rfl⟩)
   refine bodyPost_ret (v := .tuple #[.agg #[.int .i64 0, .int .i64 0], .int .i64 8]) ?_ rfl ?_
   ·simp [results, Tryz.results162, go_sem, c0, c1]
   ·first | exact SpPost.err ⟨rfl, rfl, rfl⟩ hBr | exact SpPost.err ⟨rfl, rfl, rfl⟩ ((hBr.setCell (Nat.le_refl _) _).setCell (Nat.le_refl _) _)
 ·have n4 : ¬ (b4.toNat : Int) = 45 := ne_of q4
  clear hk hl
  go_enter Tryz.func162, Tryz.ntmps162
  go_wp2_with fail
  rw [HW1.out, HW2.out, HW3.out]
  go_wp2_with (go_at_call 196; (with_reducible first | (refine (F0.out _).mono ?_) | (refine (F1.out _).mono ?_) | (refine (F2.out _).mono ?_)); rintro e w9 ⟨rfl, rfl⟩)
  refine bodyPost_ret (v := .tuple #[.agg #[.int .i64 0, .int .i64 0], .int .i64 8]) ?_ rfl ?_
  ·simp [results, Tryz.results162, go_sem, c0, c1]
  ·first | exact SpPost.err ⟨rfl, rfl, rfl⟩ hBr | exact SpPost.err ⟨rfl, rfl, rfl⟩ ((hBr.setCell (Nat.le_refl _) _).setCell (Nat.le_refl _) _)
theorem one_no (s : List UInt8) (h4 : ¬ s.length = 4) (h7 : ¬ s.length = 7) (h10 : ¬ s.length = 10) (w : World) : Calls Tryz.prog 162 #[.string (Tx.mk s)] w (SpPost w (Sp.kind s)) := by
 obtain ⟨W1, hW1, hP1, hz1, hB1⟩ := box w #[.int .i64 0, .int .i64 0] 108
 obtain ⟨W2, hW2, hP2, hz2, hB2⟩ := box W1 #[.int .i64 0, .int .i64 0, .int .i64 0] 138
 obtain ⟨W3, hW3, hP3, hz3, hB3⟩ := box W2 #[.int .i64 0, .int .i64 0, .int .i64 0] 138
 have HW1 := Lib.hid hW1
 have HW2 := Lib.hid hW2
 have HW3 := Lib.hid hW3
 have hR1 := (hP1.keep hB2).keep hB3
 have hR2 := hP2.keep hB3
 have hBr := below_up (below_up hB1 hB2) hB3
 rw [hz1] at hR2
 rw [hz2, hz1] at hP3
 have hR3 := hP3
 have hsz := Tx.mk_size s
 have hz3' : W3.heap.size = w.heap.size + 3 := by rw [hz3, hz2, hz1]
 clear hW1 hW2 hW3 hP1 hP2 hP3 hB1 hB2 hB3 hz1 hz2 hz3
 obtain ⟨c0, c1⟩ := hR1.two
 have cf := hR1.free
 obtain ⟨d0, d1, d2⟩ := hR2.three
 have df := hR2.free
 obtain ⟨e0, e1, e2⟩ := hR3.three
 have ef := hR3.free
 have HK : Hid (Sp.kind s = none) := by show _ = _; unfold Sp.kind; rw [if_neg h4, if_neg h7, if_neg h10]
 rw [HK.out]
 have h4' : ¬ (s.length : Int) = 4 := by omega
 have h7' : ¬ (s.length : Int) = 7 := by omega
 have h10' : ¬ (s.length : Int) = 10 := by omega
 have h4b : ((s.length : Int) == 4) = false := by simp; omega
 have h7b : ((s.length : Int) == 7) = false := by simp; omega
 have h10b : ((s.length : Int) == 10) = false := by simp; omega
 clear h4 h7 h10
 go_enter Tryz.func162, Tryz.ntmps162
 go_wp2_with fail
 rw [HW1.out, HW2.out, HW3.out]
 go_wp2_with fail
 refine bodyPost_ret (v := .tuple #[.agg #[.int .i64 0, .int .i64 0], .int .i64 8]) ?_ rfl ?_
 ·simp [results, Tryz.results162, go_sem, c0, c1]
 ·first | exact SpPost.err ⟨rfl, rfl, rfl⟩ hBr | exact SpPost.err ⟨rfl, rfl, rfl⟩ ((hBr.setCell (Nat.le_refl _) _).setCell (Nat.le_refl _) _)
theorem cell_set2 {W : World} {b : Nat} {p : Addr} {v1 v2 x : Value} (ha : p.block ≠ b) (h : W.cell? p = some x) : ((W.setCell ⟨b, 0, none⟩ v1).setCell ⟨b, 1, none⟩ v2).cell? p = some x :=
 cell_set_other ha (cell_set_other ha h)
theorem one_yes4 (s : List UInt8) (hl : s.length = 4) (hk : 0 ≤ Sc.fx s 0 4) (w : World) : Calls Tryz.prog 162 #[.string (Tx.mk s)] w (SpPost w (Sp.kind s)) := by
 obtain ⟨W1, hW1, hP1, hz1, hB1⟩ := box w #[.int .i64 0, .int .i64 0] 108
 obtain ⟨W2, hW2, hP2, hz2, hB2⟩ := box W1 #[.int .i64 0, .int .i64 0, .int .i64 0] 138
 obtain ⟨W3, hW3, hP3, hz3, hB3⟩ := box W2 #[.int .i64 0, .int .i64 0, .int .i64 0] 138
 have HW1 := Lib.hid hW1
 have HW2 := Lib.hid hW2
 have HW3 := Lib.hid hW3
 have hR1 := (hP1.keep hB2).keep hB3
 have hR2 := hP2.keep hB3
 have hBr := below_up (below_up hB1 hB2) hB3
 rw [hz1] at hR2
 rw [hz2, hz1] at hP3
 have hR3 := hP3
 have hsz := Tx.mk_size s
 have hz3' : W3.heap.size = w.heap.size + 3 := by rw [hz3, hz2, hz1]
 clear hW1 hW2 hW3 hP1 hP2 hP3 hB1 hB2 hB3 hz1 hz2 hz3
 obtain ⟨c0, c1⟩ := hR1.two
 have cf := hR1.free
 obtain ⟨d0, d1, d2⟩ := hR2.three
 have df := hR2.free
 obtain ⟨e0, e1, e2⟩ := hR3.three
 have ef := hR3.free
 have F0 : Hid (∀ W, Calls Tryz.prog 196 #[.string (Tx.mk s), .int .i64 4] W fun e w' => e = .returned (.int .i64 (Sc.fx s 0 4)) ∧ W = w') := fun W => by
  have := fixedSame_is s 0 4 4 rfl (by omega) (by omega) W
  rwa [Ft.win_all s 4 hl] at this
 have F1 := F0
 have F2 := F0
 have HK : Hid (Sp.kind s = some ((Sc.fx s 0 4, 1, 1), (Sc.fx s 0 4, 12, 31))) := by show _ = _; unfold Sp.kind; rw [if_pos hl, if_pos hk]
 rw [HK.out]
 rw [hl] at hsz
 have hy := Sc.fx_bd s 0 4 (by omega)
 clear HK
 generalize Sc.fx s 0 4 = Y at *
 clear hl
 have HDA := Lib.hid (fun V => dayFor_at (Y, 1, 1) V)
 have HDB := Lib.hid (fun V => dayFor_at (Y, 12, 31) V)
 have hv : Sp.vld (Y, 12, 31) = Sp.vld (Y, 1, 1) := Sp.year_vld Y
 rw [hv] at HDB
 cases hv1 : Sp.vld (Y, 1, 1)
 ·rw [hv1, if_neg (by simp)] at HDA HDB
  have HO : Hid (Sp.outF (some ((Y, 1, 1), (Y, 12, 31))) = 0 ∧ Sp.outT (some ((Y, 1, 1), (Y, 12, 31))) = 0 ∧ Sp.outE (some ((Y, 1, 1), (Y, 12, 31))) = 1) := by
   show _ ∧ _; simp [Sp.outF, Sp.outT, Sp.outE, hv1]
  clear hv1 hv
  go_enter Tryz.func162, Tryz.ntmps162
  go_wp2_with fail
  rw [HW1.out, HW2.out, HW3.out]
  go_wp2_with (go_at_call 196; (with_reducible first | (refine (F0.out _).mono ?_) | (refine (F1.out _).mono ?_) | (refine (F2.out _).mono ?_)); rintro e w9 ⟨rfl, rfl⟩)
  have hS1 : Blk (((((((W3.setCell ⟨w.heap.size + 1, 0, none⟩ (.int .i64 Y)).setCell ⟨w.heap.size + 1, 1, none⟩ (.int .i64 1)).setCell ⟨w.heap.size + 1, 2, none⟩ (.int .i64 1)).setCell ⟨w.heap.size + 1 + 1, 0, none⟩ (.int .i64 Y)).setCell ⟨w.heap.size + 1 + 1, 1, none⟩ (.int .i64 12)).setCell ⟨w.heap.size + 1 + 1, 2, none⟩ (.int .i64 31))) w.heap.size #[.int .i64 0, .int .i64 0] 108 := ((hR1.other3 (by omega)).other3 (by omega))
  have hS2 : Blk (((((((W3.setCell ⟨w.heap.size + 1, 0, none⟩ (.int .i64 Y)).setCell ⟨w.heap.size + 1, 1, none⟩ (.int .i64 1)).setCell ⟨w.heap.size + 1, 2, none⟩ (.int .i64 1)).setCell ⟨w.heap.size + 1 + 1, 0, none⟩ (.int .i64 Y)).setCell ⟨w.heap.size + 1 + 1, 1, none⟩ (.int .i64 12)).setCell ⟨w.heap.size + 1 + 1, 2, none⟩ (.int .i64 31))) (w.heap.size + 1) #[.int .i64 Y, .int .i64 1, .int .i64 1] 138 := hR2.set3.other3 (by omega)
  have hS3 : Blk (((((((W3.setCell ⟨w.heap.size + 1, 0, none⟩ (.int .i64 Y)).setCell ⟨w.heap.size + 1, 1, none⟩ (.int .i64 1)).setCell ⟨w.heap.size + 1, 2, none⟩ (.int .i64 1)).setCell ⟨w.heap.size + 1 + 1, 0, none⟩ (.int .i64 Y)).setCell ⟨w.heap.size + 1 + 1, 1, none⟩ (.int .i64 12)).setCell ⟨w.heap.size + 1 + 1, 2, none⟩ (.int .i64 31))) (w.heap.size + 1 + 1) #[.int .i64 Y, .int .i64 12, .int .i64 31] 138 := (hR3.other3 (by omega)).set3
  have hSB : Below w.heap.size w (((((((W3.setCell ⟨w.heap.size + 1, 0, none⟩ (.int .i64 Y)).setCell ⟨w.heap.size + 1, 1, none⟩ (.int .i64 1)).setCell ⟨w.heap.size + 1, 2, none⟩ (.int .i64 1)).setCell ⟨w.heap.size + 1 + 1, 0, none⟩ (.int .i64 Y)).setCell ⟨w.heap.size + 1 + 1, 1, none⟩ (.int .i64 12)).setCell ⟨w.heap.size + 1 + 1, 2, none⟩ (.int .i64 31))) := below_set3 (below_set3 hBr (by omega)) (by omega)
  clear hR1 hR2 hR3 hBr c0 c1 d0 d1 d2 e0 e1 e2 cf df ef
  generalize (((((((W3.setCell ⟨w.heap.size + 1, 0, none⟩ (.int .i64 Y)).setCell ⟨w.heap.size + 1, 1, none⟩ (.int .i64 1)).setCell ⟨w.heap.size + 1, 2, none⟩ (.int .i64 1)).setCell ⟨w.heap.size + 1 + 1, 0, none⟩ (.int .i64 Y)).setCell ⟨w.heap.size + 1 + 1, 1, none⟩ (.int .i64 12)).setCell ⟨w.heap.size + 1 + 1, 2, none⟩ (.int .i64 31))) = W4 at *
  have hR1 := hS1
  have hR2 := hS2
  have hR3 := hS3
  have hBr := hSB
  clear hS1 hS2 hS3 hSB
  obtain ⟨c0, c1⟩ := hR1.two
  have cf := hR1.free
  obtain ⟨d0, d1, d2⟩ := hR2.three
  obtain ⟨e0, e1, e2⟩ := hR3.three
  go_wp2_with (go_at_call 152; (with_reducible first | (refine (HDA.out _).mono ?_) | (refine (HDB.out _).mono ?_)); rintro e w5 ⟨rfl, hB5⟩; have hR1 := hR1.keep hB5; have hR2 := hR2.keep hB5; have hR3 := hR3.keep hB5; have hBr := below_up hBr hB5; obtain ⟨c0, c1⟩ := hR1.two; have cf := hR1.free; obtain ⟨d0, d1, d2⟩ := hR2.three; obtain ⟨e0, e1, e2⟩ := hR3.three)
  refine bodyPost_ret (v := .tuple #[.agg #[.int .i64 0, .int .i64 0], .int .i64 1]) ?_ rfl ?_
  ·simp [results, Tryz.results162, go_sem, c0, c1]
  ·first | exact SpPost.err HO.out hBr | exact SpPost.err HO.out ((hBr.setCell (Nat.le_refl _) _).setCell (Nat.le_refl _) _)
 ·rw [hv1, if_pos rfl] at HDA HDB
  have HO : Hid (Sp.outF (some ((Y, 1, 1), (Y, 12, 31))) = Sp.num (Y, 1, 1) * 86400 ∧ Sp.outT (some ((Y, 1, 1), (Y, 12, 31))) = Sp.num (Y, 12, 31) * 86400 + 86399 ∧ Sp.outE (some ((Y, 1, 1), (Y, 12, 31))) = 0) := by
   show _ ∧ _; rw [hv1] at hv; simp [Sp.outF, Sp.outT, Sp.outE, hv1, hv]
  have hn1 := Sp.num_bd hv1
  have hn2 := Sp.num_bd (hv.trans hv1)
  generalize Sp.num (Y, 1, 1) = na at *
  generalize Sp.num (Y, 12, 31) = nb at *
  clear hv1 hv
  go_enter Tryz.func162, Tryz.ntmps162
  go_wp2_with fail
  rw [HW1.out, HW2.out, HW3.out]
  go_wp2_with (go_at_call 196; (with_reducible first | (refine (F0.out _).mono ?_) | (refine (F1.out _).mono ?_) | (refine (F2.out _).mono ?_)); rintro e w9 ⟨rfl, rfl⟩)
  have hS1 : Blk (((((((W3.setCell ⟨w.heap.size + 1, 0, none⟩ (.int .i64 Y)).setCell ⟨w.heap.size + 1, 1, none⟩ (.int .i64 1)).setCell ⟨w.heap.size + 1, 2, none⟩ (.int .i64 1)).setCell ⟨w.heap.size + 1 + 1, 0, none⟩ (.int .i64 Y)).setCell ⟨w.heap.size + 1 + 1, 1, none⟩ (.int .i64 12)).setCell ⟨w.heap.size + 1 + 1, 2, none⟩ (.int .i64 31))) w.heap.size #[.int .i64 0, .int .i64 0] 108 := ((hR1.other3 (by omega)).other3 (by omega))
  have hS2 : Blk (((((((W3.setCell ⟨w.heap.size + 1, 0, none⟩ (.int .i64 Y)).setCell ⟨w.heap.size + 1, 1, none⟩ (.int .i64 1)).setCell ⟨w.heap.size + 1, 2, none⟩ (.int .i64 1)).setCell ⟨w.heap.size + 1 + 1, 0, none⟩ (.int .i64 Y)).setCell ⟨w.heap.size + 1 + 1, 1, none⟩ (.int .i64 12)).setCell ⟨w.heap.size + 1 + 1, 2, none⟩ (.int .i64 31))) (w.heap.size + 1) #[.int .i64 Y, .int .i64 1, .int .i64 1] 138 := hR2.set3.other3 (by omega)
  have hS3 : Blk (((((((W3.setCell ⟨w.heap.size + 1, 0, none⟩ (.int .i64 Y)).setCell ⟨w.heap.size + 1, 1, none⟩ (.int .i64 1)).setCell ⟨w.heap.size + 1, 2, none⟩ (.int .i64 1)).setCell ⟨w.heap.size + 1 + 1, 0, none⟩ (.int .i64 Y)).setCell ⟨w.heap.size + 1 + 1, 1, none⟩ (.int .i64 12)).setCell ⟨w.heap.size + 1 + 1, 2, none⟩ (.int .i64 31))) (w.heap.size + 1 + 1) #[.int .i64 Y, .int .i64 12, .int .i64 31] 138 := (hR3.other3 (by omega)).set3
  have hSB : Below w.heap.size w (((((((W3.setCell ⟨w.heap.size + 1, 0, none⟩ (.int .i64 Y)).setCell ⟨w.heap.size + 1, 1, none⟩ (.int .i64 1)).setCell ⟨w.heap.size + 1, 2, none⟩ (.int .i64 1)).setCell ⟨w.heap.size + 1 + 1, 0, none⟩ (.int .i64 Y)).setCell ⟨w.heap.size + 1 + 1, 1, none⟩ (.int .i64 12)).setCell ⟨w.heap.size + 1 + 1, 2, none⟩ (.int .i64 31))) := below_set3 (below_set3 hBr (by omega)) (by omega)
  clear hR1 hR2 hR3 hBr c0 c1 d0 d1 d2 e0 e1 e2 cf df ef
  generalize (((((((W3.setCell ⟨w.heap.size + 1, 0, none⟩ (.int .i64 Y)).setCell ⟨w.heap.size + 1, 1, none⟩ (.int .i64 1)).setCell ⟨w.heap.size + 1, 2, none⟩ (.int .i64 1)).setCell ⟨w.heap.size + 1 + 1, 0, none⟩ (.int .i64 Y)).setCell ⟨w.heap.size + 1 + 1, 1, none⟩ (.int .i64 12)).setCell ⟨w.heap.size + 1 + 1, 2, none⟩ (.int .i64 31))) = W4 at *
  have hR1 := hS1
  have hR2 := hS2
  have hR3 := hS3
  have hBr := hSB
  clear hS1 hS2 hS3 hSB
  obtain ⟨c0, c1⟩ := hR1.two
  have cf := hR1.free
  obtain ⟨d0, d1, d2⟩ := hR2.three
  obtain ⟨e0, e1, e2⟩ := hR3.three
  go_wp2_with (go_at_call 152; (with_reducible first | (refine (HDA.out _).mono ?_) | (refine (HDB.out _).mono ?_)); rintro e w5 ⟨rfl, hB5⟩; have hR1 := hR1.keep hB5; have hR2 := hR2.keep hB5; have hR3 := hR3.keep hB5; have hBr := below_up hBr hB5; obtain ⟨c0, c1⟩ := hR1.two; have cf := hR1.free; obtain ⟨d0, d1, d2⟩ := hR2.three; obtain ⟨e0, e1, e2⟩ := hR3.three)
  have hR1 := hR1.drew
  have hR2 := hR2.drew
  have hR3 := hR3.drew
  have hBr := below_drew1 hBr
  have hne1 : w.heap.size + 1 ≠ w.heap.size := by omega
  have hne2 : w.heap.size + 1 + 1 ≠ w.heap.size := by omega
  have hw1 : IntKind.i64.wrap (na * 86400) = na * 86400 := IntWalk.i64_in _ (by omega)
  have hw2 : IntKind.i64.wrap (nb * 86400) = nb * 86400 := IntWalk.i64_in _ (by omega)
  have hw3 : IntKind.i64.wrap (nb * 86400 + 86400) = nb * 86400 + 86400 := IntWalk.i64_in _ (by omega)
  have hw4 : IntKind.i64.wrap (nb * 86400 + 86400 - 1) = nb * 86400 + 86400 - 1 := IntWalk.i64_in _ (by omega)
  obtain ⟨z0, z1, z2⟩ := hR2.three
  obtain ⟨y0, y1, y2⟩ := hR3.three
  go_region_held3 (fun w' => w'.cell? ⟨w.heap.size + 1, 0, none⟩ = some (.int .i64 Y) ∧ w'.cell? ⟨w.heap.size + 1, 1, none⟩ = some (.int .i64 1) ∧ w'.cell? ⟨w.heap.size + 1, 2, none⟩ = some (.int .i64 1) ∧ w'.cell? ⟨w.heap.size + 1 + 1, 0, none⟩ = some (.int .i64 Y) ∧ w'.cell? ⟨w.heap.size + 1 + 1, 1, none⟩ = some (.int .i64 12) ∧ w'.cell? ⟨w.heap.size + 1 + 1, 2, none⟩ = some (.int .i64 31)) (first | (with_reducible exact ⟨d0, d1, d2, e0, e1, e2⟩) | (with_reducible exact ⟨z0, z1, z2, y0, y1, y2⟩) | (with_reducible exact ⟨cell_set2 hne1 d0, cell_set2 hne1 d1, cell_set2 hne1 d2, cell_set2 hne2 e0, cell_set2 hne2 e1, cell_set2 hne2 e2⟩)) (first | (go_at_call 152; (with_reducible first | (refine (HDA.out _).mono ?_) | (refine (HDB.out _).mono ?_)); rintro e w6 ⟨rfl, hB5⟩; have hR1 := hR1.keep hB5; have hR2 := hR2.keep hB5; have hR3 := hR3.keep hB5; have hBr := below_up hBr hB5; obtain ⟨c0, c1⟩ := hR1.two; have cf := hR1.free; obtain ⟨d0, d1, d2⟩ := hR2.three; obtain ⟨e0, e1, e2⟩ := hR3.three))
  go_wp2_with fail
  refine bodyPost_ret (v := .tuple #[.agg #[.int .i64 (na * 86400), .int .i64 (nb * 86400 + 86399)], .int .i64 0]) ?_ rfl ?_
  ·simp [results, Tryz.results162, go_sem, c0, c1]
   omega
  ·exact SpPost.ok HO.out ((hBr.setCell (Nat.le_refl _) _).setCell (Nat.le_refl _) _)
end Go.Proofs.YtimjmjmpaicdbaaGreatDoor
