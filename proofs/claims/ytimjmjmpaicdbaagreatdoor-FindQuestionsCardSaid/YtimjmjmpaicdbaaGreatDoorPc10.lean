/- Parts of the proof, no condition: SpOne3. -/
import Derived.Test.YtimjmjmpaicdbaaGreatDoorPc9
set_option maxRecDepth 100000
set_option maxHeartbeats 4000000
set_option linter.unusedVariables false
namespace Go.Proofs.YtimjmjmpaicdbaaGreatDoor
open Go.RowKit Go.Sort Go.Shelf
theorem one_yes7 (s : List UInt8) (hl : s.length = 7) (hk : 0 ≤ Sc.fx s 0 4 ∧ s[4]? = some 45 ∧ 0 ≤ Sc.fx s 5 7) (w : World) : Calls Tryz.prog 162 #[.string (Tx.mk s)] w (SpPost w (Sp.kind s)) := by
 obtain ⟨W1, hW1, hP1, hz1, hB1⟩ := box w #[.int .i64 0, .int .i64 0] 108
 obtain ⟨W2, hW2, hP2, hz2, hB2⟩ := box W1 #[.int .i64 0, .int .i64 0, .int .i64 0] 138
 obtain ⟨W3, hW3, hP3, hz3, hB3⟩ := box W2 #[.int .i64 0, .int .i64 0, .int .i64 0] 138
 have HW1 := Lib.hid hW1
 have HW2 := Lib.hid hW2
 have HW3 := Lib.hid hW3
 have hR1 := (hP1.keep hB2).keep hB3
 have hR2 := hP2.keep hB3
 have hBr := below_up (below_up hB1 hB2) hB3
 rw [hz1] at hR2
 rw [hz2, hz1] at hP3
 have hR3 := hP3
 have hsz := Tx.mk_size s
 have hz3' : W3.heap.size = w.heap.size + 3 := by rw [hz3, hz2, hz1]
 clear hW1 hW2 hW3 hP1 hP2 hP3 hB1 hB2 hB3 hz1 hz2 hz3
 obtain ⟨c0, c1⟩ := hR1.two
 have cf := hR1.free
 obtain ⟨d0, d1, d2⟩ := hR2.three
 have df := hR2.free
 obtain ⟨e0, e1, e2⟩ := hR3.three
 have ef := hR3.free
 have F0 : Hid (∀ W, Calls Tryz.prog 196 #[.string (Tx.mk (Ft.win s 0 4)), .int .i64 4] W fun e w' => e = .returned (.int .i64 (Sc.fx s 0 4)) ∧ W = w') := fun W => fixedSame_is s 0 4 4 rfl (by omega) (by omega) W
 have F1 : Hid (∀ W, Calls Tryz.prog 196 #[.string (Tx.mk (Ft.win s 5 7)), .int .i64 2] W fun e w' => e = .returned (.int .i64 (Sc.fx s 5 7)) ∧ W = w') := fun W => fixedSame_is s 5 7 2 rfl (by omega) (by omega) W
 have F2 := F0
 have x0 := ext_mk s 0 4
 have x1 := ext_mk s 5 7
 have HK : Hid (Sp.kind s = some ((Sc.fx s 0 4, Sc.fx s 5 7, 1), (Sc.fx s 0 4, Sc.fx s 5 7, Cal.len (Sc.fx s 0 4) (Sc.fx s 5 7)))) := by show _ = _; unfold Sp.kind; rw [if_neg (by omega), if_pos hl, if_pos hk]
 rw [HK.out]
 rw [hl] at hsz
 have a4 : (Tx.mk s)[4]'(by rw [hsz]; omega) = 45 := strAt s 4 45 hk.2.1
 have hy := Sc.fx_bd s 0 4 (by omega)
 have hy0 := hk.1
 have hm := Sc.fx_bd s 5 7 (by omega)
 have hm0 := hk.2.2
 clear HK hk
 generalize Sc.fx s 0 4 = Y at *
 generalize Sc.fx s 5 7 = M at *
 clear hl
 have HLEN := Lib.hid (fun V => long_any Y M V hy0)
 have HDA := Lib.hid (fun V => dayFor_at (Y, M, 1) V)
 have HDB := Lib.hid (fun V => dayFor_at (Y, M, Cal.len Y M) V)
 have hv : Sp.vld (Y, M, Cal.len Y M) = Sp.vld (Y, M, 1) := Sp.month_vld Y M
 have hlen := Cal.len_bd Y M
 rw [hv] at HDB
 cases hv1 : Sp.vld (Y, M, 1)
 ·rw [hv1, if_neg (by simp)] at HDA HDB
  have HO : Hid (Sp.outF (some ((Y, M, 1), (Y, M, Cal.len Y M))) = 0 ∧ Sp.outT (some ((Y, M, 1), (Y, M, Cal.len Y M))) = 0 ∧ Sp.outE (some ((Y, M, 1), (Y, M, Cal.len Y M))) = 1) := by
   show _ ∧ _; simp [Sp.outF, Sp.outT, Sp.outE, hv1]
  clear hv1 hv
  go_enter Tryz.func162, Tryz.ntmps162
  go_wp2_with fail
  rw [HW1.out, HW2.out, HW3.out]
  go_wp2_with (go_at_call 196; (with_reducible first | (refine (F0.out _).mono ?_) | (refine (F1.out _).mono ?_) | (refine (F2.out _).mono ?_)); rintro e w9 ⟨rfl, rfl⟩)
  go_quiet ((go_at_call 196; first | with_reducible exact quiet_same (F0.out _) | with_reducible exact quiet_same (F1.out _)))
  have hR1 := hR1.drewN nq
  have hR2 := hR2.drewN nq
  have hR3 := hR3.drewN nq
  have hBr := below_drewN hBr nq
  generalize W3.drewN nq = V3 at *
  clear c0 c1 d0 d1 d2 e0 e1 e2 cf df ef
  obtain ⟨c0, c1⟩ := hR1.two
  have cf := hR1.free
  obtain ⟨d0, d1, d2⟩ := hR2.three
  have df := hR2.free
  obtain ⟨e0, e1, e2⟩ := hR3.three
  have ef := hR3.free
  go_wp2_with (go_at_call 185; (with_reducible refine (HLEN.out _).mono ?_); rintro e w8 ⟨rfl, rfl⟩)
  have hS1 : Blk (((((((V3.setCell ⟨w.heap.size + 1, 0, none⟩ (.int .i64 Y)).setCell ⟨w.heap.size + 1, 1, none⟩ (.int .i64 M)).setCell ⟨w.heap.size + 1, 2, none⟩ (.int .i64 1)).setCell ⟨w.heap.size + 1 + 1, 0, none⟩ (.int .i64 Y)).setCell ⟨w.heap.size + 1 + 1, 1, none⟩ (.int .i64 M)).setCell ⟨w.heap.size + 1 + 1, 2, none⟩ (.int .i64 (Cal.len Y M)))) w.heap.size #[.int .i64 0, .int .i64 0] 108 := ((hR1.other3 (by omega)).other3 (by omega))
  have hS2 : Blk (((((((V3.setCell ⟨w.heap.size + 1, 0, none⟩ (.int .i64 Y)).setCell ⟨w.heap.size + 1, 1, none⟩ (.int .i64 M)).setCell ⟨w.heap.size + 1, 2, none⟩ (.int .i64 1)).setCell ⟨w.heap.size + 1 + 1, 0, none⟩ (.int .i64 Y)).setCell ⟨w.heap.size + 1 + 1, 1, none⟩ (.int .i64 M)).setCell ⟨w.heap.size + 1 + 1, 2, none⟩ (.int .i64 (Cal.len Y M)))) (w.heap.size + 1) #[.int .i64 Y, .int .i64 M, .int .i64 1] 138 := hR2.set3.other3 (by omega)
  have hS3 : Blk (((((((V3.setCell ⟨w.heap.size + 1, 0, none⟩ (.int .i64 Y)).setCell ⟨w.heap.size + 1, 1, none⟩ (.int .i64 M)).setCell ⟨w.heap.size + 1, 2, none⟩ (.int .i64 1)).setCell ⟨w.heap.size + 1 + 1, 0, none⟩ (.int .i64 Y)).setCell ⟨w.heap.size + 1 + 1, 1, none⟩ (.int .i64 M)).setCell ⟨w.heap.size + 1 + 1, 2, none⟩ (.int .i64 (Cal.len Y M)))) (w.heap.size + 1 + 1) #[.int .i64 Y, .int .i64 M, .int .i64 (Cal.len Y M)] 138 := (hR3.other3 (by omega)).set3
  have hSB : Below w.heap.size w (((((((V3.setCell ⟨w.heap.size + 1, 0, none⟩ (.int .i64 Y)).setCell ⟨w.heap.size + 1, 1, none⟩ (.int .i64 M)).setCell ⟨w.heap.size + 1, 2, none⟩ (.int .i64 1)).setCell ⟨w.heap.size + 1 + 1, 0, none⟩ (.int .i64 Y)).setCell ⟨w.heap.size + 1 + 1, 1, none⟩ (.int .i64 M)).setCell ⟨w.heap.size + 1 + 1, 2, none⟩ (.int .i64 (Cal.len Y M)))) := below_set3 (below_set3 hBr (by omega)) (by omega)
  clear hR1 hR2 hR3 hBr c0 c1 d0 d1 d2 e0 e1 e2 cf df ef
  generalize (((((((V3.setCell ⟨w.heap.size + 1, 0, none⟩ (.int .i64 Y)).setCell ⟨w.heap.size + 1, 1, none⟩ (.int .i64 M)).setCell ⟨w.heap.size + 1, 2, none⟩ (.int .i64 1)).setCell ⟨w.heap.size + 1 + 1, 0, none⟩ (.int .i64 Y)).setCell ⟨w.heap.size + 1 + 1, 1, none⟩ (.int .i64 M)).setCell ⟨w.heap.size + 1 + 1, 2, none⟩ (.int .i64 (Cal.len Y M)))) = W4 at *
  have hR1 := hS1
  have hR2 := hS2
  have hR3 := hS3
  have hBr := hSB
  clear hS1 hS2 hS3 hSB
  obtain ⟨c0, c1⟩ := hR1.two
  have cf := hR1.free
  obtain ⟨d0, d1, d2⟩ := hR2.three
  obtain ⟨e0, e1, e2⟩ := hR3.three
  go_wp2_with (go_at_call 152; (with_reducible first | (refine (HDA.out _).mono ?_) | (refine (HDB.out _).mono ?_)); rintro e w5 ⟨rfl, hB5⟩; have hR1 := hR1.keep hB5; have hR2 := hR2.keep hB5; have hR3 := hR3.keep hB5; have hBr := below_up hBr hB5; obtain ⟨c0, c1⟩ := hR1.two; have cf := hR1.free; obtain ⟨d0, d1, d2⟩ := hR2.three; obtain ⟨e0, e1, e2⟩ := hR3.three)
  refine bodyPost_ret (v := .tuple #[.agg #[.int .i64 0, .int .i64 0], .int .i64 1]) ?_ rfl ?_
  ·simp [results, Tryz.results162, go_sem, c0, c1]
  ·first | exact SpPost.err HO.out hBr | exact SpPost.err HO.out ((hBr.setCell (Nat.le_refl _) _).setCell (Nat.le_refl _) _)
 ·rw [hv1, if_pos rfl] at HDA HDB
  have HO : Hid (Sp.outF (some ((Y, M, 1), (Y, M, Cal.len Y M))) = Sp.num (Y, M, 1) * 86400 ∧ Sp.outT (some ((Y, M, 1), (Y, M, Cal.len Y M))) = Sp.num (Y, M, Cal.len Y M) * 86400 + 86399 ∧ Sp.outE (some ((Y, M, 1), (Y, M, Cal.len Y M))) = 0) := by
   show _ ∧ _; rw [hv1] at hv; simp [Sp.outF, Sp.outT, Sp.outE, hv1, hv]
  have hn1 := Sp.num_bd hv1
  have hn2 := Sp.num_bd (hv.trans hv1)
  generalize Sp.num (Y, M, 1) = na at *
  generalize Sp.num (Y, M, Cal.len Y M) = nb at *
  clear hv1 hv
  go_enter Tryz.func162, Tryz.ntmps162
  go_wp2_with fail
  rw [HW1.out, HW2.out, HW3.out]
  go_wp2_with (go_at_call 196; (with_reducible first | (refine (F0.out _).mono ?_) | (refine (F1.out _).mono ?_) | (refine (F2.out _).mono ?_)); rintro e w9 ⟨rfl, rfl⟩)
  go_quiet ((go_at_call 196; first | with_reducible exact quiet_same (F0.out _) | with_reducible exact quiet_same (F1.out _)))
  have hR1 := hR1.drewN nq
  have hR2 := hR2.drewN nq
  have hR3 := hR3.drewN nq
  have hBr := below_drewN hBr nq
  generalize W3.drewN nq = V3 at *
  clear c0 c1 d0 d1 d2 e0 e1 e2 cf df ef
  obtain ⟨c0, c1⟩ := hR1.two
  have cf := hR1.free
  obtain ⟨d0, d1, d2⟩ := hR2.three
  have df := hR2.free
  obtain ⟨e0, e1, e2⟩ := hR3.three
  have ef := hR3.free
  go_wp2_with (go_at_call 185; (with_reducible refine (HLEN.out _).mono ?_); rintro e w8 ⟨rfl, rfl⟩)
  have hS1 : Blk (((((((V3.setCell ⟨w.heap.size + 1, 0, none⟩ (.int .i64 Y)).setCell ⟨w.heap.size + 1, 1, none⟩ (.int .i64 M)).setCell ⟨w.heap.size + 1, 2, none⟩ (.int .i64 1)).setCell ⟨w.heap.size + 1 + 1, 0, none⟩ (.int .i64 Y)).setCell ⟨w.heap.size + 1 + 1, 1, none⟩ (.int .i64 M)).setCell ⟨w.heap.size + 1 + 1, 2, none⟩ (.int .i64 (Cal.len Y M)))) w.heap.size #[.int .i64 0, .int .i64 0] 108 := ((hR1.other3 (by omega)).other3 (by omega))
  have hS2 : Blk (((((((V3.setCell ⟨w.heap.size + 1, 0, none⟩ (.int .i64 Y)).setCell ⟨w.heap.size + 1, 1, none⟩ (.int .i64 M)).setCell ⟨w.heap.size + 1, 2, none⟩ (.int .i64 1)).setCell ⟨w.heap.size + 1 + 1, 0, none⟩ (.int .i64 Y)).setCell ⟨w.heap.size + 1 + 1, 1, none⟩ (.int .i64 M)).setCell ⟨w.heap.size + 1 + 1, 2, none⟩ (.int .i64 (Cal.len Y M)))) (w.heap.size + 1) #[.int .i64 Y, .int .i64 M, .int .i64 1] 138 := hR2.set3.other3 (by omega)
  have hS3 : Blk (((((((V3.setCell ⟨w.heap.size + 1, 0, none⟩ (.int .i64 Y)).setCell ⟨w.heap.size + 1, 1, none⟩ (.int .i64 M)).setCell ⟨w.heap.size + 1, 2, none⟩ (.int .i64 1)).setCell ⟨w.heap.size + 1 + 1, 0, none⟩ (.int .i64 Y)).setCell ⟨w.heap.size + 1 + 1, 1, none⟩ (.int .i64 M)).setCell ⟨w.heap.size + 1 + 1, 2, none⟩ (.int .i64 (Cal.len Y M)))) (w.heap.size + 1 + 1) #[.int .i64 Y, .int .i64 M, .int .i64 (Cal.len Y M)] 138 := (hR3.other3 (by omega)).set3
  have hSB : Below w.heap.size w (((((((V3.setCell ⟨w.heap.size + 1, 0, none⟩ (.int .i64 Y)).setCell ⟨w.heap.size + 1, 1, none⟩ (.int .i64 M)).setCell ⟨w.heap.size + 1, 2, none⟩ (.int .i64 1)).setCell ⟨w.heap.size + 1 + 1, 0, none⟩ (.int .i64 Y)).setCell ⟨w.heap.size + 1 + 1, 1, none⟩ (.int .i64 M)).setCell ⟨w.heap.size + 1 + 1, 2, none⟩ (.int .i64 (Cal.len Y M)))) := below_set3 (below_set3 hBr (by omega)) (by omega)
  clear hR1 hR2 hR3 hBr c0 c1 d0 d1 d2 e0 e1 e2 cf df ef
  generalize (((((((V3.setCell ⟨w.heap.size + 1, 0, none⟩ (.int .i64 Y)).setCell ⟨w.heap.size + 1, 1, none⟩ (.int .i64 M)).setCell ⟨w.heap.size + 1, 2, none⟩ (.int .i64 1)).setCell ⟨w.heap.size + 1 + 1, 0, none⟩ (.int .i64 Y)).setCell ⟨w.heap.size + 1 + 1, 1, none⟩ (.int .i64 M)).setCell ⟨w.heap.size + 1 + 1, 2, none⟩ (.int .i64 (Cal.len Y M)))) = W4 at *
  have hR1 := hS1
  have hR2 := hS2
  have hR3 := hS3
  have hBr := hSB
  clear hS1 hS2 hS3 hSB
  obtain ⟨c0, c1⟩ := hR1.two
  have cf := hR1.free
  obtain ⟨d0, d1, d2⟩ := hR2.three
  obtain ⟨e0, e1, e2⟩ := hR3.three
  go_wp2_with (go_at_call 152; (with_reducible first | (refine (HDA.out _).mono ?_) | (refine (HDB.out _).mono ?_)); rintro e w5 ⟨rfl, hB5⟩; have hR1 := hR1.keep hB5; have hR2 := hR2.keep hB5; have hR3 := hR3.keep hB5; have hBr := below_up hBr hB5; obtain ⟨c0, c1⟩ := hR1.two; have cf := hR1.free; obtain ⟨d0, d1, d2⟩ := hR2.three; obtain ⟨e0, e1, e2⟩ := hR3.three)
  have hR1 := hR1.drew
  have hR2 := hR2.drew
  have hR3 := hR3.drew
  have hBr := below_drew1 hBr
  have hne1 : w.heap.size + 1 ≠ w.heap.size := by omega
  have hne2 : w.heap.size + 1 + 1 ≠ w.heap.size := by omega
  have hw1 : IntKind.i64.wrap (na * 86400) = na * 86400 := IntWalk.i64_in _ (by omega)
  have hw2 : IntKind.i64.wrap (nb * 86400) = nb * 86400 := IntWalk.i64_in _ (by omega)
  have hw3 : IntKind.i64.wrap (nb * 86400 + 86400) = nb * 86400 + 86400 := IntWalk.i64_in _ (by omega)
  have hw4 : IntKind.i64.wrap (nb * 86400 + 86400 - 1) = nb * 86400 + 86400 - 1 := IntWalk.i64_in _ (by omega)
  obtain ⟨z0, z1, z2⟩ := hR2.three
  obtain ⟨y0, y1, y2⟩ := hR3.three
  go_region_held3 (fun w' => w'.cell? ⟨w.heap.size + 1, 0, none⟩ = some (.int .i64 Y) ∧ w'.cell? ⟨w.heap.size + 1, 1, none⟩ = some (.int .i64 M) ∧ w'.cell? ⟨w.heap.size + 1, 2, none⟩ = some (.int .i64 1) ∧ w'.cell? ⟨w.heap.size + 1 + 1, 0, none⟩ = some (.int .i64 Y) ∧ w'.cell? ⟨w.heap.size + 1 + 1, 1, none⟩ = some (.int .i64 M) ∧ w'.cell? ⟨w.heap.size + 1 + 1, 2, none⟩ = some (.int .i64 (Cal.len Y M))) (first | (with_reducible exact ⟨d0, d1, d2, e0, e1, e2⟩) | (with_reducible exact ⟨z0, z1, z2, y0, y1, y2⟩) | (with_reducible exact ⟨cell_set2 hne1 d0, cell_set2 hne1 d1, cell_set2 hne1 d2, cell_set2 hne2 e0, cell_set2 hne2 e1, cell_set2 hne2 e2⟩)) (first | (go_at_call 152; (with_reducible first | (refine (HDA.out _).mono ?_) | (refine (HDB.out _).mono ?_)); rintro e w6 ⟨rfl, hB5⟩; have hR1 := hR1.keep hB5; have hR2 := hR2.keep hB5; have hR3 := hR3.keep hB5; have hBr := below_up hBr hB5; obtain ⟨c0, c1⟩ := hR1.two; have cf := hR1.free; obtain ⟨d0, d1, d2⟩ := hR2.three; obtain ⟨e0, e1, e2⟩ := hR3.three))
  go_wp2_with fail
  refine bodyPost_ret (v := .tuple #[.agg #[.int .i64 (na * 86400), .int .i64 (nb * 86400 + 86399)], .int .i64 0]) ?_ rfl ?_
  ·simp [results, Tryz.results162, go_sem, c0, c1]
   omega
  ·exact SpPost.ok HO.out ((hBr.setCell (Nat.le_refl _) _).setCell (Nat.le_refl _) _)
theorem cell_set3d {W : World} {b : Nat} {p : Addr} {v1 v2 v3 x : Value} (ha : p.block ≠ b) (h : W.cell? p = some x) : (((W.setCell ⟨b, 0, none⟩ v1).setCell ⟨b, 1, none⟩ v2).setCell ⟨b, 2, none⟩ v3).drew.cell? p = some x :=
 cell_set3 ha h
theorem one_yes10 (s : List UInt8) (hk : s.length = 10 ∧ 0 ≤ Sc.fx s 0 4 ∧ s[4]? = some 45 ∧ 0 ≤ Sc.fx s 5 7 ∧ s[7]? = some 45 ∧ 0 ≤ Sc.fx s 8 10) (w : World) : Calls Tryz.prog 162 #[.string (Tx.mk s)] w (SpPost w (Sp.kind s)) := by
 have hl := hk.1
 obtain ⟨W1, hW1, hP1, hz1, hB1⟩ := box w #[.int .i64 0, .int .i64 0] 108
 obtain ⟨W2, hW2, hP2, hz2, hB2⟩ := box W1 #[.int .i64 0, .int .i64 0, .int .i64 0] 138
 obtain ⟨W3, hW3, hP3, hz3, hB3⟩ := box W2 #[.int .i64 0, .int .i64 0, .int .i64 0] 138
 have HW1 := Lib.hid hW1
 have HW2 := Lib.hid hW2
 have HW3 := Lib.hid hW3
 have hR1 := (hP1.keep hB2).keep hB3
 have hR2 := hP2.keep hB3
 have hBr := below_up (below_up hB1 hB2) hB3
 rw [hz1] at hR2
 rw [hz2, hz1] at hP3
 have hR3 := hP3
 have hsz := Tx.mk_size s
 have hz3' : W3.heap.size = w.heap.size + 3 := by rw [hz3, hz2, hz1]
 clear hW1 hW2 hW3 hP1 hP2 hP3 hB1 hB2 hB3 hz1 hz2 hz3
 obtain ⟨c0, c1⟩ := hR1.two
 have cf := hR1.free
 obtain ⟨d0, d1, d2⟩ := hR2.three
 have df := hR2.free
 obtain ⟨e0, e1, e2⟩ := hR3.three
 have ef := hR3.free
 have F0 : Hid (∀ W, Calls Tryz.prog 196 #[.string (Tx.mk (Ft.win s 0 4)), .int .i64 4] W fun e w' => e = .returned (.int .i64 (Sc.fx s 0 4)) ∧ W = w') := fun W => fixedSame_is s 0 4 4 rfl (by omega) (by omega) W
 have F1 : Hid (∀ W, Calls Tryz.prog 196 #[.string (Tx.mk (Ft.win s 5 7)), .int .i64 2] W fun e w' => e = .returned (.int .i64 (Sc.fx s 5 7)) ∧ W = w') := fun W => fixedSame_is s 5 7 2 rfl (by omega) (by omega) W
 have F2 : Hid (∀ W, Calls Tryz.prog 196 #[.string (Tx.mk (Ft.win s 8 10)), .int .i64 2] W fun e w' => e = .returned (.int .i64 (Sc.fx s 8 10)) ∧ W = w') := fun W => fixedSame_is s 8 10 2 rfl (by omega) (by omega) W
 have x0 := ext_mk s 0 4
 have x1 := ext_mk s 5 7
 have x2 := ext_mk s 8 10
 have HK : Hid (Sp.kind s = some ((Sc.fx s 0 4, Sc.fx s 5 7, Sc.fx s 8 10), (Sc.fx s 0 4, Sc.fx s 5 7, Sc.fx s 8 10))) := by show _ = _; unfold Sp.kind; rw [if_neg (by omega), if_neg (by omega), if_pos hk.1, if_pos hk.2]
 rw [HK.out]
 rw [hl] at hsz
 have a4 : (Tx.mk s)[4]'(by rw [hsz]; omega) = 45 := strAt s 4 45 hk.2.2.1
 have a7 : (Tx.mk s)[7]'(by rw [hsz]; omega) = 45 := strAt s 7 45 hk.2.2.2.2.1
 have hy := Sc.fx_bd s 0 4 (by omega)
 have hm := Sc.fx_bd s 5 7 (by omega)
 have hd := Sc.fx_bd s 8 10 (by omega)
 have hy0 := hk.2.1
 have hm0 := hk.2.2.2.1
 have hd0 := hk.2.2.2.2.2
 clear HK hk
 generalize Sc.fx s 0 4 = Y at *
 generalize Sc.fx s 5 7 = M at *
 generalize Sc.fx s 8 10 = D at *
 clear hl
 have hne1 : w.heap.size ≠ w.heap.size + 1 := by omega
 have HDA := Lib.hid (fun V => dayFor_at (Y, M, D) V)
 cases hv1 : Sp.vld (Y, M, D)
 ·rw [hv1, if_neg (by simp)] at HDA
  have HDB := HDA
  have HO : Hid (Sp.outF (some ((Y, M, D), (Y, M, D))) = 0 ∧ Sp.outT (some ((Y, M, D), (Y, M, D))) = 0 ∧ Sp.outE (some ((Y, M, D), (Y, M, D))) = 1) := by
   show _ ∧ _; simp [Sp.outF, Sp.outT, Sp.outE, hv1]
  clear hv1
  go_enter Tryz.func162, Tryz.ntmps162
  go_wp2_with fail
  rw [HW1.out, HW2.out, HW3.out]
  go_wp2_with (go_at_call 196; (with_reducible first | (refine (F0.out _).mono ?_) | (refine (F1.out _).mono ?_) | (refine (F2.out _).mono ?_)); rintro e w9 ⟨rfl, rfl⟩)
  have g0 : W3.drew.cell? ⟨w.heap.size, 0, none⟩ = some (.int .i64 0) := c0
  go_region_held3 (fun w' => w'.cell? ⟨w.heap.size, 0, none⟩ = some (.int .i64 0)) (first | (with_reducible exact c0) | (with_reducible exact g0) | (with_reducible exact cell_set3 hne1 c0) | (with_reducible exact cell_set3d hne1 c0)) (first | (go_at_call 196; (with_reducible first | (refine (F0.out _).mono ?_) | (refine (F1.out _).mono ?_) | (refine (F2.out _).mono ?_)); rintro e w9 ⟨rfl, rfl⟩))
  go_wp2_with fail
  have hS1 : Blk (((((((W3.setCell ⟨w.heap.size + 1, 0, none⟩ (.int .i64 Y)).setCell ⟨w.heap.size + 1, 1, none⟩ (.int .i64 M)).setCell ⟨w.heap.size + 1, 2, none⟩ (.int .i64 D)).setCell ⟨w.heap.size + 1 + 1, 0, none⟩ (.int .i64 Y)).setCell ⟨w.heap.size + 1 + 1, 1, none⟩ (.int .i64 M)).setCell ⟨w.heap.size + 1 + 1, 2, none⟩ (.int .i64 D))).drew w.heap.size #[.int .i64 0, .int .i64 0] 108 := ((hR1.other3 (by omega)).other3 (by omega)).drew
  have hS2 : Blk (((((((W3.setCell ⟨w.heap.size + 1, 0, none⟩ (.int .i64 Y)).setCell ⟨w.heap.size + 1, 1, none⟩ (.int .i64 M)).setCell ⟨w.heap.size + 1, 2, none⟩ (.int .i64 D)).setCell ⟨w.heap.size + 1 + 1, 0, none⟩ (.int .i64 Y)).setCell ⟨w.heap.size + 1 + 1, 1, none⟩ (.int .i64 M)).setCell ⟨w.heap.size + 1 + 1, 2, none⟩ (.int .i64 D))).drew (w.heap.size + 1) #[.int .i64 Y, .int .i64 M, .int .i64 D] 138 := (hR2.set3.other3 (by omega)).drew
  have hS3 : Blk (((((((W3.setCell ⟨w.heap.size + 1, 0, none⟩ (.int .i64 Y)).setCell ⟨w.heap.size + 1, 1, none⟩ (.int .i64 M)).setCell ⟨w.heap.size + 1, 2, none⟩ (.int .i64 D)).setCell ⟨w.heap.size + 1 + 1, 0, none⟩ (.int .i64 Y)).setCell ⟨w.heap.size + 1 + 1, 1, none⟩ (.int .i64 M)).setCell ⟨w.heap.size + 1 + 1, 2, none⟩ (.int .i64 D))).drew (w.heap.size + 1 + 1) #[.int .i64 Y, .int .i64 M, .int .i64 D] 138 := (hR3.other3 (by omega)).set3.drew
  have hSB : Below w.heap.size w (((((((W3.setCell ⟨w.heap.size + 1, 0, none⟩ (.int .i64 Y)).setCell ⟨w.heap.size + 1, 1, none⟩ (.int .i64 M)).setCell ⟨w.heap.size + 1, 2, none⟩ (.int .i64 D)).setCell ⟨w.heap.size + 1 + 1, 0, none⟩ (.int .i64 Y)).setCell ⟨w.heap.size + 1 + 1, 1, none⟩ (.int .i64 M)).setCell ⟨w.heap.size + 1 + 1, 2, none⟩ (.int .i64 D))).drew := below_drew1 (below_set3 (below_set3 hBr (by omega)) (by omega))
  clear hR1 hR2 hR3 hBr c0 c1 d0 d1 d2 e0 e1 e2 cf df ef g0
  generalize (((((((W3.setCell ⟨w.heap.size + 1, 0, none⟩ (.int .i64 Y)).setCell ⟨w.heap.size + 1, 1, none⟩ (.int .i64 M)).setCell ⟨w.heap.size + 1, 2, none⟩ (.int .i64 D)).setCell ⟨w.heap.size + 1 + 1, 0, none⟩ (.int .i64 Y)).setCell ⟨w.heap.size + 1 + 1, 1, none⟩ (.int .i64 M)).setCell ⟨w.heap.size + 1 + 1, 2, none⟩ (.int .i64 D))).drew = W4 at *
  have hR1 := hS1
  have hR2 := hS2
  have hR3 := hS3
  have hBr := hSB
  clear hS1 hS2 hS3 hSB
  obtain ⟨c0, c1⟩ := hR1.two
  have cf := hR1.free
  obtain ⟨d0, d1, d2⟩ := hR2.three
  obtain ⟨e0, e1, e2⟩ := hR3.three
  go_wp2_with (go_at_call 152; (with_reducible first | (refine (HDA.out _).mono ?_) | (refine (HDB.out _).mono ?_)); rintro e w5 ⟨rfl, hB5⟩; have hR1 := hR1.keep hB5; have hR2 := hR2.keep hB5; have hR3 := hR3.keep hB5; have hBr := below_up hBr hB5; obtain ⟨c0, c1⟩ := hR1.two; have cf := hR1.free; obtain ⟨d0, d1, d2⟩ := hR2.three; obtain ⟨e0, e1, e2⟩ := hR3.three)
  refine bodyPost_ret (v := .tuple #[.agg #[.int .i64 0, .int .i64 0], .int .i64 1]) ?_ rfl ?_
  ·simp [results, Tryz.results162, go_sem, c0, c1]
  ·first | exact SpPost.err HO.out hBr | exact SpPost.err HO.out ((hBr.setCell (Nat.le_refl _) _).setCell (Nat.le_refl _) _)
 ·rw [hv1, if_pos rfl] at HDA
  have HDB := HDA
  have HO : Hid (Sp.outF (some ((Y, M, D), (Y, M, D))) = Sp.num (Y, M, D) * 86400 ∧ Sp.outT (some ((Y, M, D), (Y, M, D))) = Sp.num (Y, M, D) * 86400 + 86399 ∧ Sp.outE (some ((Y, M, D), (Y, M, D))) = 0) := by
   show _ ∧ _; simp [Sp.outF, Sp.outT, Sp.outE, hv1]
  have hn1 := Sp.num_bd hv1
  generalize Sp.num (Y, M, D) = na at *
  clear hv1
  go_enter Tryz.func162, Tryz.ntmps162
  go_wp2_with fail
  rw [HW1.out, HW2.out, HW3.out]
  go_wp2_with (go_at_call 196; (with_reducible first | (refine (F0.out _).mono ?_) | (refine (F1.out _).mono ?_) | (refine (F2.out _).mono ?_)); rintro e w9 ⟨rfl, rfl⟩)
  have g0 : W3.drew.cell? ⟨w.heap.size, 0, none⟩ = some (.int .i64 0) := c0
  go_region_held3 (fun w' => w'.cell? ⟨w.heap.size, 0, none⟩ = some (.int .i64 0)) (first | (with_reducible exact c0) | (with_reducible exact g0) | (with_reducible exact cell_set3 hne1 c0) | (with_reducible exact cell_set3d hne1 c0)) (first | (go_at_call 196; (with_reducible first | (refine (F0.out _).mono ?_) | (refine (F1.out _).mono ?_) | (refine (F2.out _).mono ?_)); rintro e w9 ⟨rfl, rfl⟩))
  go_wp2_with fail
  have hS1 : Blk (((((((W3.setCell ⟨w.heap.size + 1, 0, none⟩ (.int .i64 Y)).setCell ⟨w.heap.size + 1, 1, none⟩ (.int .i64 M)).setCell ⟨w.heap.size + 1, 2, none⟩ (.int .i64 D)).setCell ⟨w.heap.size + 1 + 1, 0, none⟩ (.int .i64 Y)).setCell ⟨w.heap.size + 1 + 1, 1, none⟩ (.int .i64 M)).setCell ⟨w.heap.size + 1 + 1, 2, none⟩ (.int .i64 D))).drew w.heap.size #[.int .i64 0, .int .i64 0] 108 := ((hR1.other3 (by omega)).other3 (by omega)).drew
  have hS2 : Blk (((((((W3.setCell ⟨w.heap.size + 1, 0, none⟩ (.int .i64 Y)).setCell ⟨w.heap.size + 1, 1, none⟩ (.int .i64 M)).setCell ⟨w.heap.size + 1, 2, none⟩ (.int .i64 D)).setCell ⟨w.heap.size + 1 + 1, 0, none⟩ (.int .i64 Y)).setCell ⟨w.heap.size + 1 + 1, 1, none⟩ (.int .i64 M)).setCell ⟨w.heap.size + 1 + 1, 2, none⟩ (.int .i64 D))).drew (w.heap.size + 1) #[.int .i64 Y, .int .i64 M, .int .i64 D] 138 := (hR2.set3.other3 (by omega)).drew
  have hS3 : Blk (((((((W3.setCell ⟨w.heap.size + 1, 0, none⟩ (.int .i64 Y)).setCell ⟨w.heap.size + 1, 1, none⟩ (.int .i64 M)).setCell ⟨w.heap.size + 1, 2, none⟩ (.int .i64 D)).setCell ⟨w.heap.size + 1 + 1, 0, none⟩ (.int .i64 Y)).setCell ⟨w.heap.size + 1 + 1, 1, none⟩ (.int .i64 M)).setCell ⟨w.heap.size + 1 + 1, 2, none⟩ (.int .i64 D))).drew (w.heap.size + 1 + 1) #[.int .i64 Y, .int .i64 M, .int .i64 D] 138 := (hR3.other3 (by omega)).set3.drew
  have hSB : Below w.heap.size w (((((((W3.setCell ⟨w.heap.size + 1, 0, none⟩ (.int .i64 Y)).setCell ⟨w.heap.size + 1, 1, none⟩ (.int .i64 M)).setCell ⟨w.heap.size + 1, 2, none⟩ (.int .i64 D)).setCell ⟨w.heap.size + 1 + 1, 0, none⟩ (.int .i64 Y)).setCell ⟨w.heap.size + 1 + 1, 1, none⟩ (.int .i64 M)).setCell ⟨w.heap.size + 1 + 1, 2, none⟩ (.int .i64 D))).drew := below_drew1 (below_set3 (below_set3 hBr (by omega)) (by omega))
  clear hR1 hR2 hR3 hBr c0 c1 d0 d1 d2 e0 e1 e2 cf df ef g0
  generalize (((((((W3.setCell ⟨w.heap.size + 1, 0, none⟩ (.int .i64 Y)).setCell ⟨w.heap.size + 1, 1, none⟩ (.int .i64 M)).setCell ⟨w.heap.size + 1, 2, none⟩ (.int .i64 D)).setCell ⟨w.heap.size + 1 + 1, 0, none⟩ (.int .i64 Y)).setCell ⟨w.heap.size + 1 + 1, 1, none⟩ (.int .i64 M)).setCell ⟨w.heap.size + 1 + 1, 2, none⟩ (.int .i64 D))).drew = W4 at *
  have hR1 := hS1
  have hR2 := hS2
  have hR3 := hS3
  have hBr := hSB
  clear hS1 hS2 hS3 hSB
  obtain ⟨c0, c1⟩ := hR1.two
  have cf := hR1.free
  obtain ⟨d0, d1, d2⟩ := hR2.three
  obtain ⟨e0, e1, e2⟩ := hR3.three
  go_wp2_with (go_at_call 152; (with_reducible first | (refine (HDA.out _).mono ?_) | (refine (HDB.out _).mono ?_)); rintro e w5 ⟨rfl, hB5⟩; have hR1 := hR1.keep hB5; have hR2 := hR2.keep hB5; have hR3 := hR3.keep hB5; have hBr := below_up hBr hB5; obtain ⟨c0, c1⟩ := hR1.two; have cf := hR1.free; obtain ⟨d0, d1, d2⟩ := hR2.three; obtain ⟨e0, e1, e2⟩ := hR3.three)
  clear hne1
  have hR1 := hR1.drew
  have hR2 := hR2.drew
  have hR3 := hR3.drew
  have hBr := below_drew1 hBr
  have hne1 : w.heap.size + 1 ≠ w.heap.size := by omega
  have hne2 : w.heap.size + 1 + 1 ≠ w.heap.size := by omega
  have hw1 : IntKind.i64.wrap (na * 86400) = na * 86400 := IntWalk.i64_in _ (by omega)
  have hw2 : IntKind.i64.wrap (na * 86400) = na * 86400 := IntWalk.i64_in _ (by omega)
  have hw3 : IntKind.i64.wrap (na * 86400 + 86400) = na * 86400 + 86400 := IntWalk.i64_in _ (by omega)
  have hw4 : IntKind.i64.wrap (na * 86400 + 86400 - 1) = na * 86400 + 86400 - 1 := IntWalk.i64_in _ (by omega)
  obtain ⟨z0, z1, z2⟩ := hR2.three
  obtain ⟨y0, y1, y2⟩ := hR3.three
  go_region_held3 (fun w' => w'.cell? ⟨w.heap.size + 1, 0, none⟩ = some (.int .i64 Y) ∧ w'.cell? ⟨w.heap.size + 1, 1, none⟩ = some (.int .i64 M) ∧ w'.cell? ⟨w.heap.size + 1, 2, none⟩ = some (.int .i64 D) ∧ w'.cell? ⟨w.heap.size + 1 + 1, 0, none⟩ = some (.int .i64 Y) ∧ w'.cell? ⟨w.heap.size + 1 + 1, 1, none⟩ = some (.int .i64 M) ∧ w'.cell? ⟨w.heap.size + 1 + 1, 2, none⟩ = some (.int .i64 D)) (first | (with_reducible exact ⟨d0, d1, d2, e0, e1, e2⟩) | (with_reducible exact ⟨z0, z1, z2, y0, y1, y2⟩) | (with_reducible exact ⟨cell_set2 hne1 d0, cell_set2 hne1 d1, cell_set2 hne1 d2, cell_set2 hne2 e0, cell_set2 hne2 e1, cell_set2 hne2 e2⟩)) (first | (go_at_call 152; (with_reducible first | (refine (HDA.out _).mono ?_) | (refine (HDB.out _).mono ?_)); rintro e w6 ⟨rfl, hB5⟩; have hR1 := hR1.keep hB5; have hR2 := hR2.keep hB5; have hR3 := hR3.keep hB5; have hBr := below_up hBr hB5; obtain ⟨c0, c1⟩ := hR1.two; have cf := hR1.free; obtain ⟨d0, d1, d2⟩ := hR2.three; obtain ⟨e0, e1, e2⟩ := hR3.three))
  go_wp2_with fail
  refine bodyPost_ret (v := .tuple #[.agg #[.int .i64 (na * 86400), .int .i64 (na * 86400 + 86399)], .int .i64 0]) ?_ rfl ?_
  ·simp [results, Tryz.results162, go_sem, c0, c1]
   omega
  ·exact SpPost.ok HO.out ((hBr.setCell (Nat.le_refl _) _).setCell (Nat.le_refl _) _)
theorem one_is (s : List UInt8) (w : World) : Calls Tryz.prog 162 #[.string (Tx.mk s)] w (SpPost w (Sp.kind s)) := by
 by_cases h4 : s.length = 4
 ·by_cases hk : 0 ≤ Sc.fx s 0 4
  ·exact one_yes4 s h4 hk w
  ·exact one_no4 s h4 hk w
 ·by_cases h7 : s.length = 7
  ·by_cases hk : 0 ≤ Sc.fx s 0 4 ∧ s[4]? = some 45 ∧ 0 ≤ Sc.fx s 5 7
   ·exact one_yes7 s h7 hk w
   ·exact one_no7 s h7 hk w
  ·by_cases h10 : s.length = 10
   ·by_cases hk : 0 ≤ Sc.fx s 0 4 ∧ s[4]? = some 45 ∧ 0 ≤ Sc.fx s 5 7 ∧ s[7]? = some 45 ∧ 0 ≤ Sc.fx s 8 10
    ·exact one_yes10 s ⟨h10, hk⟩ w
    ·exact one_no10 s h10 hk w
   ·exact one_no s h4 h7 h10 w
end Go.Proofs.YtimjmjmpaicdbaaGreatDoor
