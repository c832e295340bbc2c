/- Parts of the proof, no condition: StRem, StRen, StEmR, StTlQ. -/
import Derived.Test.YthdiccdnggloiaaGreatDoorKp10
import Derived.Test.YthdiccdnggloiaaGreatDoorKp9
import Derived.Test.YthdiccdnggloiaaGreatDoorKp8
import Derived.Maps.RangeWalk
set_option maxRecDepth 100000
set_option maxHeartbeats 16000000
set_option linter.unusedSimpArgs false
set_option linter.unusedVariables false
namespace Go.Proofs.YthdiccdnggloiaaGreatDoor
open Go.RowKit Go.Sort Go.Shelf Go.Maps
theorem holdS_err (s : Sto) (a : StA) (d : ByteArray) (w : World) (hI : StIn w s a) (he : St.err s ≠ 0) : Calls Tryz.prog 11 #[.agg #[.int .i64 s.least, .int .i64 s.wait, .slice a.ta s.tiers.length a.tc, .slice a.fa s.files.length a.fc, .slice a.ca s.copies.length a.cc, .slice a.ha s.held.length a.hc, .slice a.ba s.bin.length a.bc], .string d] w (StoErr w (St.err s)) := by
 obtain ⟨W1, hW1, hP, hz1, hB1⟩ := box w #[.int .i64 s.least, .int .i64 s.wait, .slice a.ta s.tiers.length a.tc, .slice a.fa s.files.length a.fc, .slice a.ca s.copies.length a.cc, .slice a.ha s.held.length a.hc, .slice a.ba s.bin.length a.bc] 28
 obtain ⟨W2, hW2, hQ, hz2, hB2⟩ := box W1 #[.int .i64 0, .int .i64 0, .slice none 0 0, .slice none 0 0, .slice none 0 0, .slice none 0 0, .slice none 0 0] 28
 rw [hz1] at hQ hz2
 have hP := hP.keep hB2
 have hBB := below_up hB1 hB2
 have HW1 := Lib.hid hW1; have HW2 := Lib.hid hW2; have HP := Lib.hid hP; have HQ := Lib.hid hQ; have HBB := Lib.hid hBB; have HZ2 := Lib.hid hz2
 have HI2 := Lib.hid (hI.keep hBB)
 obtain ⟨q0, q1, q2, q3, q4, q5, q6⟩ := hP.seven
 have HCK := Lib.hid (check_is s a W2 HI2.out)
 have HSZ := Lib.hid hI.sz
 clear hI hW1 hW2 hP hQ hz1 hz2 hB1 hB2 hBB
 have hq1 : (St.err s != 0) = true := by simpa using he
 generalize St.err s = q at *
 clear he
 go_enter Tryz.func11, Tryz.ntmps11
 go_upto_region 1 with fail
 rw [HW1.out, HW2.out]
 go_upto_region 3 with (go_at_call 32; (with_reducible refine HCK.out.mono ?_); rintro e w3 ⟨rfl, hB3⟩)
 have hQ3 := HQ.out.keep hB3
 have hB03 := below_up HBB.out hB3
 have hs2 := HZ2.out
 clear q0 q1 q2 q3 q4 q5 q6
 go_wp2_with (refine wpList_store_row rfl 28 _ _ rfl (w.heap.size + 1) #[.int .i64 0, .int .i64 0, .slice none 0 0, .slice none 0 0, .slice none 0 0, .slice none 0 0, .slice none 0 0] rfl rfl 28 _ hQ3 infoSto rfl (by simp [Value.oneCell']) ?_)
 obtain ⟨g0, g1, g2, g3, g4, g5, g6⟩ := (Blk.setRowAt (hQ3) #[.int .i64 0, .int .i64 0, .slice none 0 0, .slice none 0 0, .slice none 0 0, .slice none 0 0, .slice none 0 0]).seven
 refine bodyPost_ret (v := .tuple #[.agg #[.int .i64 0, .int .i64 0, .slice none 0 0, .slice none 0 0, .slice none 0 0, .slice none 0 0, .slice none 0 0], .int .i64 (q)]) (by simp [results, Tryz.results11, go_sem, g0, g1, g2, g3, g4, g5, g6]) rfl ⟨rfl, below_setRow (hB03) (by omega) _⟩
theorem holdS_none (s : Sto) (a : StA) (d : ByteArray) (w : World) (hI : StIn w s a) (r : St.Right s) (hd : St.hasK St.gdig s.bin d = false) : Calls Tryz.prog 11 #[.agg #[.int .i64 s.least, .int .i64 s.wait, .slice a.ta s.tiers.length a.tc, .slice a.fa s.files.length a.fc, .slice a.ca s.copies.length a.cc, .slice a.ha s.held.length a.hc, .slice a.ba s.bin.length a.bc], .string d] w (StoErr w 7) := by
 obtain ⟨W1, hW1, hP, hz1, hB1⟩ := box w #[.int .i64 s.least, .int .i64 s.wait, .slice a.ta s.tiers.length a.tc, .slice a.fa s.files.length a.fc, .slice a.ca s.copies.length a.cc, .slice a.ha s.held.length a.hc, .slice a.ba s.bin.length a.bc] 28
 obtain ⟨W2, hW2, hQ, hz2, hB2⟩ := box W1 #[.int .i64 0, .int .i64 0, .slice none 0 0, .slice none 0 0, .slice none 0 0, .slice none 0 0, .slice none 0 0] 28
 rw [hz1] at hQ hz2
 have hP := hP.keep hB2
 have hBB := below_up hB1 hB2
 have HW1 := Lib.hid hW1; have HW2 := Lib.hid hW2; have HP := Lib.hid hP; have HQ := Lib.hid hQ; have HBB := Lib.hid hBB; have HZ2 := Lib.hid hz2
 have HI2 := Lib.hid (hI.keep hBB)
 obtain ⟨q0, q1, q2, q3, q4, q5, q6⟩ := hP.seven
 have HCK := Lib.hid (check_is s a W2 HI2.out)
 have HSZ := Lib.hid hI.sz
 clear hI hW1 hW2 hP hQ hz1 hz2 hB1 hB2 hBB
 rw [St.err_iff.2 r] at HCK
 obtain ⟨_, y1, y2, y3, y4, y5⟩ := St.sizes_iff.1 r.sizes
 have HHD := Lib.hid (fun V => binRow_is s a V)
 have HHS := Lib.hid (fun V (hv : Below W2.heap.size W2 V) => hasG_is s.bin r.bup (by omega) d a.ba a.bc V (HI2.out.keep hv).bl (HI2.out.keep hv).bi)
 rw [hd] at HHS
 clear r hd y1 y2 y3 y4 y5
 go_enter Tryz.func11, Tryz.ntmps11
 go_upto_region 1 with fail
 rw [HW1.out, HW2.out]
 go_upto_region 5 with (first
  | (go_at_call 32; (with_reducible refine HCK.out.mono ?_); rintro e w3 ⟨rfl, hv⟩; obtain ⟨q0, q1, q2, q3, q4, q5, q6⟩ := (HP.out.keep hv).seven)
  | (go_at_call 60; (with_reducible refine (HHD.out _).mono ?_); rintro e w4 ⟨rfl, hq⟩; have hv := below_up hv hq)
  | (go_at_call 62; (with_reducible refine (HHS.out _ hv).mono ?_); rintro e w5 ⟨rfl, hq⟩; have hv := below_up hv hq))
 have hQ3 := HQ.out.keep hv
 have hB03 := below_up HBB.out hv
 have hs2 := HZ2.out
 clear q0 q1 q2 q3 q4 q5 q6
 go_wp2_with (refine wpList_store_row rfl 28 _ _ rfl (w.heap.size + 1) #[.int .i64 0, .int .i64 0, .slice none 0 0, .slice none 0 0, .slice none 0 0, .slice none 0 0, .slice none 0 0] rfl rfl 28 _ hQ3 infoSto rfl (by simp [Value.oneCell']) ?_)
 obtain ⟨g0, g1, g2, g3, g4, g5, g6⟩ := (Blk.setRowAt (hQ3) #[.int .i64 0, .int .i64 0, .slice none 0 0, .slice none 0 0, .slice none 0 0, .slice none 0 0, .slice none 0 0]).seven
 refine bodyPost_ret (v := .tuple #[.agg #[.int .i64 0, .int .i64 0, .slice none 0 0, .slice none 0 0, .slice none 0 0, .slice none 0 0, .slice none 0 0], .int .i64 (7)]) (by simp [results, Tryz.results11, go_sem, g0, g1, g2, g3, g4, g5, g6]) rfl ⟨rfl, below_setRow (hB03) (by omega) _⟩
theorem holdS_ok (s : Sto) (a : StA) (d : ByteArray) (w : World) (hI : StIn w s a) (r : St.Right s) (hd : St.hasK St.gdig s.bin d = true) : Calls Tryz.prog 11 #[.agg #[.int .i64 s.least, .int .i64 s.wait, .slice a.ta s.tiers.length a.tc, .slice a.fa s.files.length a.fc, .slice a.ca s.copies.length a.cc, .slice a.ha s.held.length a.hc, .slice a.ba s.bin.length a.bc], .string d] w (StoOk w (St.hold s d)) := by
 obtain ⟨W1, hW1, hP, hz1, hB1⟩ := box w #[.int .i64 s.least, .int .i64 s.wait, .slice a.ta s.tiers.length a.tc, .slice a.fa s.files.length a.fc, .slice a.ca s.copies.length a.cc, .slice a.ha s.held.length a.hc, .slice a.ba s.bin.length a.bc] 28
 obtain ⟨W2, hW2, hQ, hz2, hB2⟩ := box W1 #[.int .i64 0, .int .i64 0, .slice none 0 0, .slice none 0 0, .slice none 0 0, .slice none 0 0, .slice none 0 0] 28
 rw [hz1] at hQ hz2
 have hP := hP.keep hB2
 have hBB := below_up hB1 hB2
 have HW1 := Lib.hid hW1; have HW2 := Lib.hid hW2; have HP := Lib.hid hP; have HQ := Lib.hid hQ; have HBB := Lib.hid hBB; have HZ2 := Lib.hid hz2
 have HI2 := Lib.hid (hI.keep hBB)
 obtain ⟨q0, q1, q2, q3, q4, q5, q6⟩ := hP.seven
 have HCK := Lib.hid (check_is s a W2 HI2.out)
 have HSZ := Lib.hid hI.sz
 clear hI hW1 hW2 hP hQ hz1 hz2 hB1 hB2 hBB
 rw [St.err_iff.2 r] at HCK
 obtain ⟨_, y1, y2, y3, y4, y5⟩ := St.sizes_iff.1 r.sizes
 have HHD0 := Lib.hid (fun V => binRow_is s a V)
 have HHS := Lib.hid (fun V (hv : Below W2.heap.size W2 V) => hasG_is s.bin r.bup (by omega) d a.ba a.bc V (HI2.out.keep hv).bl (HI2.out.keep hv).bi)
 rw [hd] at HHS
 have HCP := Lib.hid (fun V (hv : Below W2.heap.size W2 V) => copyStore_is s a V (HI2.out.keep hv) ⟨y1, y2, y3, y4, y5⟩)
 unfold CpyPost at HCP
 have HWO := Lib.hid (fun (b : StA) V (hI : StIn V s b) => withS_is s.held r.hup (by omega) d b.ha b.hc V hI.hl hI.he)
 have HWT := Lib.hid (fun (b : StA) V (hI : StIn V s b) => woG_is s.bin r.bup (by omega) d b.ba b.bc V hI.bl hI.bi)
 unfold ClnPost at HWO HWT
 have rr := St.right_hold r hd
 have HS5 : Hid (∀ x ∈ St.wth id d s.held, x.size ≤ 9223372036854775807) := Lib.hid fun x hx => by have := St.dsz rr (rr.held x hx); omega
 have HS6 : Hid (∀ g ∈ St.wo St.gdig d s.bin, g.dig.size ≤ 9223372036854775807) := Lib.hid fun g hg => by have := St.dsz rr (rr.bin g hg).1; omega
 have HRE : Hid (St.hold s d = { s with held := St.wth id d s.held, bin := St.wo St.gdig d s.bin }) := Lib.hid rfl
 generalize St.wth id d s.held = HH at *
 generalize St.wo St.gdig d s.bin = BB at *
 clear r rr hd y1 y2 y3 y4 y5
 go_enter Tryz.func11, Tryz.ntmps11
 go_upto_region 1 with fail
 rw [HW1.out, HW2.out]
 go_upto_region 7 with (first
  | (go_at_call 32; (with_reducible refine HCK.out.mono ?_); rintro e w3 ⟨rfl, hv⟩; obtain ⟨q0, q1, q2, q3, q4, q5, q6⟩ := (HP.out.keep hv).seven)
  | (go_at_call 60; (with_reducible refine (HHD0.out _).mono ?_); rintro e w4 ⟨rfl, hq⟩; have hv := below_up hv hq)
  | (go_at_call 62; (with_reducible refine (HHS.out _ hv).mono ?_); rintro e w7 ⟨rfl, hq⟩; have hv := below_up hv hq; obtain ⟨q0, q1, q2, q3, q4, q5, q6⟩ := (HP.out.keep hv).seven)
  | (go_at_call 51; (with_reducible refine (HCP.out _ hv).mono ?_); rintro e w8 ⟨b, rfl, hOwn, hB8⟩)
  | (refine wpList_store_row rfl 28 _ _ rfl w.heap.size #[.int .i64 s.least, .int .i64 s.wait, .slice b.ta s.tiers.length b.tc, .slice b.fa s.files.length b.fc, .slice b.ca s.copies.length b.cc, .slice b.ha s.held.length b.hc, .slice b.ba s.bin.length b.bc] rfl rfl 28 _ (HP.out.keep (below_up hv hB8)) infoSto rfl (by simp [Value.oneCell']) ?_))
 have hlt4 : w.heap.size + 1 < w7.heap.size := by have := HZ2.out; have := hv.size; omega
 have hv8 := below_up hv hB8
 have hPv := Blk.setRowAt (HP.out.keep hv8) #[.int .i64 s.least, .int .i64 s.wait, .slice b.ta s.tiers.length b.tc, .slice b.fa s.files.length b.fc, .slice b.ca s.copies.length b.cc, .slice b.ha s.held.length b.hc, .slice b.ba s.bin.length b.bc]
 have hQv := (HQ.out.keep hv8).setRowOther (b' := w.heap.size) (by omega) #[.int .i64 s.least, .int .i64 s.wait, .slice b.ta s.tiers.length b.tc, .slice b.fa s.files.length b.fc, .slice b.ca s.copies.length b.cc, .slice b.ha s.held.length b.hc, .slice b.ba s.bin.length b.bc]
 have hBv := below_setRow (below_up HBB.out hv8) (Nat.le_refl w.heap.size) #[.int .i64 s.least, .int .i64 s.wait, .slice b.ta s.tiers.length b.tc, .slice b.fa s.files.length b.fc, .slice b.ca s.copies.length b.cc, .slice b.ha s.held.length b.hc, .slice b.ba s.bin.length b.bc]
 have hOv := hOwn.setRow (b := w.heap.size) (by omega) #[.int .i64 s.least, .int .i64 s.wait, .slice b.ta s.tiers.length b.tc, .slice b.fa s.files.length b.fc, .slice b.ca s.copies.length b.cc, .slice b.ha s.held.length b.hc, .slice b.ba s.bin.length b.bc]
 have hVz : w.heap.size + 2 ≤ (w8.setRow w.heap.size #[.int .i64 s.least, .int .i64 s.wait, .slice b.ta s.tiers.length b.tc, .slice b.fa s.files.length b.fc, .slice b.ca s.copies.length b.cc, .slice b.ha s.held.length b.hc, .slice b.ba s.bin.length b.bc]).heap.size := by have := hB8.size; simp; omega
 obtain ⟨V, hV⟩ : ∃ V, w8.setRow w.heap.size #[.int .i64 s.least, .int .i64 s.wait, .slice b.ta s.tiers.length b.tc, .slice b.fa s.files.length b.fc, .slice b.ca s.copies.length b.cc, .slice b.ha s.held.length b.hc, .slice b.ba s.bin.length b.bc] = V := ⟨_, rfl⟩
 rw [hV] at hPv hQv hBv hOv hVz ⊢
 clear hV q0 q1 q2 q3 q4 q5 q6 hOwn
 have HHD := Lib.hid (fun V => held_is s b V)
 have HBN := Lib.hid (fun V => binRow_is s b V)
 have hPd := hPv.drew; have hQd := hQv.drew; have hBd := hBv.drew
 have hOd := hOv.keep (Below.refl _ _).drew
 have hsz : w.heap.size + 2 ≤ V.drew.heap.size := hVz
 clear hPv hQv hBv hOv hVz hv8 hB8 hv
 have hHeld := hPd.seven
 refine wp_region_until (fun W => W.cell? ⟨w.heap.size, 0, none⟩ = some (.int .i64 s.least) ∧ W.cell? ⟨w.heap.size, 1, none⟩ = some (.int .i64 s.wait) ∧ W.cell? ⟨w.heap.size, 2, none⟩ = some (.slice b.ta s.tiers.length b.tc) ∧ W.cell? ⟨w.heap.size, 3, none⟩ = some (.slice b.fa s.files.length b.fc) ∧ W.cell? ⟨w.heap.size, 4, none⟩ = some (.slice b.ca s.copies.length b.cc) ∧ W.cell? ⟨w.heap.size, 5, none⟩ = some (.slice b.ha s.held.length b.hc) ∧ W.cell? ⟨w.heap.size, 6, none⟩ = some (.slice b.ba s.bin.length b.bc)) 9 (by kernel_rfl) ?_
 refine anyM_take (i := 0) (v := ?_) rfl rfl (by kernel_rfl) (by decide) (by kernel_rfl) (by kernel_rfl) (by kernel_rfl) (fun _ _ _ h => h) (Or.inl ⟨by rfl, ?_⟩) (by rfl) (by assumption) ?_
 rotate_left
 ·(intro w hSw; (try dsimp only at hSw); (try obtain ⟨hs1, hs2, hs3, hs4, hs5, hs6, hs7⟩ := hSw); go_simp; try (with_reducible rfl))
 try go_frame
 refine anyM_take0 (i := 2) (v := ?_) rfl (by decide) (by kernel_rfl) (by kernel_rfl) (by kernel_rfl) (fun _ _ _ h => h) (Or.inl ⟨by rfl, ?_⟩) (fun _ => by assumption) ?_
 rotate_left
 ·(intro w hSw; go_simp; try (with_reducible rfl))
 try go_frame
 refine anyM_take (i := 4) (v := ?_) rfl rfl (by kernel_rfl) (by decide) (by kernel_rfl) (by kernel_rfl) (by kernel_rfl) (fun _ _ _ h => h) (Or.inl ⟨by rfl, ?_⟩) (by rfl) (by assumption) ?_
 rotate_left
 ·(intro w hSw; (try dsimp only at hSw); (try obtain ⟨hs1, hs2, hs3, hs4, hs5, hs6, hs7⟩ := hSw); go_simp; try (with_reducible rfl))
 try go_frame
 refine anyM_take0 (i := 6) (v := ?_) rfl (by decide) (by kernel_rfl) (by kernel_rfl) (by kernel_rfl) (fun _ _ _ h => h) (Or.inl ⟨by rfl, ?_⟩) (fun _ => by assumption) ?_
 rotate_left
 ·(intro w hSw; go_simp; try (with_reducible rfl))
 try go_frame
 refine anyM_ready (rs := [1]) (by kernel_rfl) (by simp) ?_
 refine ReadyM.cons rfl (fun K hK => ?_) ReadyM.nil
 go_simp
 refine (HHD.out _).mono ?_
 rintro e x1 ⟨rfl, hq1⟩
 have hPd := hPd.keep hq1; have hQd := hQd.keep hq1; have hOd := hOd.keep hq1
 have hBd := below_up hBd hq1
 have hsz := Nat.le_trans hsz hq1.size
 have hHeld := hPd.seven
 refine hK.out _ _ (fun _ => hHeld) ?_
 clear hK K
 try go_frame
 refine anyM_ready (rs := [3]) (by kernel_rfl) (by simp) ?_
 refine ReadyM.cons rfl (fun K hK => ?_) ReadyM.nil
 go_simp
 refine (HWO.out b _ (hOd.in_ HSZ.out)).mono ?_
 rintro e x2 ⟨g2, c2, rfl, o2, hq2⟩; have o2 := o2.down hsz
 have hPd := hPd.keep hq2; have hQd := hQd.keep hq2; have hOd := hOd.keep hq2
 have hBd := below_up hBd hq2
 have hsz := Nat.le_trans hsz hq2.size
 have hHeld := hPd.seven
 refine hK.out _ _ (fun _ => hHeld) ?_
 clear hK K
 try go_frame
 refine anyM_take0 (i := 8) (v := ?_) rfl (by decide) (by kernel_rfl) (by kernel_rfl) (by kernel_rfl) (fun _ _ _ h => h) (Or.inl ⟨by rfl, ?_⟩) (fun _ => by assumption) ?_
 rotate_left
 ·(intro w hSw; go_simp; try (with_reducible rfl))
 try go_frame
 refine anyM_ready (rs := [5]) (by kernel_rfl) (by simp) ?_
 refine ReadyM.cons rfl (fun K hK => ?_) ReadyM.nil
 go_simp
 refine (HBN.out _).mono ?_
 rintro e x3 ⟨rfl, hq3⟩
 have hPd := hPd.keep hq3; have hQd := hQd.keep hq3; have hOd := hOd.keep hq3
 have hBd := below_up hBd hq3
 have hsz := Nat.le_trans hsz hq3.size
 have hHeld := hPd.seven
 refine hK.out _ _ (fun _ => hHeld) ?_
 clear hK K
 try go_frame
 refine anyM_ready (rs := [7]) (by kernel_rfl) (by simp) ?_
 refine ReadyM.cons rfl (fun K hK => ?_) ReadyM.nil
 go_simp
 refine (HWT.out b _ (hOd.in_ HSZ.out)).mono ?_
 rintro e x4 ⟨g4, c4, rfl, o4, hq4⟩; have o4 := o4.down hsz
 have hPd := hPd.keep hq4; have hQd := hQd.keep hq4; have hOd := hOd.keep hq4
 have hBd := below_up hBd hq4
 have hsz := Nat.le_trans hsz hq4.size
 have hHeld := hPd.seven
 refine hK.out _ _ (fun _ => hHeld) ?_
 clear hK K
 try go_frame
 have o2 := o2.keep hq3
 have o2 := o2.keep hq4
 clear hHeld
 obtain ⟨y0, y1, y2, y3, y4, y5, y6⟩ := hPd.seven
 have yf := hPd.free
 refine anyM_ready (rs := [9]) (by kernel_rfl) (by simp) ?_
 refine ReadyM.cons rfl (fun K hK => ?_) ReadyM.nil
 go_simp
 refine hK.out _ _ (fun h => absurd h (by simp)) ?_
 clear hK K y0 y1 y2 y3 y4 y5 y6 yf
 try go_frame
 have hPs := hPd.set 5 (.slice g2 HH.length c2)
 have hQs := hQd.setOther (a := ⟨w.heap.size, 5, none⟩) (by simp) (.slice g2 HH.length c2)
 have hBs := hBd.setCell (p := ⟨w.heap.size, 5, none⟩) (by simp) (.slice g2 HH.length c2)
 have hOd := hOd.cellB (b := w.heap.size) (by omega) 5 (.slice g2 HH.length c2)
 have o2 := o2.next (i := 5) (b := w.heap.size) (u := .slice g2 HH.length c2) (Below.refl _ _) (by omega)
 have o4 := o4.next (i := 5) (b := w.heap.size) (u := .slice g2 HH.length c2) (Below.refl _ _) (by omega)
 have hsz := show w.heap.size + 2 ≤ (x4.setCell ⟨w.heap.size, 5, none⟩ (.slice g2 HH.length c2)).heap.size by simp; omega
 generalize x4.setCell ⟨w.heap.size, 5, none⟩ (.slice g2 HH.length c2) = y5 at *
 clear hPd hQd hBd
 have hPd : Blk y5 w.heap.size #[.int .i64 s.least, .int .i64 s.wait, .slice b.ta s.tiers.length b.tc, .slice b.fa s.files.length b.fc, .slice b.ca s.copies.length b.cc, (.slice g2 HH.length c2), (.slice b.ba s.bin.length b.bc)] 28 := hPs
 have hQd := hQs; have hBd := hBs
 clear hPs hQs hBs
 refine anyM_ready (rs := [10]) (by kernel_rfl) (by simp) ?_
 refine ReadyM.cons rfl (fun K hK => ?_) ReadyM.nil
 go_simp
 refine hK.out _ _ (fun h => absurd h (by simp)) ?_
 clear hK K
 try go_frame
 obtain ⟨y0, y1, y2, y3, y4, y5, y6⟩ := hPd.seven
 have yf := hPd.free
 refine anyM_ready (rs := [11]) (by kernel_rfl) (by simp) ?_
 refine ReadyM.cons rfl (fun K hK => ?_) ReadyM.nil
 go_simp
 refine hK.out _ _ (fun h => absurd h (by simp)) ?_
 clear hK K y0 y1 y2 y3 y4 y5 y6 yf
 try go_frame
 have hPs := hPd.set 6 (.slice g4 BB.length c4)
 have hQs := hQd.setOther (a := ⟨w.heap.size, 6, none⟩) (by simp) (.slice g4 BB.length c4)
 have hBs := hBd.setCell (p := ⟨w.heap.size, 6, none⟩) (by simp) (.slice g4 BB.length c4)
 have hOd := hOd.cellB (b := w.heap.size) (by omega) 6 (.slice g4 BB.length c4)
 have o2 := o2.next (i := 6) (b := w.heap.size) (u := .slice g4 BB.length c4) (Below.refl _ _) (by omega)
 have o4 := o4.next (i := 6) (b := w.heap.size) (u := .slice g4 BB.length c4) (Below.refl _ _) (by omega)
 have hsz := show w.heap.size + 2 ≤ (y5.setCell ⟨w.heap.size, 6, none⟩ (.slice g4 BB.length c4)).heap.size by simp; omega
 generalize y5.setCell ⟨w.heap.size, 6, none⟩ (.slice g4 BB.length c4) = y6 at *
 clear hPd hQd hBd
 have hPd : Blk y6 w.heap.size #[.int .i64 s.least, .int .i64 s.wait, .slice b.ta s.tiers.length b.tc, .slice b.fa s.files.length b.fc, .slice b.ca s.copies.length b.cc, (.slice g2 HH.length c2), (.slice g4 BB.length c4)] 28 := hPs
 have hQd := hQs; have hBd := hBs
 clear hPs hQs hBs
 refine anyM_done (by kernel_rfl) ?_ _
 have hI := (hOd.in_ HSZ.out).two (RowE.ofV (E := St.eS) (ca := c2) o2) o2.caps (RowE.ofV (E := St.eG) (ca := c4) o4) o4.caps HS5.out HS6.out
 have hO3 := hOd.setRow (b := w.heap.size + 1) (by omega) #[.int .i64 s.least, .int .i64 s.wait, .slice b.ta s.tiers.length b.tc, .slice b.fa s.files.length b.fc, .slice b.ca s.copies.length b.cc, (.slice g2 HH.length c2), (.slice g4 BB.length c4)]
 have o2' := o2.setRow (b := w.heap.size + 1) (by omega) #[.int .i64 s.least, .int .i64 s.wait, .slice b.ta s.tiers.length b.tc, .slice b.fa s.files.length b.fc, .slice b.ca s.copies.length b.cc, (.slice g2 HH.length c2), (.slice g4 BB.length c4)]
 have o4' := o4.setRow (b := w.heap.size + 1) (by omega) #[.int .i64 s.least, .int .i64 s.wait, .slice b.ta s.tiers.length b.tc, .slice b.fa s.files.length b.fc, .slice b.ca s.copies.length b.cc, (.slice g2 HH.length c2), (.slice g4 BB.length c4)]
 have hI := (hO3.in_ HSZ.out).two (RowE.ofV (E := St.eS) (ca := c2) o2') o2'.caps (RowE.ofV (E := St.eG) (ca := c4) o4') o4'.caps HS5.out HS6.out
 have HIZ := Lib.hid hI
 obtain ⟨y0, y1, y2, y3, y4, y5, y6⟩ := hPd.seven
 clear o2 o4 o2' o4' hI hO3 hOd hHeld
 go_wp2_with (refine wpList_store_row rfl 28 _ _ rfl (w.heap.size + 1) #[.int .i64 s.least, .int .i64 s.wait, .slice b.ta s.tiers.length b.tc, .slice b.fa s.files.length b.fc, .slice b.ca s.copies.length b.cc, (.slice g2 HH.length c2), (.slice g4 BB.length c4)] rfl rfl 28 _ hQd infoSto rfl (by simp [Value.oneCell']) ?_)
 obtain ⟨g0, g1, g2', g3, g4', g5, g6⟩ := (Blk.setRowAt hQd #[.int .i64 s.least, .int .i64 s.wait, .slice b.ta s.tiers.length b.tc, .slice b.fa s.files.length b.fc, .slice b.ca s.copies.length b.cc, (.slice g2 HH.length c2), (.slice g4 BB.length c4)]).seven
 refine bodyPost_ret (v := .tuple #[.agg #[.int .i64 s.least, .int .i64 s.wait, .slice b.ta s.tiers.length b.tc, .slice b.fa s.files.length b.fc, .slice b.ca s.copies.length b.cc, (.slice g2 HH.length c2), (.slice g4 BB.length c4)], .int .i64 0]) (by simp [results, Tryz.results11, go_sem, g0, g1, g2', g3, g4', g5, g6]) rfl ?_
 rw [HRE.out]
 exact ⟨_, rfl, HIZ.out, below_setRow hBd (by omega) _⟩
def EmpOk (w : World) (t : Sto) (n : Int) (e : Ending) (w' : World) : Prop := ∃ a' : StA, e = .returned (.tuple #[.agg #[.int .i64 t.least, .int .i64 t.wait, .slice a'.ta t.tiers.length a'.tc, .slice a'.fa t.files.length a'.fc, .slice a'.ca t.copies.length a'.cc, .slice a'.ha t.held.length a'.hc, .slice a'.ba t.bin.length a'.bc], .int .i64 n, .int .i64 0]) ∧ StIn w' t a' ∧ Below w.heap.size w w'
def EmpErr (w : World) (q : Int) (e : Ending) (w' : World) : Prop := e = .returned (.tuple #[.agg #[.int .i64 0, .int .i64 0, .slice none 0 0, .slice none 0 0, .slice none 0 0, .slice none 0 0, .slice none 0 0], .int .i64 0, .int .i64 q]) ∧ Below w.heap.size w w'
theorem OwnV.far {w w' : World} {B k n g : Nat} {e e' : TypeId} {v : Value} {xs : List Value} {cur : Array Value} (h : OwnV w B e k v n xs) (hg : w.heap[g]? = some (.cells cur e' (0, 0))) (hne : e ≠ e') (hw : w.grownBy w' (some g)) : OwnV w' B e k v n xs := by
 rcases h with h | ⟨g0, cap, h, hc⟩
 ·exact .inl h
 ·refine .inr ⟨g0, cap, h, hc.of_block (hw.block g0 hc.lt.2 ?_)⟩
  obtain ⟨cur0, _, h0, _⟩ := hc
  intro e2
  cases e2
  rw [hg] at h0
  cases h0
  exact hne rfl
theorem OwnV.beside {w w' : World} {B B0 k n k' m : Nat} {e e' : TypeId} {v u : Value} {xs ys : List Value} (h : OwnV w B e k v n xs) (o : OwnV w B0 e' k' u m ys) (hne : e ≠ e') (hg : w.grownBy w' u.ownBlock) : OwnV w' B e k v n xs := by
 rcases o with ⟨rfl, _, _⟩ | ⟨g, cap, rfl, hc⟩
 ·exact h.keep ⟨hg.os, hg.tape, hg.output, hg.size, fun j hj => hg.block j hj (by simp [Value.ownBlock])⟩
 ·obtain ⟨cur, _, h0, _⟩ := hc
  exact h.far h0 hne hg
theorem below_ownE {B : Nat} {a w w' : World} {v : Value} {n k : Nat} {e : TypeId} {xs : List Value} (h : Below B a w) (ho : OwnV w B e k v n xs) (hg : w.grownBy w' v.ownBlock) (hB : B ≤ w.heap.size) : Below B a w' := by
 refine h.trans ⟨hg.os, hg.tape, hg.output, hg.size, fun j hj => ?_⟩
 refine hg.block j (by omega) fun e2 => ?_
 have h1 := (ho.lt j e2.symm).1
 omega
theorem OwnV.seven {w : World} {B k n b : Nat} {e : TypeId} {v : Value} {xs : List Value} (h : OwnV w B e k v n xs) (hb : b < B) (i0 i1 i2 i3 i4 i5 i6 : Nat) (u0 u1 u2 u3 u4 u5 u6 : Value) : OwnV (((((((w.setCell ⟨b, i0, none⟩ u0).setCell ⟨b, i1, none⟩ u1).setCell ⟨b, i2, none⟩ u2).setCell ⟨b, i3, none⟩ u3).setCell ⟨b, i4, none⟩ u4).setCell ⟨b, i5, none⟩ u5).setCell ⟨b, i6, none⟩ u6).drew B e k v n xs := by
 refine OwnV.keep ?_ (Below.refl _ _).drew
 exact ((((((h.next (Below.refl _ _) hb).next (Below.refl _ _) hb).next (Below.refl _ _) hb).next (Below.refl _ _) hb).next (Below.refl _ _) hb).next (Below.refl _ _) hb).next (Below.refl _ _) hb
theorem below_seven {w0 w : World} {B b : Nat} (h : Below B w0 w) (hb : B ≤ b) (i0 i1 i2 i3 i4 i5 i6 : Nat) (u0 u1 u2 u3 u4 u5 u6 : Value) : Below B w0 (((((((w.setCell ⟨b, i0, none⟩ u0).setCell ⟨b, i1, none⟩ u1).setCell ⟨b, i2, none⟩ u2).setCell ⟨b, i3, none⟩ u3).setCell ⟨b, i4, none⟩ u4).setCell ⟨b, i5, none⟩ u5).setCell ⟨b, i6, none⟩ u6).drew :=
 (((((((h.setCell hb _).setCell hb _).setCell hb _).setCell hb _).setCell hb _).setCell hb _).setCell hb _).drew
theorem gonF_delV (fn : FuncId) (lb : Array Value) (eg : ∀ args w, (callFunc fn args).run Tryz.prog w = .ok (.enter fn args) w) (p : Gon → Bool) (B n cap : Nat) (g : Option Addr) (L : List Gon) (w : World) (h : OwnV w B 112 2 (.slice g n cap) n (St.eG.flat L)) (hn : n ≤ 1000000) (hL : L.length = n) (HD : ∀ b, g = some ⟨b, 0, none⟩ → DelOk St.eG (fun x => .agg #[.string x.dig, .int .i64 x.day]) w b fn lb p L) :
  Calls Tryz.prog 68 #[.slice g n cap, .func (.func fn) #[] lb] w fun e w' => e = .returned (.slice g (L.filter (fun y => !p y)).length cap) ∧ OwnV w' B 112 2 (.slice g (L.filter (fun y => !p y)).length cap) (L.filter (fun y => !p y)).length (St.eG.flat (L.filter (fun y => !p y))) ∧ w.grownBy w' (Value.slice g n cap).ownBlock := by
 rcases h with ⟨h1, h2, h3⟩ | ⟨b, cap', h1, hc⟩
 ·cases h1
  obtain rfl := List.eq_nil_of_length_eq_zero hL
  have HIX := Lib.hid (gonF_idx fn lb eg p [] none 0 w (RowE.nil _ _ _) ⟨Nat.le_refl _, by decide⟩ (fun V x hx => by cases hx))
  have hz : St.idx p [] 0 = -1 := rfl
  rw [hz, List.length_nil] at HIX
  go_enter Tryz.func68, Tryz.ntmps68
  go_wp2_with (go_at_call 156; (with_reducible refine HIX.out.mono ?_); rintro e w3 ⟨rfl, hB3⟩)
  go_ret
  exact ⟨rfl, .inl ⟨rfl, rfl, rfl⟩, ⟨hB3.os, hB3.tape, hB3.output, hB3.size, fun k hk _ => hB3.block k hk⟩⟩
 ·cases h1
  refine (gonF_del fn lb eg p B b n cap L w hc hn hL (HD b rfl)).mono fun e w' h => ?_
  obtain ⟨h1, h2, h3⟩ := h
  exact ⟨h1, .inr ⟨b, cap, rfl, h2⟩, h3⟩
theorem emptyF_is (x : Gon) (wait day : Int) (bs bd : Nat) (w : World) (h0 : 0 ≤ x.day ∧ x.day ≤ 73048) (h1 : 0 ≤ wait ∧ wait ≤ 1000) (hs : w.cell? ⟨bs, 1, none⟩ = some (.int .i64 wait)) (hd : w.cell? ⟨bd, 0, none⟩ = some (.int .i64 day)) (hl1 : bs < w.heap.size) (hl2 : bd < w.heap.size) :
  Calls Tryz.prog 69 #[.agg #[.string x.dig, .int .i64 x.day], .pointer (some ⟨bs, 0, none⟩), .pointer (some ⟨bd, 0, none⟩)] w fun e w' => e = .returned (.bool (decide (x.day + wait ≤ day))) ∧ Below w.heap.size w w' := by
 obtain ⟨W1, hW1, hX, hz1, hB1⟩ := box w #[.string x.dig, .int .i64 x.day] 112
 have HW1 := Lib.hid hW1; have HB1 := Lib.hid hB1
 have e1 : W1.cell? ⟨w.heap.size, 1, none⟩ = some (.int .i64 x.day) := (hX.cell 1).trans rfl
 have s1 : W1.cell? ⟨bs, 1, none⟩ = some (.int .i64 wait) := (hB1.cell (p := ⟨bs, 1, none⟩) hl1).trans hs
 have d1 : W1.cell? ⟨bd, 0, none⟩ = some (.int .i64 day) := (hB1.cell (p := ⟨bd, 0, none⟩) hl2).trans hd
 have hw : IntKind.i64.wrap (x.day + wait) = x.day + wait := by rw [IntKind.wrap_i64]; omega
 clear hW1 hX hz1 hB1 hs hd hl1 hl2
 go_enter Tryz.func69, Tryz.ntmps69
 go_upto_region 1 with fail
 rw [HW1.out]
 go_wp2_with fail
 go_ret
 exact ⟨rfl, HB1.out⟩
theorem enters_empty : ∀ args w, (callFunc 69 args).run Tryz.prog w = .ok (.enter 69 args) w := enters_of Tryz.func69 (by kernel_rfl) rfl
theorem emptyS_err (s : Sto) (a : StA) (day : Int) (w : World) (hI : StIn w s a) (he : St.err s ≠ 0) : Calls Tryz.prog 13 #[.agg #[.int .i64 s.least, .int .i64 s.wait, .slice a.ta s.tiers.length a.tc, .slice a.fa s.files.length a.fc, .slice a.ca s.copies.length a.cc, .slice a.ha s.held.length a.hc, .slice a.ba s.bin.length a.bc], .int .i64 day] w (EmpErr w (St.err s)) := by
 obtain ⟨W0, hW0, hP, hz0, hB0⟩ := box w #[.int .i64 s.least, .int .i64 s.wait, .slice a.ta s.tiers.length a.tc, .slice a.fa s.files.length a.fc, .slice a.ca s.copies.length a.cc, .slice a.ha s.held.length a.hc, .slice a.ba s.bin.length a.bc] 28
 obtain ⟨W1, hW1, hD, hz1, hB1⟩ := box W0 #[.int .i64 day] 3
 obtain ⟨W2, hW2, hQ, hz2, hB2⟩ := box W1 #[.int .i64 0, .int .i64 0, .slice none 0 0, .slice none 0 0, .slice none 0 0, .slice none 0 0, .slice none 0 0] 28
 rw [hz0] at hD hz1
 rw [hz1] at hQ hz2
 have hP := (hP.keep hB1).keep hB2
 have hD := hD.keep hB2
 have hBB := below_up hB0 (below_up hB1 hB2)
 have HW0 := Lib.hid hW0; have HW1 := Lib.hid hW1; have HW2 := Lib.hid hW2; have HP := Lib.hid hP; have HD := Lib.hid hD; have HQ := Lib.hid hQ; have HBB := Lib.hid hBB; have HZ2 : Hid (W2.heap.size = w.heap.size + 3) := Lib.hid (by omega)
 have HI2 := Lib.hid (hI.keep hBB)
 obtain ⟨q0, q1, q2, q3, q4, q5, q6⟩ := hP.seven
 have d0 := hD.one
 have HCK := Lib.hid (check_is s a W2 HI2.out)
 have HSZ := Lib.hid hI.sz
 clear hI hW0 hW1 hW2 hP hD hQ hz0 hz1 hz2 hB0 hB1 hB2 hBB
 have hq1 : (St.err s != 0) = true := by simpa using he
 generalize St.err s = q at *
 clear he
 go_enter Tryz.func13, Tryz.ntmps13
 go_upto_region 1 with fail
 rw [HW0.out, HW1.out, HW2.out]
 go_upto_region 3 with (go_at_call 32; (with_reducible refine HCK.out.mono ?_); rintro e w3 ⟨rfl, hB3⟩)
 have hQ3 := HQ.out.keep hB3
 have hB03 := below_up HBB.out hB3
 have hs2 := HZ2.out
 clear q0 q1 q2 q3 q4 q5 q6 d0
 go_wp2_with (refine wpList_store_row rfl 28 _ _ rfl (w.heap.size + 2) #[.int .i64 0, .int .i64 0, .slice none 0 0, .slice none 0 0, .slice none 0 0, .slice none 0 0, .slice none 0 0] rfl rfl 28 _ hQ3 infoSto rfl (by simp [Value.oneCell']) ?_)
 obtain ⟨g0, g1, g2, g3, g4, g5, g6⟩ := (Blk.setRowAt (hQ3) #[.int .i64 0, .int .i64 0, .slice none 0 0, .slice none 0 0, .slice none 0 0, .slice none 0 0, .slice none 0 0]).seven
 refine bodyPost_ret (v := .tuple #[.agg #[.int .i64 0, .int .i64 0, .slice none 0 0, .slice none 0 0, .slice none 0 0, .slice none 0 0, .slice none 0 0], .int .i64 0, .int .i64 (q)]) (by simp [results, Tryz.results13, go_sem, g0, g1, g2, g3, g4, g5, g6]) rfl ⟨rfl, below_setRow (hB03) (by omega) _⟩
theorem emptyS_range (s : Sto) (a : StA) (day : Int) (w : World) (hI : StIn w s a) (r : St.Right s) (hday : St.inB day 0 73048 = false) : Calls Tryz.prog 13 #[.agg #[.int .i64 s.least, .int .i64 s.wait, .slice a.ta s.tiers.length a.tc, .slice a.fa s.files.length a.fc, .slice a.ca s.copies.length a.cc, .slice a.ha s.held.length a.hc, .slice a.ba s.bin.length a.bc], .int .i64 day] w (EmpErr w 2) := by
 obtain ⟨W0, hW0, hP, hz0, hB0⟩ := box w #[.int .i64 s.least, .int .i64 s.wait, .slice a.ta s.tiers.length a.tc, .slice a.fa s.files.length a.fc, .slice a.ca s.copies.length a.cc, .slice a.ha s.held.length a.hc, .slice a.ba s.bin.length a.bc] 28
 obtain ⟨W1, hW1, hD, hz1, hB1⟩ := box W0 #[.int .i64 day] 3
 obtain ⟨W2, hW2, hQ, hz2, hB2⟩ := box W1 #[.int .i64 0, .int .i64 0, .slice none 0 0, .slice none 0 0, .slice none 0 0, .slice none 0 0, .slice none 0 0] 28
 rw [hz0] at hD hz1
 rw [hz1] at hQ hz2
 have hP := (hP.keep hB1).keep hB2
 have hD := hD.keep hB2
 have hBB := below_up hB0 (below_up hB1 hB2)
 have HW0 := Lib.hid hW0; have HW1 := Lib.hid hW1; have HW2 := Lib.hid hW2; have HP := Lib.hid hP; have HD := Lib.hid hD; have HQ := Lib.hid hQ; have HBB := Lib.hid hBB; have HZ2 : Hid (W2.heap.size = w.heap.size + 3) := Lib.hid (by omega)
 have HI2 := Lib.hid (hI.keep hBB)
 obtain ⟨q0, q1, q2, q3, q4, q5, q6⟩ := hP.seven
 have d0 := hD.one
 have HCK := Lib.hid (check_is s a W2 HI2.out)
 have HSZ := Lib.hid hI.sz
 clear hI hW0 hW1 hW2 hP hD hQ hz0 hz1 hz2 hB0 hB1 hB2 hBB
 rw [St.err_iff.2 r] at HCK
 have HDY := Lib.hid (fun V => isDayS_is day V)
 rw [hday] at HDY
 clear r hday
 go_enter Tryz.func13, Tryz.ntmps13
 go_upto_region 1 with fail
 rw [HW0.out, HW1.out, HW2.out]
 go_upto_region 5 with (first
  | (go_at_call 32; (with_reducible refine HCK.out.mono ?_); rintro e w3 ⟨rfl, hv⟩; have d0 := (HD.out.keep hv).one)
  | (go_at_call 64; (with_reducible refine (HDY.out _).mono ?_); rintro e w6 ⟨rfl, rfl⟩))
 have hQ3 := HQ.out.keep hv
 have hB03 := below_up HBB.out hv
 have hs2 := HZ2.out
 clear q0 q1 q2 q3 q4 q5 q6 d0
 go_wp2_with (refine wpList_store_row rfl 28 _ _ rfl (w.heap.size + 2) #[.int .i64 0, .int .i64 0, .slice none 0 0, .slice none 0 0, .slice none 0 0, .slice none 0 0, .slice none 0 0] rfl rfl 28 _ hQ3 infoSto rfl (by simp [Value.oneCell']) ?_)
 obtain ⟨g0, g1, g2, g3, g4, g5, g6⟩ := (Blk.setRowAt (hQ3) #[.int .i64 0, .int .i64 0, .slice none 0 0, .slice none 0 0, .slice none 0 0, .slice none 0 0, .slice none 0 0]).seven
 refine bodyPost_ret (v := .tuple #[.agg #[.int .i64 0, .int .i64 0, .slice none 0 0, .slice none 0 0, .slice none 0 0, .slice none 0 0, .slice none 0 0], .int .i64 0, .int .i64 (2)]) (by simp [results, Tryz.results13, go_sem, g0, g1, g2, g3, g4, g5, g6]) rfl ⟨rfl, below_setRow (hB03) (by omega) _⟩
theorem emptyS_ok (s : Sto) (a : StA) (day : Int) (w : World) (hI : StIn w s a) (r : St.Right s) (hday : St.inB day 0 73048 = true) : Calls Tryz.prog 13 #[.agg #[.int .i64 s.least, .int .i64 s.wait, .slice a.ta s.tiers.length a.tc, .slice a.fa s.files.length a.fc, .slice a.ca s.copies.length a.cc, .slice a.ha s.held.length a.hc, .slice a.ba s.bin.length a.bc], .int .i64 day] w (EmpOk w (St.empty s day) ((s.bin.length : Int) - ((St.empty s day).bin.length : Int))) := by
 obtain ⟨W0, hW0, hP, hz0, hB0⟩ := box w #[.int .i64 s.least, .int .i64 s.wait, .slice a.ta s.tiers.length a.tc, .slice a.fa s.files.length a.fc, .slice a.ca s.copies.length a.cc, .slice a.ha s.held.length a.hc, .slice a.ba s.bin.length a.bc] 28
 obtain ⟨W1, hW1, hD, hz1, hB1⟩ := box W0 #[.int .i64 day] 3
 obtain ⟨W2, hW2, hQ, hz2, hB2⟩ := box W1 #[.int .i64 0, .int .i64 0, .slice none 0 0, .slice none 0 0, .slice none 0 0, .slice none 0 0, .slice none 0 0] 28
 rw [hz0] at hD hz1
 rw [hz1] at hQ hz2
 have hP := (hP.keep hB1).keep hB2
 have hD := hD.keep hB2
 have hBB := below_up hB0 (below_up hB1 hB2)
 have HW0 := Lib.hid hW0; have HW1 := Lib.hid hW1; have HW2 := Lib.hid hW2; have HP := Lib.hid hP; have HD := Lib.hid hD; have HQ := Lib.hid hQ; have HBB := Lib.hid hBB; have HZ2 : Hid (W2.heap.size = w.heap.size + 3) := Lib.hid (by omega)
 have HI2 := Lib.hid (hI.keep hBB)
 obtain ⟨q0, q1, q2, q3, q4, q5, q6⟩ := hP.seven
 have d0 := hD.one
 have HCK := Lib.hid (check_is s a W2 HI2.out)
 have HSZ := Lib.hid hI.sz
 clear hI hW0 hW1 hW2 hP hD hQ hz0 hz1 hz2 hB0 hB1 hB2 hBB
 rw [St.err_iff.2 r] at HCK
 obtain ⟨⟨y00, y0⟩, y1, y2, y3, y4, y5⟩ := St.sizes_iff.1 r.sizes
 have HDY := Lib.hid (fun V => isDayS_is day V)
 rw [hday] at HDY
 have HCP := Lib.hid (fun V (hv : Below W2.heap.size W2 V) => copyStore_is s a V (HI2.out.keep hv) ⟨y1, y2, y3, y4, y5⟩)
 unfold CpyPost at HCP
 have hwt := St.inB_iff.1 y0
 have HWT := Lib.hid hwt
 have HBD : Hid (∀ g ∈ s.bin, 0 ≤ g.day ∧ g.day ≤ 73048) := Lib.hid fun g hg => St.inB_iff.1 (St.binR_iff.1 (r.bin g hg).2).1
 have HS6 : Hid (∀ g ∈ s.bin, g.dig.size ≤ 9223372036854775807) := Lib.hid fun g hg => by have := St.dsz r (r.bin g hg).1; omega
 have HFL : Hid (s.bin.filter (fun y => !decide (y.day + s.wait ≤ day)) = (St.empty s day).bin) := Lib.hid rfl
 have hfl : (St.empty s day).bin.length ≤ s.bin.length := List.length_filter_le _ _
 have HFM : Hid (∀ g ∈ (St.empty s day).bin, g ∈ s.bin) := Lib.hid fun g hg => (List.mem_filter.1 hg).1
 have HRE : Hid (St.empty s day = { s with bin := (St.empty s day).bin }) := Lib.hid rfl
 generalize (St.empty s day).bin = BB at *
 obtain ⟨nb, hnb⟩ : ∃ nb, s.bin.length = nb := ⟨_, rfl⟩
 have HNB := Lib.hid hnb
 rw [hnb] at y5 hfl
 clear r hday y00 y0 y1 y2 y3 y4 hwt hnb
 go_enter Tryz.func13, Tryz.ntmps13
 go_upto_region 1 with fail
 rw [HW0.out, HW1.out, HW2.out]
 go_upto_region 7 with (first
  | (go_at_call 32; (with_reducible refine HCK.out.mono ?_); rintro e w7 ⟨rfl, hv⟩; obtain ⟨q0, q1, q2, q3, q4, q5, q6⟩ := (HP.out.keep hv).seven; have d0 := (HD.out.keep hv).one)
  | (go_at_call 64; (with_reducible refine (HDY.out _).mono ?_); rintro e w6 ⟨rfl, rfl⟩)
  | (go_at_call 51; (with_reducible refine (HCP.out _ hv).mono ?_); rintro e w8 ⟨b, rfl, hOwn, hB8⟩)
  | (refine wpList_store_row rfl 28 _ _ rfl w.heap.size #[.int .i64 s.least, .int .i64 s.wait, .slice b.ta s.tiers.length b.tc, .slice b.fa s.files.length b.fc, .slice b.ca s.copies.length b.cc, .slice b.ha s.held.length b.hc, .slice b.ba s.bin.length b.bc] rfl rfl 28 _ (HP.out.keep (below_up hv hB8)) infoSto rfl (by simp [Value.oneCell']) ?_))
 have hlt4 : w.heap.size + 2 < w7.heap.size := by have := HZ2.out; have := hv.size; omega
 have hv8 := below_up hv hB8
 have hPv := Blk.setRowAt (HP.out.keep hv8) #[.int .i64 s.least, .int .i64 s.wait, .slice b.ta s.tiers.length b.tc, .slice b.fa s.files.length b.fc, .slice b.ca s.copies.length b.cc, .slice b.ha s.held.length b.hc, .slice b.ba s.bin.length b.bc]
 have hQv := (HQ.out.keep hv8).setRowOther (b' := w.heap.size) (by omega) #[.int .i64 s.least, .int .i64 s.wait, .slice b.ta s.tiers.length b.tc, .slice b.fa s.files.length b.fc, .slice b.ca s.copies.length b.cc, .slice b.ha s.held.length b.hc, .slice b.ba s.bin.length b.bc]
 have hDv := (HD.out.keep hv8).setRowOther (b' := w.heap.size) (by omega) #[.int .i64 s.least, .int .i64 s.wait, .slice b.ta s.tiers.length b.tc, .slice b.fa s.files.length b.fc, .slice b.ca s.copies.length b.cc, .slice b.ha s.held.length b.hc, .slice b.ba s.bin.length b.bc]
 have hBv := below_setRow (below_up HBB.out hv8) (Nat.le_refl w.heap.size) #[.int .i64 s.least, .int .i64 s.wait, .slice b.ta s.tiers.length b.tc, .slice b.fa s.files.length b.fc, .slice b.ca s.copies.length b.cc, .slice b.ha s.held.length b.hc, .slice b.ba s.bin.length b.bc]
 have hOv := hOwn.setRow (b := w.heap.size) (by omega) #[.int .i64 s.least, .int .i64 s.wait, .slice b.ta s.tiers.length b.tc, .slice b.fa s.files.length b.fc, .slice b.ca s.copies.length b.cc, .slice b.ha s.held.length b.hc, .slice b.ba s.bin.length b.bc]
 have hVz : w.heap.size + 3 ≤ (w8.setRow w.heap.size #[.int .i64 s.least, .int .i64 s.wait, .slice b.ta s.tiers.length b.tc, .slice b.fa s.files.length b.fc, .slice b.ca s.copies.length b.cc, .slice b.ha s.held.length b.hc, .slice b.ba s.bin.length b.bc]).heap.size := by have := hB8.size; simp; omega
 obtain ⟨V, hV⟩ : ∃ V, w8.setRow w.heap.size #[.int .i64 s.least, .int .i64 s.wait, .slice b.ta s.tiers.length b.tc, .slice b.fa s.files.length b.fc, .slice b.ca s.copies.length b.cc, .slice b.ha s.held.length b.hc, .slice b.ba s.bin.length b.bc] = V := ⟨_, rfl⟩
 rw [hV] at hPv hQv hDv hBv hOv hVz ⊢
 clear hV q0 q1 q2 q3 q4 q5 q6 d0 hOwn hv8 hB8 hv
 have HPv := Lib.hid hPv; have HDv := Lib.hid hDv; have HOv := Lib.hid hOv; have HBv := Lib.hid hBv; have HQv := Lib.hid hQv
 have hob := hOv.bi
 rw [HNB.out] at hob
 have HOB := Lib.hid hob.lt
 have hbc := hob.caps
 have HDL := Lib.hid (gonF_delV 69 #[.pointer (some ⟨w.heap.size, 0, none⟩), .pointer (some ⟨w.heap.size + 1, 0, none⟩)] enters_empty (fun y => decide (y.day + s.wait ≤ day)) w7.heap.size nb b.bc b.ba s.bin V hob (by omega) HNB.out (fun g hg U x hx hgr => by
  have hgb := HOB.out g (by rw [hg]; rfl)
  have hPU : Blk U w.heap.size #[.int .i64 s.least, .int .i64 s.wait, .slice b.ta s.tiers.length b.tc, .slice b.fa s.files.length b.fc, .slice b.ca s.copies.length b.cc, .slice b.ha s.held.length b.hc, .slice b.ba s.bin.length b.bc] 28 := hPv.of_block (hgr.block _ (by omega) (by intro e; cases e; omega))
  have hDU : Blk U (w.heap.size + 1) #[.int .i64 day] 3 := hDv.of_block (hgr.block _ (by omega) (by intro e; cases e; omega))
  have hsU := hgr.size
  exact emptyF_is x s.wait day w.heap.size (w.heap.size + 1) U (HBD.out x hx) HWT.out hPU.seven.2.1 hDU.one (by omega) (by omega)))
 rw [HFL.out] at HDL
 obtain ⟨q0, q1, q2, q3, q4, q5, q6⟩ := hPv.seven
 rw [HNB.out] at q6
 clear hPv hQv hDv hBv hob
 have qf := HPv.out.free
 go_upto_region 8 with fail
 go_upto_region 9 with (first
  | (go_at_call 68; (with_reducible refine HDL.out.mono ?_); rintro e x1 ⟨rfl, ho1, hg1⟩; have hox := ho1.caps; have l1 := hox.1; have l2 := hox.2)
  | (go_at_call 67; (with_reducible refine (clnG_clip _ _ _ _ l1 l2).mono ?_); rintro e wc ⟨rfl, rfl⟩; have hP1 : Blk x1 w.heap.size #[.int .i64 s.least, .int .i64 s.wait, .slice b.ta s.tiers.length b.tc, .slice b.fa s.files.length b.fc, .slice b.ca s.copies.length b.cc, .slice b.ha s.held.length b.hc, .slice b.ba s.bin.length b.bc] 28 := HPv.out.of_block (hg1.block _ (by omega) (by intro e; have := (HOB.out w.heap.size e.symm).1; omega)); obtain ⟨q0, q1, q2, q3, q4, q5, q6⟩ := hP1.seven; have qf := hP1.free))
 have hPx := hP1.set 6 (.slice b.ba BB.length BB.length)
 have hQx : Blk (x1.setCell ⟨w.heap.size, 6, none⟩ (.slice b.ba BB.length BB.length)) (w.heap.size + 2) #[.int .i64 0, .int .i64 0, .slice none 0 0, .slice none 0 0, .slice none 0 0, .slice none 0 0, .slice none 0 0] 28 := by
  have h := HQv.out.of_block (hg1.block _ (by omega) (by intro e; have := (HOB.out _ e.symm).1; omega))
  exact h.setOther (a := ⟨w.heap.size, 6, none⟩) (by simp <;> omega) _
 obtain ⟨X, hX⟩ : ∃ X, x1.setCell ⟨w.heap.size, 6, none⟩ (.slice b.ba BB.length BB.length) = X := ⟨_, rfl⟩
 rw [hX] at hPx hQx ⊢
 have HX := Lib.hid hX
 clear hX q0 q1 q2 q3 q4 q5 q6 hP1
 obtain ⟨q0, q1, q2, q3, q4, q5, q6⟩ := hPx.seven
 have HPx := Lib.hid hPx; have HQx := Lib.hid hQx
 obtain ⟨r0, r1, r2, r3, r4, r5, r6⟩ := hQx.drew.seven
 have rf := hQx.drew.free
 have rf' : ∀ i, X.frozen? ⟨w.heap.size + 1 + 1, i, none⟩ = false := fun i => rf i
 have r0 : X.cell? ⟨w.heap.size + 1 + 1, 0, none⟩ = _ := r0
 have r1 : X.cell? ⟨w.heap.size + 1 + 1, 1, none⟩ = _ := r1
 have r2 : X.cell? ⟨w.heap.size + 1 + 1, 2, none⟩ = _ := r2
 have r3 : X.cell? ⟨w.heap.size + 1 + 1, 3, none⟩ = _ := r3
 have r4 : X.cell? ⟨w.heap.size + 1 + 1, 4, none⟩ = _ := r4
 have r5 : X.cell? ⟨w.heap.size + 1 + 1, 5, none⟩ = _ := r5
 have r6 : X.cell? ⟨w.heap.size + 1 + 1, 6, none⟩ = _ := r6
 clear hPx hQx
 go_region
 have bB := HOv.out.bi
 rw [HNB.out] at bB
 have hlt : w.heap.size < w7.heap.size := by omega
 have hlt2 : w.heap.size + 1 + 1 < w7.heap.size := by omega
 have t1 := (HOv.out.ti.beside bB (by decide) hg1).next (i := 6) (u := .slice b.ba BB.length BB.length) (Below.refl _ _) hlt
 have t2 := (HOv.out.fi.beside bB (by decide) hg1).next (i := 6) (u := .slice b.ba BB.length BB.length) (Below.refl _ _) hlt
 have t3 := (HOv.out.co.beside bB (by decide) hg1).next (i := 6) (u := .slice b.ba BB.length BB.length) (Below.refl _ _) hlt
 have t4 := (HOv.out.he.beside bB (by decide) hg1).next (i := 6) (u := .slice b.ba BB.length BB.length) (Below.refl _ _) hlt
 have t5 := ho1.clip.next (i := 6) (u := .slice b.ba BB.length BB.length) (Below.refl _ _) hlt
 have hB1 := (below_ownE HBv.out (bB.down (show w.heap.size ≤ w7.heap.size by omega)) hg1 (by omega)).setCell (p := ⟨w.heap.size, 6, none⟩) (Nat.le_refl _) (.slice b.ba BB.length BB.length)
 rw [HX.out] at t1 t2 t3 t4 t5 hB1
 have t1 := t1.seven hlt2 0 1 2 3 4 5 6 (.int .i64 s.least) (.int .i64 s.wait) (.slice b.ta s.tiers.length b.tc) (.slice b.fa s.files.length b.fc) (.slice b.ca s.copies.length b.cc) (.slice b.ha s.held.length b.hc) (.slice b.ba BB.length BB.length)
 have t2 := t2.seven hlt2 0 1 2 3 4 5 6 (.int .i64 s.least) (.int .i64 s.wait) (.slice b.ta s.tiers.length b.tc) (.slice b.fa s.files.length b.fc) (.slice b.ca s.copies.length b.cc) (.slice b.ha s.held.length b.hc) (.slice b.ba BB.length BB.length)
 have t3 := t3.seven hlt2 0 1 2 3 4 5 6 (.int .i64 s.least) (.int .i64 s.wait) (.slice b.ta s.tiers.length b.tc) (.slice b.fa s.files.length b.fc) (.slice b.ca s.copies.length b.cc) (.slice b.ha s.held.length b.hc) (.slice b.ba BB.length BB.length)
 have t4 := t4.seven hlt2 0 1 2 3 4 5 6 (.int .i64 s.least) (.int .i64 s.wait) (.slice b.ta s.tiers.length b.tc) (.slice b.fa s.files.length b.fc) (.slice b.ca s.copies.length b.cc) (.slice b.ha s.held.length b.hc) (.slice b.ba BB.length BB.length)
 have t5 := t5.seven hlt2 0 1 2 3 4 5 6 (.int .i64 s.least) (.int .i64 s.wait) (.slice b.ta s.tiers.length b.tc) (.slice b.fa s.files.length b.fc) (.slice b.ca s.copies.length b.cc) (.slice b.ha s.held.length b.hc) (.slice b.ba BB.length BB.length)
 have hB2 := below_seven hB1 (show w.heap.size ≤ w.heap.size + 1 + 1 by omega) 0 1 2 3 4 5 6 (.int .i64 s.least) (.int .i64 s.wait) (.slice b.ta s.tiers.length b.tc) (.slice b.fa s.files.length b.fc) (.slice b.ca s.copies.length b.cc) (.slice b.ha s.held.length b.hc) (.slice b.ba BB.length BB.length)
 obtain ⟨g0, g1, g2, g3, g4, g5, g6⟩ : _ ∧ _ := (((((((HQx.out.set 0 (.int .i64 s.least)).set 1 (.int .i64 s.wait)).set 2 (.slice b.ta s.tiers.length b.tc)).set 3 (.slice b.fa s.files.length b.fc)).set 4 (.slice b.ca s.copies.length b.cc)).set 5 (.slice b.ha s.held.length b.hc)).set 6 (.slice b.ba BB.length BB.length)).drew.seven
 go_wp2_with fail
 refine bodyPost_ret (v := .tuple #[.agg #[.int .i64 s.least, .int .i64 s.wait, .slice b.ta s.tiers.length b.tc, .slice b.fa s.files.length b.fc, .slice b.ca s.copies.length b.cc, .slice b.ha s.held.length b.hc, .slice b.ba BB.length BB.length], .int .i64 ((nb : Int) - BB.length), .int .i64 0]) (by simp [results, Tryz.results13, go_sem, g0, g1, g2, g3, g4, g5, g6]) rfl ?_
 rw [HRE.out, HNB.out]
 exact ⟨⟨b.ta, b.tc, b.fa, b.fc, b.ca, b.cc, b.ha, b.hc, b.ba, BB.length⟩, rfl, (StOwn.mk (s := { s with bin := BB }) (a := ⟨b.ta, b.tc, b.fa, b.fc, b.ca, b.cc, b.ha, b.hc, b.ba, BB.length⟩) t1 t2 t3 t4 t5).in_ ⟨HSZ.out.tz, HSZ.out.fz, HSZ.out.cz, HSZ.out.hz, fun g hg => HS6.out g (HFM.out g hg)⟩, hB2⟩
theorem emptiedF_is (x : Gon) (wait day : Int) (bs bd : Nat) (w : World) (h0 : 0 ≤ x.day ∧ x.day ≤ 73048) (h1 : 0 ≤ wait ∧ wait ≤ 1000) (hs : w.cell? ⟨bs, 1, none⟩ = some (.int .i64 wait)) (hd : w.cell? ⟨bd, 0, none⟩ = some (.int .i64 day)) (hl1 : bs < w.heap.size) (hl2 : bd < w.heap.size) :
  Calls Tryz.prog 90 #[.agg #[.string x.dig, .int .i64 x.day], .pointer (some ⟨bs, 0, none⟩), .pointer (some ⟨bd, 0, none⟩)] w fun e w' => e = .returned (.bool (decide (x.day + wait ≤ day))) ∧ Below w.heap.size w w' := by
 obtain ⟨W1, hW1, hX, hz1, hB1⟩ := box w #[.string x.dig, .int .i64 x.day] 112
 have HW1 := Lib.hid hW1; have HB1 := Lib.hid hB1
 have e1 : W1.cell? ⟨w.heap.size, 1, none⟩ = some (.int .i64 x.day) := (hX.cell 1).trans rfl
 have s1 : W1.cell? ⟨bs, 1, none⟩ = some (.int .i64 wait) := (hB1.cell (p := ⟨bs, 1, none⟩) hl1).trans hs
 have d1 : W1.cell? ⟨bd, 0, none⟩ = some (.int .i64 day) := (hB1.cell (p := ⟨bd, 0, none⟩) hl2).trans hd
 have hw : IntKind.i64.wrap (x.day + wait) = x.day + wait := by rw [IntKind.wrap_i64]; omega
 clear hW1 hX hz1 hB1 hs hd hl1 hl2
 go_enter Tryz.func90, Tryz.ntmps90
 go_upto_region 1 with fail
 rw [HW1.out]
 go_wp2_with fail
 go_ret
 exact ⟨rfl, HB1.out⟩
theorem enters_emptied : ∀ args w, (callFunc 90 args).run Tryz.prog w = .ok (.enter 90 args) w := enters_of Tryz.func90 (by kernel_rfl) rfl
theorem emptiedR_range (s : Sto) (a : StA) (day : Int) (w : World) (hI : StIn w s a) (hday : St.inB day 0 73048 = false) : Calls Tryz.prog 19 #[.agg #[.int .i64 s.least, .int .i64 s.wait, .slice a.ta s.tiers.length a.tc, .slice a.fa s.files.length a.fc, .slice a.ca s.copies.length a.cc, .slice a.ha s.held.length a.hc, .slice a.ba s.bin.length a.bc], .int .i64 day] w (EmpErr w 2) := by
 obtain ⟨W0, hW0, hP, hz0, hB0⟩ := box w #[.int .i64 s.least, .int .i64 s.wait, .slice a.ta s.tiers.length a.tc, .slice a.fa s.files.length a.fc, .slice a.ca s.copies.length a.cc, .slice a.ha s.held.length a.hc, .slice a.ba s.bin.length a.bc] 28
 obtain ⟨W1, hW1, hD, hz1, hB1⟩ := box W0 #[.int .i64 day] 3
 obtain ⟨W2, hW2, hQ, hz2, hB2⟩ := box W1 #[.int .i64 0, .int .i64 0, .slice none 0 0, .slice none 0 0, .slice none 0 0, .slice none 0 0, .slice none 0 0] 28
 rw [hz0] at hD hz1
 rw [hz1] at hQ hz2
 have hP := (hP.keep hB1).keep hB2
 have hD := hD.keep hB2
 have hBB := below_up hB0 (below_up hB1 hB2)
 have HW0 := Lib.hid hW0; have HW1 := Lib.hid hW1; have HW2 := Lib.hid hW2; have HP := Lib.hid hP; have HD := Lib.hid hD; have HQ := Lib.hid hQ; have HBB := Lib.hid hBB; have HZ2 : Hid (W2.heap.size = w.heap.size + 3) := Lib.hid (by omega)
 have HI2 := Lib.hid (hI.keep hBB)
 obtain ⟨q0, q1, q2, q3, q4, q5, q6⟩ := hP.seven
 have d0 := hD.one
 have HSZ := Lib.hid hI.sz
 clear hI hW0 hW1 hW2 hP hD hQ hz0 hz1 hz2 hB0 hB1 hB2 hBB
 have HDY := Lib.hid (fun V => inS_is day 0 73048 V)
 rw [hday] at HDY
 clear hday
 go_enter Tryz.func19, Tryz.ntmps19
 go_upto_region 1 with fail
 rw [HW0.out, HW1.out, HW2.out]
 go_upto_region 2 with (go_at_call 70; (with_reducible refine (HDY.out _).mono ?_); rintro e w6 ⟨rfl, rfl⟩)
 have hQ3 := HQ.out
 have hB03 := HBB.out
 have hs2 := HZ2.out
 clear q0 q1 q2 q3 q4 q5 q6 d0
 go_wp2_with (refine wpList_store_row rfl 28 _ _ rfl (w.heap.size + 2) #[.int .i64 0, .int .i64 0, .slice none 0 0, .slice none 0 0, .slice none 0 0, .slice none 0 0, .slice none 0 0] rfl rfl 28 _ hQ3 infoSto rfl (by simp [Value.oneCell']) ?_)
 obtain ⟨g0, g1, g2, g3, g4, g5, g6⟩ := (Blk.setRowAt (hQ3) #[.int .i64 0, .int .i64 0, .slice none 0 0, .slice none 0 0, .slice none 0 0, .slice none 0 0, .slice none 0 0]).seven
 refine bodyPost_ret (v := .tuple #[.agg #[.int .i64 0, .int .i64 0, .slice none 0 0, .slice none 0 0, .slice none 0 0, .slice none 0 0, .slice none 0 0], .int .i64 0, .int .i64 (2)]) (by simp [results, Tryz.results19, go_sem, g0, g1, g2, g3, g4, g5, g6]) rfl ⟨rfl, below_setRow (hB03) (by omega) _⟩
theorem emptiedR_ok (s : Sto) (a : StA) (day : Int) (w : World) (hI : StIn w s a) (r : St.Right s) (hday : St.inB day 0 73048 = true) : Calls Tryz.prog 19 #[.agg #[.int .i64 s.least, .int .i64 s.wait, .slice a.ta s.tiers.length a.tc, .slice a.fa s.files.length a.fc, .slice a.ca s.copies.length a.cc, .slice a.ha s.held.length a.hc, .slice a.ba s.bin.length a.bc], .int .i64 day] w (EmpOk w (St.empty s day) ((s.bin.length : Int) - ((St.empty s day).bin.length : Int))) := by
 obtain ⟨W0, hW0, hP, hz0, hB0⟩ := box w #[.int .i64 s.least, .int .i64 s.wait, .slice a.ta s.tiers.length a.tc, .slice a.fa s.files.length a.fc, .slice a.ca s.copies.length a.cc, .slice a.ha s.held.length a.hc, .slice a.ba s.bin.length a.bc] 28
 obtain ⟨W1, hW1, hD, hz1, hB1⟩ := box W0 #[.int .i64 day] 3
 obtain ⟨W2, hW2, hQ, hz2, hB2⟩ := box W1 #[.int .i64 0, .int .i64 0, .slice none 0 0, .slice none 0 0, .slice none 0 0, .slice none 0 0, .slice none 0 0] 28
 rw [hz0] at hD hz1
 rw [hz1] at hQ hz2
 have hP := (hP.keep hB1).keep hB2
 have hD := hD.keep hB2
 have hBB := below_up hB0 (below_up hB1 hB2)
 have HW0 := Lib.hid hW0; have HW1 := Lib.hid hW1; have HW2 := Lib.hid hW2; have HP := Lib.hid hP; have HD := Lib.hid hD; have HQ := Lib.hid hQ; have HBB := Lib.hid hBB; have HZ2 : Hid (W2.heap.size = w.heap.size + 3) := Lib.hid (by omega)
 have HI2 := Lib.hid (hI.keep hBB)
 obtain ⟨q0, q1, q2, q3, q4, q5, q6⟩ := hP.seven
 have d0 := hD.one
 have HSZ := Lib.hid hI.sz
 clear hI hW0 hW1 hW2 hP hD hQ hz0 hz1 hz2 hB0 hB1 hB2 hBB
 obtain ⟨⟨y00, y0⟩, y1, y2, y3, y4, y5⟩ := St.sizes_iff.1 r.sizes
 have HDY := Lib.hid (fun V => inS_is day 0 73048 V)
 rw [hday] at HDY
 have HCP := Lib.hid (fun V (hv : Below W2.heap.size W2 V) => twin_is s a V (HI2.out.keep hv) ⟨y1, y2, y3, y4, y5⟩)
 unfold CpyPost at HCP
 have hwt := St.inB_iff.1 y0
 have HWT := Lib.hid hwt
 have HBD : Hid (∀ g ∈ s.bin, 0 ≤ g.day ∧ g.day ≤ 73048) := Lib.hid fun g hg => St.inB_iff.1 (St.binR_iff.1 (r.bin g hg).2).1
 have HS6 : Hid (∀ g ∈ s.bin, g.dig.size ≤ 9223372036854775807) := Lib.hid fun g hg => by have := St.dsz r (r.bin g hg).1; omega
 have HFL : Hid (s.bin.filter (fun y => !decide (y.day + s.wait ≤ day)) = (St.empty s day).bin) := Lib.hid rfl
 have hfl : (St.empty s day).bin.length ≤ s.bin.length := List.length_filter_le _ _
 have HFM : Hid (∀ g ∈ (St.empty s day).bin, g ∈ s.bin) := Lib.hid fun g hg => (List.mem_filter.1 hg).1
 have HRE : Hid (St.empty s day = { s with bin := (St.empty s day).bin }) := Lib.hid rfl
 generalize (St.empty s day).bin = BB at *
 obtain ⟨nb, hnb⟩ : ∃ nb, s.bin.length = nb := ⟨_, rfl⟩
 have HNB := Lib.hid hnb
 rw [hnb] at y5 hfl
 clear r hday y00 y0 y1 y2 y3 y4 hwt hnb
 go_enter Tryz.func19, Tryz.ntmps19
 go_upto_region 1 with fail
 rw [HW0.out, HW1.out, HW2.out]
 have hv : Below W2.heap.size W2 W2 := Below.refl _ _
 go_upto_region 4 with (first
  | (go_at_call 70; (with_reducible refine (HDY.out _).mono ?_); rintro e w6 ⟨rfl, rfl⟩)
  | (go_at_call 81; (with_reducible refine (HCP.out _ hv).mono ?_); rintro e w8 ⟨b, rfl, hOwn, hB8⟩)
  | (refine wpList_store_row rfl 28 _ _ rfl w.heap.size #[.int .i64 s.least, .int .i64 s.wait, .slice b.ta s.tiers.length b.tc, .slice b.fa s.files.length b.fc, .slice b.ca s.copies.length b.cc, .slice b.ha s.held.length b.hc, .slice b.ba s.bin.length b.bc] rfl rfl 28 _ (HP.out.keep (below_up hv hB8)) infoSto rfl (by simp [Value.oneCell']) ?_))
 have hlt4 : w.heap.size + 2 < W2.heap.size := by have := HZ2.out; omega
 have hv8 := below_up hv hB8
 have hPv := Blk.setRowAt (HP.out.keep hv8) #[.int .i64 s.least, .int .i64 s.wait, .slice b.ta s.tiers.length b.tc, .slice b.fa s.files.length b.fc, .slice b.ca s.copies.length b.cc, .slice b.ha s.held.length b.hc, .slice b.ba s.bin.length b.bc]
 have hQv := (HQ.out.keep hv8).setRowOther (b' := w.heap.size) (by omega) #[.int .i64 s.least, .int .i64 s.wait, .slice b.ta s.tiers.length b.tc, .slice b.fa s.files.length b.fc, .slice b.ca s.copies.length b.cc, .slice b.ha s.held.length b.hc, .slice b.ba s.bin.length b.bc]
 have hDv := (HD.out.keep hv8).setRowOther (b' := w.heap.size) (by omega) #[.int .i64 s.least, .int .i64 s.wait, .slice b.ta s.tiers.length b.tc, .slice b.fa s.files.length b.fc, .slice b.ca s.copies.length b.cc, .slice b.ha s.held.length b.hc, .slice b.ba s.bin.length b.bc]
 have hBv := below_setRow (below_up HBB.out hv8) (Nat.le_refl w.heap.size) #[.int .i64 s.least, .int .i64 s.wait, .slice b.ta s.tiers.length b.tc, .slice b.fa s.files.length b.fc, .slice b.ca s.copies.length b.cc, .slice b.ha s.held.length b.hc, .slice b.ba s.bin.length b.bc]
 have hOv := hOwn.setRow (b := w.heap.size) (by omega) #[.int .i64 s.least, .int .i64 s.wait, .slice b.ta s.tiers.length b.tc, .slice b.fa s.files.length b.fc, .slice b.ca s.copies.length b.cc, .slice b.ha s.held.length b.hc, .slice b.ba s.bin.length b.bc]
 have hVz : w.heap.size + 3 ≤ (w8.setRow w.heap.size #[.int .i64 s.least, .int .i64 s.wait, .slice b.ta s.tiers.length b.tc, .slice b.fa s.files.length b.fc, .slice b.ca s.copies.length b.cc, .slice b.ha s.held.length b.hc, .slice b.ba s.bin.length b.bc]).heap.size := by have := hB8.size; simp; omega
 obtain ⟨V, hV⟩ : ∃ V, w8.setRow w.heap.size #[.int .i64 s.least, .int .i64 s.wait, .slice b.ta s.tiers.length b.tc, .slice b.fa s.files.length b.fc, .slice b.ca s.copies.length b.cc, .slice b.ha s.held.length b.hc, .slice b.ba s.bin.length b.bc] = V := ⟨_, rfl⟩
 rw [hV] at hPv hQv hDv hBv hOv hVz ⊢
 clear hV q0 q1 q2 q3 q4 q5 q6 d0 hOwn hv8 hB8 hv
 have HPv := Lib.hid hPv; have HDv := Lib.hid hDv; have HOv := Lib.hid hOv; have HBv := Lib.hid hBv; have HQv := Lib.hid hQv
 have hob := hOv.bi
 rw [HNB.out] at hob
 have HOB := Lib.hid hob.lt
 have hbc := hob.caps
 have HDL := Lib.hid (gonF_delV 90 #[.pointer (some ⟨w.heap.size, 0, none⟩), .pointer (some ⟨w.heap.size + 1, 0, none⟩)] enters_emptied (fun y => decide (y.day + s.wait ≤ day)) W2.heap.size nb b.bc b.ba s.bin V hob (by omega) HNB.out (fun g hg U x hx hgr => by
  have hgb := HOB.out g (by rw [hg]; rfl)
  have hPU : Blk U w.heap.size #[.int .i64 s.least, .int .i64 s.wait, .slice b.ta s.tiers.length b.tc, .slice b.fa s.files.length b.fc, .slice b.ca s.copies.length b.cc, .slice b.ha s.held.length b.hc, .slice b.ba s.bin.length b.bc] 28 := hPv.of_block (hgr.block _ (by omega) (by intro e; cases e; omega))
  have hDU : Blk U (w.heap.size + 1) #[.int .i64 day] 3 := hDv.of_block (hgr.block _ (by omega) (by intro e; cases e; omega))
  have hsU := hgr.size
  exact emptiedF_is x s.wait day w.heap.size (w.heap.size + 1) U (HBD.out x hx) HWT.out hPU.seven.2.1 hDU.one (by omega) (by omega)))
 rw [HFL.out] at HDL
 obtain ⟨q0, q1, q2, q3, q4, q5, q6⟩ := hPv.seven
 rw [HNB.out] at q6
 clear hPv hQv hDv hBv hob
 have qf := HPv.out.free
 go_upto_region 5 with fail
 go_upto_region 6 with (go_at_call 68; (with_reducible refine HDL.out.mono ?_); rintro e x1 ⟨rfl, ho1, hg1⟩; have hox := ho1.caps; have l1 := hox.1; have l2 := hox.2; have hP1 : Blk x1 w.heap.size #[.int .i64 s.least, .int .i64 s.wait, .slice b.ta s.tiers.length b.tc, .slice b.fa s.files.length b.fc, .slice b.ca s.copies.length b.cc, .slice b.ha s.held.length b.hc, .slice b.ba s.bin.length b.bc] 28 := HPv.out.of_block (hg1.block _ (by omega) (by intro e; have := (HOB.out w.heap.size e.symm).1; omega)); obtain ⟨q0, q1, q2, q3, q4, q5, q6⟩ := hP1.seven; have qf := hP1.free)
 have hPx := hP1.set 6 (.slice b.ba BB.length b.bc)
 have hQx : Blk (x1.setCell ⟨w.heap.size, 6, none⟩ (.slice b.ba BB.length b.bc)) (w.heap.size + 2) #[.int .i64 0, .int .i64 0, .slice none 0 0, .slice none 0 0, .slice none 0 0, .slice none 0 0, .slice none 0 0] 28 := by
  have h := HQv.out.of_block (hg1.block _ (by omega) (by intro e; have := (HOB.out _ e.symm).1; omega))
  exact h.setOther (a := ⟨w.heap.size, 6, none⟩) (by simp <;> omega) _
 obtain ⟨X, hX⟩ : ∃ X, x1.setCell ⟨w.heap.size, 6, none⟩ (.slice b.ba BB.length b.bc) = X := ⟨_, rfl⟩
 rw [hX] at hPx hQx ⊢
 have HX := Lib.hid hX
 clear hX q0 q1 q2 q3 q4 q5 q6 hP1
 obtain ⟨q0, q1, q2, q3, q4, q5, q6⟩ := hPx.seven
 have HPx := Lib.hid hPx; have HQx := Lib.hid hQx
 obtain ⟨r0, r1, r2, r3, r4, r5, r6⟩ := hQx.drew.seven
 have rf := hQx.drew.free
 have rf' : ∀ i, X.frozen? ⟨w.heap.size + 1 + 1, i, none⟩ = false := fun i => rf i
 have r0 : X.cell? ⟨w.heap.size + 1 + 1, 0, none⟩ = _ := r0
 have r1 : X.cell? ⟨w.heap.size + 1 + 1, 1, none⟩ = _ := r1
 have r2 : X.cell? ⟨w.heap.size + 1 + 1, 2, none⟩ = _ := r2
 have r3 : X.cell? ⟨w.heap.size + 1 + 1, 3, none⟩ = _ := r3
 have r4 : X.cell? ⟨w.heap.size + 1 + 1, 4, none⟩ = _ := r4
 have r5 : X.cell? ⟨w.heap.size + 1 + 1, 5, none⟩ = _ := r5
 have r6 : X.cell? ⟨w.heap.size + 1 + 1, 6, none⟩ = _ := r6
 clear hPx hQx
 go_region
 have bB := HOv.out.bi
 rw [HNB.out] at bB
 have hlt : w.heap.size < W2.heap.size := by omega
 have hlt2 : w.heap.size + 1 + 1 < W2.heap.size := by omega
 have t1 := (HOv.out.ti.beside bB (by decide) hg1).next (i := 6) (u := .slice b.ba BB.length b.bc) (Below.refl _ _) hlt
 have t2 := (HOv.out.fi.beside bB (by decide) hg1).next (i := 6) (u := .slice b.ba BB.length b.bc) (Below.refl _ _) hlt
 have t3 := (HOv.out.co.beside bB (by decide) hg1).next (i := 6) (u := .slice b.ba BB.length b.bc) (Below.refl _ _) hlt
 have t4 := (HOv.out.he.beside bB (by decide) hg1).next (i := 6) (u := .slice b.ba BB.length b.bc) (Below.refl _ _) hlt
 have t5 := ho1.next (i := 6) (u := .slice b.ba BB.length b.bc) (Below.refl _ _) hlt
 have hB1 := (below_ownE HBv.out (bB.down (show w.heap.size ≤ W2.heap.size by omega)) hg1 (by omega)).setCell (p := ⟨w.heap.size, 6, none⟩) (Nat.le_refl _) (.slice b.ba BB.length b.bc)
 rw [HX.out] at t1 t2 t3 t4 t5 hB1
 have t1 := t1.seven hlt2 0 1 2 3 4 5 6 (.int .i64 s.least) (.int .i64 s.wait) (.slice b.ta s.tiers.length b.tc) (.slice b.fa s.files.length b.fc) (.slice b.ca s.copies.length b.cc) (.slice b.ha s.held.length b.hc) (.slice b.ba BB.length b.bc)
 have t2 := t2.seven hlt2 0 1 2 3 4 5 6 (.int .i64 s.least) (.int .i64 s.wait) (.slice b.ta s.tiers.length b.tc) (.slice b.fa s.files.length b.fc) (.slice b.ca s.copies.length b.cc) (.slice b.ha s.held.length b.hc) (.slice b.ba BB.length b.bc)
 have t3 := t3.seven hlt2 0 1 2 3 4 5 6 (.int .i64 s.least) (.int .i64 s.wait) (.slice b.ta s.tiers.length b.tc) (.slice b.fa s.files.length b.fc) (.slice b.ca s.copies.length b.cc) (.slice b.ha s.held.length b.hc) (.slice b.ba BB.length b.bc)
 have t4 := t4.seven hlt2 0 1 2 3 4 5 6 (.int .i64 s.least) (.int .i64 s.wait) (.slice b.ta s.tiers.length b.tc) (.slice b.fa s.files.length b.fc) (.slice b.ca s.copies.length b.cc) (.slice b.ha s.held.length b.hc) (.slice b.ba BB.length b.bc)
 have t5 := t5.seven hlt2 0 1 2 3 4 5 6 (.int .i64 s.least) (.int .i64 s.wait) (.slice b.ta s.tiers.length b.tc) (.slice b.fa s.files.length b.fc) (.slice b.ca s.copies.length b.cc) (.slice b.ha s.held.length b.hc) (.slice b.ba BB.length b.bc)
 have hB2 := below_seven hB1 (show w.heap.size ≤ w.heap.size + 1 + 1 by omega) 0 1 2 3 4 5 6 (.int .i64 s.least) (.int .i64 s.wait) (.slice b.ta s.tiers.length b.tc) (.slice b.fa s.files.length b.fc) (.slice b.ca s.copies.length b.cc) (.slice b.ha s.held.length b.hc) (.slice b.ba BB.length b.bc)
 obtain ⟨g0, g1, g2, g3, g4, g5, g6⟩ : _ ∧ _ := (((((((HQx.out.set 0 (.int .i64 s.least)).set 1 (.int .i64 s.wait)).set 2 (.slice b.ta s.tiers.length b.tc)).set 3 (.slice b.fa s.files.length b.fc)).set 4 (.slice b.ca s.copies.length b.cc)).set 5 (.slice b.ha s.held.length b.hc)).set 6 (.slice b.ba BB.length b.bc)).drew.seven
 go_wp2_with fail
 refine bodyPost_ret (v := .tuple #[.agg #[.int .i64 s.least, .int .i64 s.wait, .slice b.ta s.tiers.length b.tc, .slice b.fa s.files.length b.fc, .slice b.ca s.copies.length b.cc, .slice b.ha s.held.length b.hc, .slice b.ba BB.length b.bc], .int .i64 ((nb : Int) - BB.length), .int .i64 0]) (by simp [results, Tryz.results19, go_sem, g0, g1, g2, g3, g4, g5, g6]) rfl ?_
 rw [HRE.out, HNB.out]
 exact ⟨⟨b.ta, b.tc, b.fa, b.fc, b.ca, b.cc, b.ha, b.hc, b.ba, b.bc⟩, rfl, (StOwn.mk (s := { s with bin := BB }) (a := ⟨b.ta, b.tc, b.fa, b.fc, b.ca, b.cc, b.ha, b.hc, b.ba, b.bc⟩) t1 t2 t3 t4 t5).in_ ⟨HSZ.out.tz, HSZ.out.fz, HSZ.out.cz, HSZ.out.hz, fun g hg => HS6.out g (HFM.out g hg)⟩, hB2⟩
theorem strF_delV (fn : FuncId) (lb : Array Value) (eg : ∀ args w, (callFunc fn args).run Tryz.prog w = .ok (.enter fn args) w) (p : ByteArray → Bool) (B n cap : Nat) (g : Option Addr) (L : List ByteArray) (w : World) (h : OwnV w B 9 1 (.slice g n cap) n (St.eS.flat L)) (hn : n ≤ 1000000) (hL : L.length = n) (HD : ∀ b, DelOk St.eS (fun x => .string x) w b fn lb p L ∨ g ≠ some ⟨b, 0, none⟩) :
  Calls Tryz.prog 87 #[.slice g n cap, .func (.func fn) #[] lb] w fun e w' => e = .returned (.slice g (L.filter (fun y => !p y)).length cap) ∧ OwnV w' B 9 1 (.slice g (L.filter (fun y => !p y)).length cap) (L.filter (fun y => !p y)).length (St.eS.flat (L.filter (fun y => !p y))) ∧ w.grownBy w' (Value.slice g n cap).ownBlock := by
 rcases h with ⟨h1, h2, h3⟩ | ⟨b, cap', h1, hc⟩
 ·cases h1
  obtain rfl := List.eq_nil_of_length_eq_zero hL
  have HIX := Lib.hid (strF_idx fn lb eg p [] none 0 w (RowE.nil _ _ _) ⟨Nat.le_refl _, by decide⟩ (fun V x hx => by cases hx))
  have hz : St.idx p [] 0 = -1 := rfl
  rw [hz, List.length_nil] at HIX
  go_enter Tryz.func87, Tryz.ntmps87
  go_wp2_with (go_at_call 161; (with_reducible refine HIX.out.mono ?_); rintro e w3 ⟨rfl, hB3⟩)
  go_ret
  exact ⟨rfl, .inl ⟨rfl, rfl, rfl⟩, ⟨hB3.os, hB3.tape, hB3.output, hB3.size, fun k hk _ => hB3.block k hk⟩⟩
 ·cases h1
  have hD : DelOk St.eS (fun x => .string x) w b fn lb p L := by
   rcases HD b with h | h
   ·exact h
   ·exact absurd rfl h
  refine (strF_del fn lb eg p B b n cap L w hc hn hL hD).mono fun e w' h => ?_
  obtain ⟨h1, h2, h3⟩ := h
  exact ⟨h1, .inr ⟨b, cap, rfl, h2⟩, h3⟩
theorem infoLck : (Tryz.prog.info? 70).map (fun i => (i.zero, i.size, i.bytes)) = some (some (.agg #[.string ByteArray.empty, .int .i64 0, .int .i64 0]), 3, 32) := by kernel_rfl

end Go.Proofs.YthdiccdnggloiaaGreatDoor
