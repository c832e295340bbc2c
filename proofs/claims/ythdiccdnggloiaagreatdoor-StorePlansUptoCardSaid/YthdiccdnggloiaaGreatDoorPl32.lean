/- Parts of the proof, no condition: StTmj. -/
import Derived.Test.YthdiccdnggloiaaGreatDoorPl26
import Derived.Test.YthdiccdnggloiaaGreatDoorPl20
set_option maxRecDepth 100000
set_option maxHeartbeats 16000000
set_option linter.unusedSimpArgs false
set_option linter.unusedVariables false
namespace Go.Proofs.YthdiccdnggloiaaGreatDoor
open Go.RowKit Go.Sort Go.Shelf Go.Maps
structure DneInv (w : World) (B : Nat) (L : List Mov) (R : Sto × Nat × Int) (j : Nat) (t : Sto) (b : StA) (W : World) : Prop where
 r : St.Right t
 go : St.doL t (L.drop j) j = R
 vw : Blk W w.heap.size #[.int .i64 t.least, .int .i64 t.wait, .slice b.ta t.tiers.length b.tc, .slice b.fa t.files.length b.fc, .slice b.ca t.copies.length b.cc, .slice b.ha t.held.length b.hc, .slice b.ba t.bin.length b.bc] 28
 ow : StOwn W B t b
 rs : Blk W (w.heap.size + 1) #[.int .i64 0, .int .i64 0, .slice none 0 0, .slice none 0 0, .slice none 0 0, .slice none 0 0, .slice none 0 0] 28
 bl : Below w.heap.size w W
 sz : B ≤ W.heap.size
theorem doneR_is (s : Sto) (a : StA) (L : List Mov) (la : Option Addr) (lc : Nat) (w : World) (hI : StIn w s a) (r : St.Right s) (hL : RowE St.eM w la L) (hlc : L.length ≤ lc ∧ lc ≤ 9223372036854775807) :
  Calls Tryz.prog 47 #[.agg #[.int .i64 s.least, .int .i64 s.wait, .slice a.ta s.tiers.length a.tc, .slice a.fa s.files.length a.fc, .slice a.ca s.copies.length a.cc, .slice a.ha s.held.length a.hc, .slice a.ba s.bin.length a.bc], .slice la L.length lc] w (DoPost w (St.doL s L 0)) := by
 obtain ⟨_, y1, y2, y3, y4, y5⟩ := St.sizes_iff.1 r.sizes
 obtain ⟨W1, hW1, hP, hz1, hB1⟩ := box w #[.int .i64 s.least, .int .i64 s.wait, .slice a.ta s.tiers.length a.tc, .slice a.fa s.files.length a.fc, .slice a.ca s.copies.length a.cc, .slice a.ha s.held.length a.hc, .slice a.ba s.bin.length a.bc] 28
 obtain ⟨W2, hW2, hQ, hz2, hB2⟩ := box W1 #[.int .i64 0, .int .i64 0, .slice none 0 0, .slice none 0 0, .slice none 0 0, .slice none 0 0, .slice none 0 0] 28
 rw [hz1] at hQ hz2
 have hP := hP.keep hB2
 have hBB := below_up hB1 hB2
 have HW1 := Lib.hid hW1; have HW2 := Lib.hid hW2; have HP := Lib.hid hP; have HQ := Lib.hid hQ; have HBB := Lib.hid hBB; have HZ2 := Lib.hid hz2
 have HI2 := Lib.hid (hI.keep hBB)
 obtain ⟨q0, q1, q2, q3, q4, q5, q6⟩ := hP.seven
 have HCP := Lib.hid (twin_is s a W2 HI2.out ⟨y1, y2, y3, y4, y5⟩)
 unfold CpyPost at HCP
 have HLR := Lib.hid (fun V (hv : Below w.heap.size w V) => hL.keep hv)
 obtain ⟨n, hn⟩ : ∃ n, L.length = n := ⟨_, rfl⟩
 have HN := Lib.hid hn
 rw [hn] at hlc ⊢
 obtain ⟨R, hR⟩ : ∃ R, St.doL s L 0 = R := ⟨_, rfl⟩
 have HR0 := Lib.hid hR
 rw [hR]
 have HRI := Lib.hid r
 clear hW1 hW2 hP hQ hz1 hz2 hB1 hB2 hBB hI r hL hn hR y1 y2 y3 y4 y5
 go_enter Tryz.func47, Tryz.ntmps47
 go_upto_region 1 with fail
 rw [HW1.out, HW2.out]
 go_upto_region 2 with (first
  | (go_at_call 81; (with_reducible refine HCP.out.mono ?_); rintro e w8 ⟨b, rfl, hOwn, hB8⟩)
  | (refine wpList_store_row rfl 28 _ _ rfl w.heap.size #[.int .i64 s.least, .int .i64 s.wait, .slice b.ta s.tiers.length b.tc, .slice b.fa s.files.length b.fc, .slice b.ca s.copies.length b.cc, .slice b.ha s.held.length b.hc, .slice b.ba s.bin.length b.bc] rfl rfl 28 _ (HP.out.keep hB8) infoSto rfl (by simp [Value.oneCell']) ?_))
 have hlt : w.heap.size + 2 ≤ W2.heap.size := by have := HZ2.out; omega
 have hz8 := hB8.size
 have HIV : Hid (DneInv w W2.heap.size L R 0 s b (w8.setRow w.heap.size #[.int .i64 s.least, .int .i64 s.wait, .slice b.ta s.tiers.length b.tc, .slice b.fa s.files.length b.fc, .slice b.ca s.copies.length b.cc, .slice b.ha s.held.length b.hc, .slice b.ba s.bin.length b.bc])) := Lib.hid ⟨HRI.out, by rw [List.drop_zero]; exact HR0.out, Blk.setRowAt (HP.out.keep hB8) _, hOwn.setRow (by omega) _, (HQ.out.keep hB8).setRowOther (by omega) _, below_setRow (below_up HBB.out hB8) (Nat.le_refl _) _, by simp; omega⟩
 have HWB : Hid (w.heap.size + 1 < W2.heap.size) := Lib.hid (by omega)
 generalize w8.setRow w.heap.size #[.int .i64 s.least, .int .i64 s.wait, .slice b.ta s.tiers.length b.tc, .slice b.fa s.files.length b.fc, .slice b.ca s.copies.length b.cc, .slice b.ha s.held.length b.hc, .slice b.ba s.bin.length b.bc] = X at *
 clear hOwn hB8 hlt hz8 q0 q1 q2 q3 q4 q5 q6 HCP HP HQ HI2
 go_upto_region 3 with fail
 go_loopg [14] n (fun gk i wr => ∃ j : Nat, ∃ t : Sto, ∃ c : StA, j ≤ n ∧ gk = n - j ∧ i = .int .i64 j ∧ DneInv w W2.heap.size L R j t c wr)
 case atStart => exact ⟨0, s, b, by omega, rfl, rfl, HIV.out⟩
 case round =>
  obtain ⟨j, t, c, hj, rfl, rfl, hD⟩ := hrel
  clear HIV
  by_cases hjn : j < n
  ·obtain ⟨m, hm⟩ : ∃ m, L[j]? = some m := ⟨_, List.getElem?_eq_getElem (by rw [HN.out]; exact hjn)⟩
   obtain ⟨bb, off, ha, hb, hcell⟩ := (HLR.out _ hD.bl) (by rw [HN.out]; omega)
   have c0 : wr.cell? ⟨bb, off + j * 4, none⟩ = some (.int .i64 m.kind) := hcell j m hm 0 (.int .i64 m.kind) rfl
   have c1 : wr.cell? ⟨bb, off + j * 4 + 1, none⟩ = some (.string m.dig) := hcell j m hm 1 (.string m.dig) rfl
   have c2 : wr.cell? ⟨bb, off + j * 4 + 2, none⟩ = some (.string m.frm) := hcell j m hm 2 (.string m.frm) rfl
   have c3 : wr.cell? ⟨bb, off + j * 4 + 3, none⟩ = some (.string m.dst) := hcell j m hm 3 (.string m.dst) rfl
   have hdr : L.drop j = m :: L.drop (j + 1) := by
    obtain ⟨h1, h2⟩ := List.getElem?_eq_some_iff.1 hm
    rw [List.drop_eq_getElem_cons h1, h2]
   have hgo := hD.go
   rw [hdr, St.doL] at hgo
   obtain ⟨W7, hW7, hX7, hz7, hB7⟩ := box wr #[.int .i64 m.kind, .string m.dig, .string m.frm, .string m.dst] 52
   have HD := Lib.hid hD
   have hvw := hD.vw.keep hB7
   have hst := (hD.ow.keep hB7).in_ (StSz.right hD.r)
   have HCM := Lib.hid (moveErrorR_is t c m W7 hst hD.r)
   have HMD := Lib.hid (fun V (hI : StIn V t c) (hq : St.mvE t m = 0) => movedR_is t c m V hI hD.r hq)
   unfold OwnPut at HMD
   have HRV := Lib.hid hD.r
   have hj0 : (0 : Int) ≤ (j : Int) := by omega
   have hj1 : (j : Int) < (n : Int) := by omega
   obtain ⟨q0, q1, q2, q3, q4, q5, q6⟩ := hvw.seven
   obtain ⟨m0, m1, m2, m3⟩ := hX7.four
   have HX7 := Lib.hid hX7; have HVW := Lib.hid hvw; have HB7 := Lib.hid hB7; have HGO := Lib.hid hgo; have HW7 := Lib.hid hW7
   clear hD hm hcell hb hdr hgo hvw hst hX7 hz7 hB7 hW7
   rw [ha]
   go_upto_region 5 with fail
   rw [HW7.out]
   clear c0 c1 c2 c3
   by_cases hq0 : St.mvE t m = 0
   ·have HQ0 := Lib.hid hq0
    rw [hq0] at HCM
    go_upto_region 8 with (go_at_call 129; (with_reducible refine HCM.out.mono ?_); rintro e w8 ⟨rfl, hq⟩; obtain ⟨q0, q1, q2, q3, q4, q5, q6⟩ := (HVW.out.keep hq).seven; obtain ⟨m0, m1, m2, m3⟩ := (HX7.out.keep hq).four)
    have hB8 := below_up HB7.out hq
    have HB8 := Lib.hid hB8
    have hI8 := (HD.out.ow.keep hB8).in_ (StSz.right HRV.out)
    have HM8 := Lib.hid (HMD.out _ hI8 HQ0.out)
    have HV8 := Lib.hid (HVW.out.keep hq)
    have HRN := Lib.hid (St.right_mv HRV.out HQ0.out)
    have HGN := HGO.out
    rw [if_pos HQ0.out] at HGN
    have HGN := Lib.hid HGN
    generalize St.mvS t m = t' at *
    clear hB8 hI8 hq hq0 HGO
    go_upto_region 9 with (first
     | (go_at_call 126; (with_reducible refine HM8.out.mono ?_); rintro e w9 ⟨c', rfl, hog, hq⟩)
     | (refine wpList_store_row rfl 28 _ _ rfl w.heap.size #[.int .i64 t'.least, .int .i64 t'.wait, .slice c'.ta t'.tiers.length c'.tc, .slice c'.fa t'.files.length c'.fc, .slice c'.ca t'.copies.length c'.cc, .slice c'.ha t'.held.length c'.hc, .slice c'.ba t'.bin.length c'.bc] rfl rfl 28 _ (HV8.out.keep hq) infoSto rfl (by simp [Value.oneCell']) ?_))
    have hb9 := below_up HB8.out hq
    have hz9 := hb9.size
    have hn9 : DneInv w W2.heap.size L R (j + 1) t' c' (w9.setRow w.heap.size #[.int .i64 t'.least, .int .i64 t'.wait, .slice c'.ta t'.tiers.length c'.tc, .slice c'.fa t'.files.length c'.fc, .slice c'.ca t'.copies.length c'.cc, .slice c'.ha t'.held.length c'.hc, .slice c'.ba t'.bin.length c'.bc]) :=
     ⟨HRN.out, HGN.out, Blk.setRowAt (HV8.out.keep hq) _, (hog.down (by have := HB8.out.size; have := HD.out.sz; omega)).setRow (by have := HWB.out; omega) _, ((HD.out.rs.keep hb9).setRowOther (by omega) _), below_setRow (below_up HD.out.bl hb9) (Nat.le_refl _) _, by have := HD.out.sz; simp; omega⟩
    have HN9 := Lib.hid hn9
    obtain ⟨V, hV⟩ : ∃ V, w9.setRow w.heap.size #[.int .i64 t'.least, .int .i64 t'.wait, .slice c'.ta t'.tiers.length c'.tc, .slice c'.fa t'.files.length c'.fc, .slice c'.ca t'.copies.length c'.cc, .slice c'.ha t'.held.length c'.hc, .slice c'.ba t'.bin.length c'.bc] = V := ⟨_, rfl⟩
    rw [hV] at HN9 ⊢
    clear hV hn9 hb9 hz9 hog hq q0 q1 q2 q3 q4 q5 q6 m0 m1 m2 m3
    go_wp2_with fail
    rw [← ha]
    go_roundg (n - (j + 1))
    case rel => exact ⟨j + 1, t', c', by omega, rfl, by go_num, HN9.out⟩
    case measure => omega
   ·have hq1 : (St.mvE t m != 0) = true := by simpa using hq0
    have HRE : Hid (R = (⟨0, 0, [], [], [], [], []⟩, j, St.mvE t m)) := Lib.hid (by rw [← HGO.out, if_neg hq0])
    have HQN := Lib.hid hq0
    generalize St.mvE t m = q at *
    clear hq0 HGO
    go_upto_region 7 with (go_at_call 129; (with_reducible refine HCM.out.mono ?_); rintro e w8 ⟨rfl, hq⟩)
    have hb8 := below_up HB7.out hq
    have hQ3 := HD.out.rs.keep hb8
    have hB03 := below_up HD.out.bl hb8
    clear q0 q1 q2 q3 q4 q5 q6 m0 m1 m2 m3 hb8 hq
    go_wp2_with (refine wpList_store_row rfl 28 _ _ rfl (w.heap.size + 1) #[.int .i64 0, .int .i64 0, .slice none 0 0, .slice none 0 0, .slice none 0 0, .slice none 0 0, .slice none 0 0] rfl rfl 28 _ hQ3 infoSto rfl (by simp [Value.oneCell']) ?_)
    obtain ⟨g0, g1, g2, g3, g4, g5, g6⟩ := (Blk.setRowAt (hQ3) #[.int .i64 0, .int .i64 0, .slice none 0 0, .slice none 0 0, .slice none 0 0, .slice none 0 0, .slice none 0 0]).seven
    refine bodyPost_ret (v := .tuple #[.agg #[.int .i64 0, .int .i64 0, .slice none 0 0, .slice none 0 0, .slice none 0 0, .slice none 0 0, .slice none 0 0], .int .i64 (j), .int .i64 (q)]) (by simp [results, Tryz.results47, go_sem, g0, g1, g2, g3, g4, g5, g6]) rfl ?_
    rw [HRE.out]
    exact .inl ⟨HQN.out, rfl, below_setRow hB03 (by omega) _⟩
  ·obtain rfl : j = n := by omega
   have hgo := hD.go
   rw [List.drop_eq_nil_of_le (by rw [HN.out]; omega), St.doL] at hgo
   have HRE : Hid (R = (t, 0, 0)) := Lib.hid hgo.symm
   obtain ⟨q0, q1, q2, q3, q4, q5, q6⟩ := hD.vw.seven
   have hQ3 := hD.rs
   have hB03 := hD.bl
   have hsz := StSz.right hD.r
   have HIZ : Hid (StIn (wr.setRow (w.heap.size + 1) #[.int .i64 t.least, .int .i64 t.wait, .slice c.ta t.tiers.length c.tc, .slice c.fa t.files.length c.fc, .slice c.ca t.copies.length c.cc, .slice c.ha t.held.length c.hc, .slice c.ba t.bin.length c.bc]) t c) := Lib.hid ((hD.ow.setRow (b := w.heap.size + 1) (by have := HWB.out; omega) #[.int .i64 t.least, .int .i64 t.wait, .slice c.ta t.tiers.length c.tc, .slice c.fa t.files.length c.fc, .slice c.ca t.copies.length c.cc, .slice c.ha t.held.length c.hc, .slice c.ba t.bin.length c.bc]).in_ hsz)
   have HBZ := Lib.hid (below_setRow hB03 (show w.heap.size ≤ w.heap.size + 1 by omega) #[.int .i64 t.least, .int .i64 t.wait, .slice c.ta t.tiers.length c.tc, .slice c.fa t.files.length c.fc, .slice c.ca t.copies.length c.cc, .slice c.ha t.held.length c.hc, .slice c.ba t.bin.length c.bc])
   clear hD hgo hsz hB03
   go_wp2_with (refine wpList_store_row rfl 28 _ _ rfl (w.heap.size + 1) #[.int .i64 t.least, .int .i64 t.wait, .slice c.ta t.tiers.length c.tc, .slice c.fa t.files.length c.fc, .slice c.ca t.copies.length c.cc, .slice c.ha t.held.length c.hc, .slice c.ba t.bin.length c.bc] rfl rfl 28 _ hQ3 infoSto rfl (by simp [Value.oneCell']) ?_)
   obtain ⟨g0, g1, g2, g3, g4, g5, g6⟩ := (Blk.setRowAt (hQ3) #[.int .i64 t.least, .int .i64 t.wait, .slice c.ta t.tiers.length c.tc, .slice c.fa t.files.length c.fc, .slice c.ca t.copies.length c.cc, .slice c.ha t.held.length c.hc, .slice c.ba t.bin.length c.bc]).seven
   refine bodyPost_ret (v := .tuple #[.agg #[.int .i64 t.least, .int .i64 t.wait, .slice c.ta t.tiers.length c.tc, .slice c.fa t.files.length c.fc, .slice c.ca t.copies.length c.cc, .slice c.ha t.held.length c.hc, .slice c.ba t.bin.length c.bc], .int .i64 0, .int .i64 0]) (by simp [results, Tryz.results47, go_sem, g0, g1, g2, g3, g4, g5, g6]) rfl ?_
   rw [HRE.out]
   exact .inr ⟨rfl, c, rfl, HIZ.out, HBZ.out⟩
end Go.Proofs.YthdiccdnggloiaaGreatDoor
