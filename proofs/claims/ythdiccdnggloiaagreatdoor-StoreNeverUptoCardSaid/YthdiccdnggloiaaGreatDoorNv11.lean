/- Parts of the proof, no condition: StTmd, StTme, StTmf, Row2, OpenRow. -/
import Derived.Test.YthdiccdnggloiaaGreatDoorNv10
import Derived.Test.YthdiccdnggloiaaGreatDoorNv9
import Derived.Test.YthdiccdnggloiaaGreatDoorNv8
import Derived.Test.YthdiccdnggloiaaGreatDoorNv4
import Derived.Test.YthdiccdnggloiaaGreatDoorNv2
import Derived.Deep.Fields23
import Derived.Deep.SlicePairs
import Derived.Deep.Slices
import Derived.Maps.RangeWalk
set_option maxRecDepth 100000
set_option maxHeartbeats 16000000
set_option linter.unusedSimpArgs false
set_option linter.unusedVariables false
namespace Go.Proofs.YthdiccdnggloiaaGreatDoor
open Go.RowKit Go.Sort Go.Shelf Go.Maps
def MadePost (w : World) (t : Sto) (a : StA) (mb : Nat) (e : Ending) (w' : World) : Prop := ∃ g c, e = .returned (.agg #[.int .i64 t.least, .int .i64 t.wait, .slice a.ta t.tiers.length a.tc, .slice a.fa t.files.length a.fc, .slice g t.copies.length c, .slice a.ha t.held.length a.hc, .slice a.ba t.bin.length a.bc, .map (some mb)]) ∧ OwnV w' w.heap.size 74 4 (.slice g t.copies.length c) t.copies.length (St.eC.flat t.copies) ∧ Below w.heap.size w w'
theorem made_drop (s : Sto) (a : StA) (mb : Nat) (m : Mov) (w : World) (hI : StIn w s a) (r : St.Right s) (hz : m.dig.size ≤ 1048576 ∧ m.frm.size ≤ 1048576 ∧ m.dst.size ≤ 1048576) (hk : m.kind = 2) :
  Calls Tryz.prog 125 #[.agg #[.int .i64 s.least, .int .i64 s.wait, .slice a.ta s.tiers.length a.tc, .slice a.fa s.files.length a.fc, .slice a.ca s.copies.length a.cc, .slice a.ha s.held.length a.hc, .slice a.ba s.bin.length a.bc, .map (some mb)], .agg #[.int .i64 m.kind, .string m.dig, .string m.frm, .string m.dst]] w (MadePost w (St.mvS s m) a mb) := by
 rw [hk]
 obtain ⟨W1, hW1, hP, hz1, hB1⟩ := box w #[.int .i64 s.least, .int .i64 s.wait, .slice a.ta s.tiers.length a.tc, .slice a.fa s.files.length a.fc, .slice a.ca s.copies.length a.cc, .slice a.ha s.held.length a.hc, .slice a.ba s.bin.length a.bc, .map (some mb)] 135
 obtain ⟨W2, hW2, hX, hz2, hB2⟩ := box W1 #[.int .i64 2, .string m.dig, .string m.frm, .string m.dst] 52
 obtain ⟨W3, hW3, hQ, hz3, hB3⟩ := box W2 #[.int .i64 0, .int .i64 0, .slice none 0 0, .slice none 0 0, .slice none 0 0, .slice none 0 0, .slice none 0 0, .map none] 135
 rw [hz1] at hX hz2
 rw [hz2] at hQ hz3
 have HW1 := Lib.hid hW1; have HW2 := Lib.hid hW2; have HW3 := Lib.hid hW3
 have hBB := below_up hB1 (below_up hB2 hB3)
 have HBB := Lib.hid hBB
 have hP := (hP.keep hB2).keep hB3
 have hX := hX.keep hB3
 have HP := Lib.hid hP; have HQ := Lib.hid hQ; have HX := Lib.hid hX
 have HI3 := Lib.hid (hI.keep hBB)
 have HZ3 : Hid (W3.heap.size = w.heap.size + 3) := Lib.hid (by omega)
 obtain ⟨_, y1, y2, y3, y4, y5⟩ := St.sizes_iff.1 r.sizes
 have hcz : ∀ x ∈ s.copies, x.dig.size ≤ 100 ∧ x.tier.size ≤ 100 := fun x hx => by have := St.cop_good r hx; omega
 have HCR := Lib.hid (fun V => copiesRow_is s a V)
 have HKF := Lib.hid (fun V => copyKey_big m.dig m.frm hz.1 hz.2.1 V)
 have HCL : Hid (∀ W, Below W3.heap.size W3 W → (W.cell? ⟨w.heap.size, 0, none⟩ = some (.int .i64 s.least) ∧ W.cell? ⟨w.heap.size, 1, none⟩ = some (.int .i64 s.wait) ∧ W.cell? ⟨w.heap.size, 2, none⟩ = some (.slice a.ta s.tiers.length a.tc) ∧ W.cell? ⟨w.heap.size, 3, none⟩ = some (.slice a.fa s.files.length a.fc) ∧ W.cell? ⟨w.heap.size, 4, none⟩ = some (.slice a.ca s.copies.length a.cc) ∧ W.cell? ⟨w.heap.size, 5, none⟩ = some (.slice a.ha s.held.length a.hc) ∧ W.cell? ⟨w.heap.size, 6, none⟩ = some (.slice a.ba s.bin.length a.bc) ∧ W.cell? ⟨w.heap.size, 7, none⟩ = some (.map (some mb))) ∧ W.cell? ⟨w.heap.size + 1, 0, none⟩ = some (.int .i64 2) ∧ W.cell? ⟨w.heap.size + 1, 1, none⟩ = some (.string m.dig) ∧ W.cell? ⟨w.heap.size + 1, 2, none⟩ = some (.string m.frm) ∧ W.cell? ⟨w.heap.size + 1, 3, none⟩ = some (.string m.dst)) := Lib.hid fun W hv => ⟨(hP.keep hv).eight, (hX.keep hv).four⟩
 clear hW1 hW2 hW3 hP hX hQ hz1 hz2 hz3 hB1 hB2 hB3 hBB
 have HWO := Lib.hid (fun V (hv : Below W3.heap.size W3 V) => woC_is s.copies (St.cop_up r) hcz (by omega) (St.key m.dig m.frm) a.ca a.cc V (HI3.out.keep hv).cl (HI3.out.keep hv).co)
 unfold ClnPost at HWO
 have HMS0 : St.mvS s m = { s with copies := St.wo St.ckey (St.key m.dig m.frm) s.copies } := by unfold St.mvS; rw [if_pos hk]
 generalize St.wo St.ckey (St.key m.dig m.frm) s.copies = CS at *
 have HMS := Lib.hid HMS0
 clear HMS0 hI r hz hk hcz y1 y2 y3 y4 y5
 go_enter Tryz.func125, Tryz.ntmps125
 go_upto_region 1 with fail
 rw [HW1.out, HW2.out, HW3.out]
 have hv : Below W3.heap.size W3 W3 := Below.refl _ _
 obtain ⟨⟨p0, p1, p2, p3, p4, p5, p6, p7⟩, m0, m1, m2, m3⟩ := HCL.out _ hv
 go_upto_region 4 with (first
  | (go_at_call 56; (with_reducible refine (HKF.out _).mono ?_); rintro e wb ⟨rfl, rfl⟩)
  | (go_at_call 54; (with_reducible refine (HCR.out _).mono ?_); rintro e wa ⟨rfl, hq⟩; have hv := below_up hv hq)
  | (go_at_call 186; (with_reducible refine (HWO.out _ hv).mono ?_); rintro e x8 ⟨g8, c8, rfl, ho8, hq⟩; have ho8 := ho8.down hv.size; have hv := below_up hv hq; obtain ⟨⟨p0, p1, p2, p3, p4, p5, p6, p7⟩, m0, m1, m2, m3⟩ := HCL.out _ hv; have qf := (HP.out.keep hv).free))
 have hlt := HZ3.out
 have hv8 := hv.size
 have hPy : Blk (x8.setCell ⟨w.heap.size, 4, none⟩ (.slice g8 CS.length c8)) w.heap.size #[.int .i64 s.least, .int .i64 s.wait, .slice a.ta s.tiers.length a.tc, .slice a.fa s.files.length a.fc, .slice g8 CS.length c8, .slice a.ha s.held.length a.hc, .slice a.ba s.bin.length a.bc, .map (some mb)] 135 := (HP.out.keep hv).set 4 (.slice g8 CS.length c8)
 have hQy := (HQ.out.keep hv).setOther (a := ⟨w.heap.size, 4, none⟩) (by simp <;> omega) (.slice g8 CS.length c8)
 have hBy := (below_up HBB.out hv).setCell (p := ⟨w.heap.size, 4, none⟩) (Nat.le_refl _) (.slice g8 CS.length c8)
 have hOy := ho8.next (i := 4) (b := w.heap.size) (u := .slice g8 CS.length c8) (Below.refl _ _) (by omega)
 obtain ⟨Y, hY⟩ : ∃ Y, x8.setCell ⟨w.heap.size, 4, none⟩ (.slice g8 CS.length c8) = Y := ⟨_, rfl⟩
 rw [hY] at hPy hQy hBy hOy ⊢
 have HOZ := Lib.hid ((hOy.setRow (b := w.heap.size + 2) (by omega) #[.int .i64 s.least, .int .i64 s.wait, .slice a.ta s.tiers.length a.tc, .slice a.fa s.files.length a.fc, .slice g8 CS.length c8, .slice a.ha s.held.length a.hc, .slice a.ba s.bin.length a.bc, .map (some mb)]).down (show w.heap.size ≤ W3.heap.size by omega))
 have HBZ := Lib.hid (below_setRow hBy (show w.heap.size ≤ w.heap.size + 2 by omega) #[.int .i64 s.least, .int .i64 s.wait, .slice a.ta s.tiers.length a.tc, .slice a.fa s.files.length a.fc, .slice g8 CS.length c8, .slice a.ha s.held.length a.hc, .slice a.ba s.bin.length a.bc, .map (some mb)])
 clear hY p0 p1 p2 p3 p4 p5 p6 p7 m0 m1 m2 m3 qf ho8 hv hq
 obtain ⟨n0, n1, n2, n3, n4, n5, n6, n7⟩ := hPy.eight
 clear hPy hBy hOy hlt hv8
 go_wp2_with (refine wpList_store_row rfl 135 _ _ rfl (w.heap.size + 2) #[.int .i64 s.least, .int .i64 s.wait, .slice a.ta s.tiers.length a.tc, .slice a.fa s.files.length a.fc, .slice g8 CS.length c8, .slice a.ha s.held.length a.hc, .slice a.ba s.bin.length a.bc, .map (some mb)] rfl rfl 135 _ hQy infoView rfl (by simp [Value.oneCell']) ?_)
 obtain ⟨g0, g1, g2, g3, g4, g5, g6, g7⟩ := (Blk.setRowAt hQy #[.int .i64 s.least, .int .i64 s.wait, .slice a.ta s.tiers.length a.tc, .slice a.fa s.files.length a.fc, .slice g8 CS.length c8, .slice a.ha s.held.length a.hc, .slice a.ba s.bin.length a.bc, .map (some mb)]).eight
 refine bodyPost_ret (v := .agg #[.int .i64 s.least, .int .i64 s.wait, .slice a.ta s.tiers.length a.tc, .slice a.fa s.files.length a.fc, .slice g8 CS.length c8, .slice a.ha s.held.length a.hc, .slice a.ba s.bin.length a.bc, .map (some mb)]) (by simp [results, Tryz.results125, go_sem, g0, g1, g2, g3, g4, g5, g6, g7]) rfl ?_
 rw [HMS.out]
 exact ⟨g8, c8, rfl, HOZ.out, HBZ.out⟩
theorem made_copy (s : Sto) (a : StA) (mb : Nat) (m : Mov) (w : World) (hI : StIn w s a) (r : St.Right s) (hz : m.dig.size ≤ 1048576 ∧ m.frm.size ≤ 1048576 ∧ m.dst.size ≤ 1048576) (hk : m.kind = 1) (hh : St.hasCopy s m.dig m.frm = true) (ht : St.hasTier s.tiers m.dst = true) :
  Calls Tryz.prog 125 #[.agg #[.int .i64 s.least, .int .i64 s.wait, .slice a.ta s.tiers.length a.tc, .slice a.fa s.files.length a.fc, .slice a.ca s.copies.length a.cc, .slice a.ha s.held.length a.hc, .slice a.ba s.bin.length a.bc, .map (some mb)], .agg #[.int .i64 m.kind, .string m.dig, .string m.frm, .string m.dst]] w (MadePost w (St.mvS s m) a mb) := by
 rw [hk]
 obtain ⟨W1, hW1, hP, hz1, hB1⟩ := box w #[.int .i64 s.least, .int .i64 s.wait, .slice a.ta s.tiers.length a.tc, .slice a.fa s.files.length a.fc, .slice a.ca s.copies.length a.cc, .slice a.ha s.held.length a.hc, .slice a.ba s.bin.length a.bc, .map (some mb)] 135
 obtain ⟨W2, hW2, hX, hz2, hB2⟩ := box W1 #[.int .i64 1, .string m.dig, .string m.frm, .string m.dst] 52
 obtain ⟨W3, hW3, hQ, hz3, hB3⟩ := box W2 #[.int .i64 0, .int .i64 0, .slice none 0 0, .slice none 0 0, .slice none 0 0, .slice none 0 0, .slice none 0 0, .map none] 135
 rw [hz1] at hX hz2
 rw [hz2] at hQ hz3
 have HW1 := Lib.hid hW1; have HW2 := Lib.hid hW2; have HW3 := Lib.hid hW3
 have hBB := below_up hB1 (below_up hB2 hB3)
 have HBB := Lib.hid hBB
 have hP := (hP.keep hB2).keep hB3
 have hX := hX.keep hB3
 have HP := Lib.hid hP; have HQ := Lib.hid hQ; have HX := Lib.hid hX
 have HI3 := Lib.hid (hI.keep hBB)
 have HZ3 : Hid (W3.heap.size = w.heap.size + 3) := Lib.hid (by omega)
 obtain ⟨_, y1, y2, y3, y4, y5⟩ := St.sizes_iff.1 r.sizes
 have hcz : ∀ x ∈ s.copies, x.dig.size ≤ 100 ∧ x.tier.size ≤ 100 := fun x hx => by have := St.cop_good r hx; omega
 have HCR := Lib.hid (fun V => copiesRow_is s a V)
 have HKF := Lib.hid (fun V => copyKey_big m.dig m.frm hz.1 hz.2.1 V)
 have HCL : Hid (∀ W, Below W3.heap.size W3 W → (W.cell? ⟨w.heap.size, 0, none⟩ = some (.int .i64 s.least) ∧ W.cell? ⟨w.heap.size, 1, none⟩ = some (.int .i64 s.wait) ∧ W.cell? ⟨w.heap.size, 2, none⟩ = some (.slice a.ta s.tiers.length a.tc) ∧ W.cell? ⟨w.heap.size, 3, none⟩ = some (.slice a.fa s.files.length a.fc) ∧ W.cell? ⟨w.heap.size, 4, none⟩ = some (.slice a.ca s.copies.length a.cc) ∧ W.cell? ⟨w.heap.size, 5, none⟩ = some (.slice a.ha s.held.length a.hc) ∧ W.cell? ⟨w.heap.size, 6, none⟩ = some (.slice a.ba s.bin.length a.bc) ∧ W.cell? ⟨w.heap.size, 7, none⟩ = some (.map (some mb))) ∧ W.cell? ⟨w.heap.size + 1, 0, none⟩ = some (.int .i64 1) ∧ W.cell? ⟨w.heap.size + 1, 1, none⟩ = some (.string m.dig) ∧ W.cell? ⟨w.heap.size + 1, 2, none⟩ = some (.string m.frm) ∧ W.cell? ⟨w.heap.size + 1, 3, none⟩ = some (.string m.dst)) := Lib.hid fun W hv => ⟨(hP.keep hv).eight, (hX.keep hv).four⟩
 clear hW1 hW2 hW3 hP hX hQ hz1 hz2 hz3 hB1 hB2 hB3 hBB
 obtain ⟨c, hcp, hcd, hct, _, hca⟩ := St.copy_pos r hh
 have hdz : m.dig.size ≤ 100 := by have := St.has16 r hh; omega
 have htz : m.dst.size ≤ 100 := by
  obtain ⟨t, htm, htn⟩ := St.hasTier_mem ht
  have := St.nm40 (St.tier_good r htm).1
  rw [htn] at this; omega
 have hhk : St.hasK St.ckey s.copies (St.key m.dig m.frm) = true := by rw [← St.hasCopy_any r]; exact hh
 have HPL := Lib.hid (fun V (hv : Below W3.heap.size W3 V) => placeC_is s.copies (St.cop_up r) hcz (by omega) (St.key m.dig m.frm) a.ca a.cc V (HI3.out.keep hv).cl (HI3.out.keep hv).co)
 rw [hhk] at HPL
 obtain ⟨ak, hak⟩ : ∃ ak, St.askedOf s m.dig m.frm 0 = ak := ⟨_, rfl⟩
 rw [hak] at hca
 have HWC := Lib.hid (fun V (hv : Below W3.heap.size W3 V) => withC_is s.copies (St.cop_up r) hcz (by omega) ⟨m.dig, m.dst, true, ak⟩ (show m.dig.size ≤ 100 ∧ m.dst.size ≤ 100 from ⟨hdz, htz⟩) a.ca a.cc V (HI3.out.keep hv).cl (HI3.out.keep hv).co)
 unfold ClnPost at HWC
 have HMS0 : St.mvS s m = { s with copies := St.wth St.ckey ⟨m.dig, m.dst, true, ak⟩ s.copies } := by unfold St.mvS; rw [if_neg (by omega), hak]
 obtain ⟨CS, hCS⟩ : ∃ CS, St.wth St.ckey ⟨m.dig, m.dst, true, ak⟩ s.copies = CS := ⟨_, rfl⟩
 rw [hCS] at HWC HMS0
 have HMS := Lib.hid HMS0
 generalize St.pos St.ckey (St.key m.dig m.frm) s.copies = p at *
 have hpl := (List.getElem?_eq_some_iff.1 hcp).1
 have hp0 : (0 : Int) ≤ (p : Int) := by omega
 have hp1 : (p : Int) < (s.copies.length : Int) := by omega
 obtain ⟨bb, off, ha, hb, hcell⟩ := HI3.out.co (by omega)
 have HA := Lib.hid ha
 have HCA : Hid (∀ W, Below W3.heap.size W3 W → (W.cell? ⟨w.heap.size, 0, none⟩ = some (.int .i64 s.least) ∧ W.cell? ⟨w.heap.size, 1, none⟩ = some (.int .i64 s.wait) ∧ W.cell? ⟨w.heap.size, 2, none⟩ = some (.slice a.ta s.tiers.length a.tc) ∧ W.cell? ⟨w.heap.size, 3, none⟩ = some (.slice a.fa s.files.length a.fc) ∧ W.cell? ⟨w.heap.size, 4, none⟩ = some (.slice (some ⟨bb, off, none⟩) s.copies.length a.cc) ∧ W.cell? ⟨w.heap.size, 5, none⟩ = some (.slice a.ha s.held.length a.hc) ∧ W.cell? ⟨w.heap.size, 6, none⟩ = some (.slice a.ba s.bin.length a.bc) ∧ W.cell? ⟨w.heap.size, 7, none⟩ = some (.map (some mb))) ∧ (W.cell? ⟨w.heap.size + 1, 0, none⟩ = some (.int .i64 1) ∧ W.cell? ⟨w.heap.size + 1, 1, none⟩ = some (.string m.dig) ∧ W.cell? ⟨w.heap.size + 1, 2, none⟩ = some (.string m.frm) ∧ W.cell? ⟨w.heap.size + 1, 3, none⟩ = some (.string m.dst)) ∧ W.cell? ⟨bb, off + p * 4 + 3, none⟩ = some (.int .i64 ak)) := Lib.hid fun W hv => by
  obtain ⟨h1, h2⟩ := HCL.out W hv
  rw [ha] at h1
  exact ⟨h1, h2, (hv.cell (p := ⟨bb, off + p * 4 + 3, none⟩) hb).trans (by rw [hca]; exact hcell p c hcp 3 (.int .i64 c.asked) rfl)⟩
 clear HMS0 hI r hz hk hcz y1 y2 y4 y5 hcp hcd hct hca hdz htz hhk hak hCS hh ht hb hcell ha
 go_enter Tryz.func125, Tryz.ntmps125
 go_upto_region 1 with fail
 rw [HW1.out, HW2.out, HW3.out]
 have hv : Below W3.heap.size W3 W3 := Below.refl _ _
 obtain ⟨⟨p0, p1, p2, p3, p4, p5, p6, p7⟩, m0, m1, m2, m3⟩ := HCL.out _ hv
 go_upto_region 6 with (first
  | (go_at_call 56; (with_reducible refine (HKF.out _).mono ?_); rintro e wb ⟨rfl, rfl⟩)
  | (go_at_call 54; (with_reducible refine (HCR.out _).mono ?_); rintro e wa ⟨rfl, hq⟩; have hv := below_up hv hq)
  | (go_at_call 55; (with_reducible refine (HPL.out _ hv).mono ?_); rintro e wc ⟨rfl, hq⟩; have hv := below_up hv hq; obtain ⟨⟨p0, p1, p2, p3, p4, p5, p6, p7⟩, m0, m1, m2, m3⟩ := HCL.out _ hv))
 have hv := hv.drew
 clear p0 p1 p2 p3 p4 p5 p6 p7 m0 m1 m2 m3
 have hHeld := HCA.out _ hv
 rw [HA.out] at HCR HWC
 refine wp_region_until (fun W => (W.cell? ⟨w.heap.size, 0, none⟩ = some (.int .i64 s.least) ∧ W.cell? ⟨w.heap.size, 1, none⟩ = some (.int .i64 s.wait) ∧ W.cell? ⟨w.heap.size, 2, none⟩ = some (.slice a.ta s.tiers.length a.tc) ∧ W.cell? ⟨w.heap.size, 3, none⟩ = some (.slice a.fa s.files.length a.fc) ∧ W.cell? ⟨w.heap.size, 4, none⟩ = some (.slice (some ⟨bb, off, none⟩) s.copies.length a.cc) ∧ W.cell? ⟨w.heap.size, 5, none⟩ = some (.slice a.ha s.held.length a.hc) ∧ W.cell? ⟨w.heap.size, 6, none⟩ = some (.slice a.ba s.bin.length a.bc) ∧ W.cell? ⟨w.heap.size, 7, none⟩ = some (.map (some mb))) ∧ (W.cell? ⟨w.heap.size + 1, 0, none⟩ = some (.int .i64 1) ∧ W.cell? ⟨w.heap.size + 1, 1, none⟩ = some (.string m.dig) ∧ W.cell? ⟨w.heap.size + 1, 2, none⟩ = some (.string m.frm) ∧ W.cell? ⟨w.heap.size + 1, 3, none⟩ = some (.string m.dst)) ∧ W.cell? ⟨bb, off + p * 4 + 3, none⟩ = some (.int .i64 ak)) 18 (by kernel_rfl) ?_
 refine anyM_take0 (i := 0) (v := ?_) rfl (by decide) (by kernel_rfl) (by kernel_rfl) (by kernel_rfl) (fun _ _ _ h => h) (Or.inl ⟨by rfl, ?_⟩) (fun _ => by assumption) ?_
 rotate_left
 ·(intro w hSw; go_simp; try (with_reducible rfl))
 try go_frame
 refine anyM_take (i := 1) (v := ?_) rfl rfl (by kernel_rfl) (by decide) (by kernel_rfl) (by kernel_rfl) (by kernel_rfl) (fun _ _ _ h => h) (Or.inl ⟨by rfl, ?_⟩) (by rfl) (by assumption) ?_
 rotate_left
 ·(intro w hSw; (try dsimp only at hSw); (try obtain ⟨⟨hs1, hs2, hs3, hs4, hs5, hs6, hs7, hs8⟩, ⟨hs9, hs10, hs11, hs12⟩, hs13⟩ := hSw); go_simp; try (with_reducible rfl))
 try go_frame
 refine anyM_take0 (i := 3) (v := ?_) rfl (by decide) (by kernel_rfl) (by kernel_rfl) (by kernel_rfl) (fun _ _ _ h => h) (Or.inl ⟨by rfl, ?_⟩) (fun _ => by assumption) ?_
 rotate_left
 ·(intro w hSw; go_simp; try (with_reducible rfl))
 try go_frame
 refine anyM_take (i := 4) (v := ?_) rfl rfl (by kernel_rfl) (by decide) (by kernel_rfl) (by kernel_rfl) (by kernel_rfl) (fun _ _ _ h => h) (Or.inl ⟨by rfl, ?_⟩) (by rfl) (by assumption) ?_
 rotate_left
 ·(intro w hSw; (try dsimp only at hSw); (try obtain ⟨⟨hs1, hs2, hs3, hs4, hs5, hs6, hs7, hs8⟩, ⟨hs9, hs10, hs11, hs12⟩, hs13⟩ := hSw); go_simp; try (with_reducible rfl))
 try go_frame
 refine anyM_take0 (i := 5) (v := ?_) rfl (by decide) (by kernel_rfl) (by kernel_rfl) (by kernel_rfl) (fun _ _ _ h => h) (Or.inl ⟨by rfl, ?_⟩) (fun _ => by assumption) ?_
 rotate_left
 ·(intro w hSw; go_simp; try (with_reducible rfl))
 try go_frame
 refine anyM_take (i := 6) (v := ?_) rfl rfl (by kernel_rfl) (by decide) (by kernel_rfl) (by kernel_rfl) (by kernel_rfl) (fun _ _ _ h => h) (Or.inl ⟨by rfl, ?_⟩) (by rfl) (by assumption) ?_
 rotate_left
 ·(intro w hSw; (try dsimp only at hSw); (try obtain ⟨⟨hs1, hs2, hs3, hs4, hs5, hs6, hs7, hs8⟩, ⟨hs9, hs10, hs11, hs12⟩, hs13⟩ := hSw); go_simp; try (with_reducible rfl))
 try go_frame
 refine anyM_take0 (i := 7) (v := ?_) rfl (by decide) (by kernel_rfl) (by kernel_rfl) (by kernel_rfl) (fun _ _ _ h => h) (Or.inl ⟨by rfl, ?_⟩) (fun _ => by assumption) ?_
 rotate_left
 ·(intro w hSw; go_simp; try (with_reducible rfl))
 try go_frame
 refine anyM_take0 (i := 8) (v := ?_) rfl (by decide) (by kernel_rfl) (by kernel_rfl) (by kernel_rfl) (fun _ _ _ h => h) (Or.inl ⟨by rfl, ?_⟩) (fun _ => by assumption) ?_
 rotate_left
 ·(intro w hSw; go_simp; try (with_reducible rfl))
 try go_frame
 refine anyM_take (i := 9) (v := ?_) rfl rfl (by kernel_rfl) (by decide) (by kernel_rfl) (by kernel_rfl) (by kernel_rfl) (fun _ _ _ h => h) (Or.inl ⟨by rfl, ?_⟩) (by rfl) (by assumption) ?_
 rotate_left
 ·(intro w hSw; (try dsimp only at hSw); (try obtain ⟨⟨hs1, hs2, hs3, hs4, hs5, hs6, hs7, hs8⟩, ⟨hs9, hs10, hs11, hs12⟩, hs13⟩ := hSw); go_simp; try (with_reducible rfl))
 try go_frame
 refine anyM_take0 (i := 10) (v := ?_) rfl (by decide) (by kernel_rfl) (by kernel_rfl) (by kernel_rfl) (fun _ _ _ h => h) (Or.inl ⟨by rfl, ?_⟩) (fun _ => by assumption) ?_
 rotate_left
 ·(intro w hSw; go_simp; try (with_reducible rfl))
 try go_frame
 refine anyM_take0 (i := 11) (v := ?_) rfl (by decide) (by kernel_rfl) (by kernel_rfl) (by kernel_rfl) (fun _ _ _ h => h) (Or.inl ⟨by rfl, ?_⟩) (fun _ => by assumption) ?_
 rotate_left
 ·(intro w hSw; go_simp; try (with_reducible rfl))
 try go_frame
 refine anyM_take0 (i := 12) (v := ?_) rfl (by decide) (by kernel_rfl) (by kernel_rfl) (by kernel_rfl) (fun _ _ _ h => h) (Or.inl ⟨by rfl, ?_⟩) (fun _ => by assumption) ?_
 rotate_left
 ·(intro w hSw; go_simp; try (with_reducible rfl))
 try go_frame
 refine anyM_take (i := 13) (v := ?_) rfl rfl (by kernel_rfl) (by decide) (by kernel_rfl) (by kernel_rfl) (by kernel_rfl) (fun _ _ _ h => h) (Or.inl ⟨by rfl, ?_⟩) (by rfl) (by assumption) ?_
 rotate_left
 ·(intro w hSw; (try dsimp only at hSw); (try obtain ⟨⟨hs1, hs2, hs3, hs4, hs5, hs6, hs7, hs8⟩, ⟨hs9, hs10, hs11, hs12⟩, hs13⟩ := hSw); go_simp; try (with_reducible rfl))
 try go_frame
 refine anyM_take0 (i := 14) (v := ?_) rfl (by decide) (by kernel_rfl) (by kernel_rfl) (by kernel_rfl) (fun _ _ _ h => h) (Or.inl ⟨by rfl, ?_⟩) (fun _ => by assumption) ?_
 rotate_left
 ·(intro w hSw; go_simp; try (with_reducible rfl))
 try go_frame
 refine anyM_ready (rs := [2]) (by kernel_rfl) (by simp) ?_
 refine ReadyM.cons rfl (fun K hK => ?_) ReadyM.nil
 go_simp
 refine (HCR.out _).mono ?_
 rintro e x7 ⟨rfl, hq⟩
 have hv := below_up hv hq
 have hHeld := HCA.out _ hv
 refine hK.out _ _ (fun _ => hHeld) ?_
 clear hK K
 try go_frame
 refine anyM_ready (rs := [15]) (by kernel_rfl) (by simp) ?_
 refine ReadyM.cons rfl (fun K hK => ?_) ReadyM.nil
 go_simp
 refine (HWC.out _ hv).mono ?_
 rintro e x8 ⟨g8, c8, rfl, ho8, hq⟩; have ho8 := ho8.down hv.size
 have hv := below_up hv hq
 have hHeld := HCA.out _ hv
 refine hK.out _ _ (fun _ => hHeld) ?_
 clear hK K
 try go_frame
 refine anyM_take0 (i := 16) (v := ?_) rfl (by decide) (by kernel_rfl) (by kernel_rfl) (by kernel_rfl) (fun _ _ _ h => h) (Or.inl ⟨by rfl, ?_⟩) (fun _ => by assumption) ?_
 rotate_left
 ·(intro w hSw; go_simp; try (with_reducible rfl))
 try go_frame
 refine anyM_take0 (i := 17) (v := ?_) rfl (by decide) (by kernel_rfl) (by kernel_rfl) (by kernel_rfl) (fun _ _ _ h => h) (Or.inl ⟨by rfl, ?_⟩) (fun _ => by assumption) ?_
 rotate_left
 ·(intro w hSw; go_simp; try (with_reducible rfl))
 try go_frame
 clear hHeld
 obtain ⟨⟨p0, p1, p2, p3, p4, p5, p6, p7⟩, m0, m1, m2, m3⟩ := HCL.out _ hv
 have qf := (HP.out.keep hv).free
 refine anyM_ready (rs := [18]) (by kernel_rfl) (by simp) ?_
 refine ReadyM.cons rfl (fun K hK => ?_) ReadyM.nil
 go_simp
 refine hK.out _ _ (fun h => absurd h (by simp)) ?_
 clear hK K
 try go_frame
 refine anyM_done (by kernel_rfl) ?_ _
 have hlt := HZ3.out
 have hv8 := hv.size
 have hPy : Blk (x8.setCell ⟨w.heap.size, 4, none⟩ (.slice g8 CS.length c8)) w.heap.size #[.int .i64 s.least, .int .i64 s.wait, .slice a.ta s.tiers.length a.tc, .slice a.fa s.files.length a.fc, .slice g8 CS.length c8, .slice a.ha s.held.length a.hc, .slice a.ba s.bin.length a.bc, .map (some mb)] 135 := (HP.out.keep hv).set 4 (.slice g8 CS.length c8)
 have hQy := (HQ.out.keep hv).setOther (a := ⟨w.heap.size, 4, none⟩) (by simp <;> omega) (.slice g8 CS.length c8)
 have hBy := (below_up HBB.out hv).setCell (p := ⟨w.heap.size, 4, none⟩) (Nat.le_refl _) (.slice g8 CS.length c8)
 have hOy := ho8.next (i := 4) (b := w.heap.size) (u := .slice g8 CS.length c8) (Below.refl _ _) (by omega)
 obtain ⟨Y, hY⟩ : ∃ Y, x8.setCell ⟨w.heap.size, 4, none⟩ (.slice g8 CS.length c8) = Y := ⟨_, rfl⟩
 rw [hY] at hPy hQy hBy hOy ⊢
 have HOZ := Lib.hid ((hOy.setRow (b := w.heap.size + 2) (by omega) #[.int .i64 s.least, .int .i64 s.wait, .slice a.ta s.tiers.length a.tc, .slice a.fa s.files.length a.fc, .slice g8 CS.length c8, .slice a.ha s.held.length a.hc, .slice a.ba s.bin.length a.bc, .map (some mb)]).down (show w.heap.size ≤ W3.heap.size by omega))
 have HBZ := Lib.hid (below_setRow hBy (show w.heap.size ≤ w.heap.size + 2 by omega) #[.int .i64 s.least, .int .i64 s.wait, .slice a.ta s.tiers.length a.tc, .slice a.fa s.files.length a.fc, .slice g8 CS.length c8, .slice a.ha s.held.length a.hc, .slice a.ba s.bin.length a.bc, .map (some mb)])
 clear hY p0 p1 p2 p3 p4 p5 p6 p7 m0 m1 m2 m3 qf ho8 hv hq
 obtain ⟨n0, n1, n2, n3, n4, n5, n6, n7⟩ := hPy.eight
 clear hPy hBy hOy hlt hv8
 go_wp2_with (refine wpList_store_row rfl 135 _ _ rfl (w.heap.size + 2) #[.int .i64 s.least, .int .i64 s.wait, .slice a.ta s.tiers.length a.tc, .slice a.fa s.files.length a.fc, .slice g8 CS.length c8, .slice a.ha s.held.length a.hc, .slice a.ba s.bin.length a.bc, .map (some mb)] rfl rfl 135 _ hQy infoView rfl (by simp [Value.oneCell']) ?_)
 obtain ⟨g0, g1, g2, g3, g4, g5, g6, g7⟩ := (Blk.setRowAt hQy #[.int .i64 s.least, .int .i64 s.wait, .slice a.ta s.tiers.length a.tc, .slice a.fa s.files.length a.fc, .slice g8 CS.length c8, .slice a.ha s.held.length a.hc, .slice a.ba s.bin.length a.bc, .map (some mb)]).eight
 refine bodyPost_ret (v := .agg #[.int .i64 s.least, .int .i64 s.wait, .slice a.ta s.tiers.length a.tc, .slice a.fa s.files.length a.fc, .slice g8 CS.length c8, .slice a.ha s.held.length a.hc, .slice a.ba s.bin.length a.bc, .map (some mb)]) (by simp [results, Tryz.results125, go_sem, g0, g1, g2, g3, g4, g5, g6, g7]) rfl ?_
 rw [HMS.out]
 exact ⟨g8, c8, rfl, HOZ.out, HBZ.out⟩
namespace St
theorem mvS_eq (s : Sto) (m : Mov) : ∃ CS, mvS s m = { s with copies := CS } := by
 unfold mvS
 split
 ·exact ⟨_, rfl⟩
 ·exact ⟨_, rfl⟩
theorem frm_size {s : Sto} (r : Right s) {f : Fil} (hf : f ∈ s.files) : f.frm.size ≤ 16 := by
 by_cases hk : f.kind = 1
 ·have h := (r.dig f hf).2
  unfold fileR at h
  split at h
  ·split at h
   ·split at h
    ·cases h
    ·rename_i h3
     have h4 : f.frm.toList.isEmpty = true := by
      cases e : f.frm.toList.isEmpty with
      | true => rfl
      | false => exact absurd ⟨hk, e⟩ h3
     have h5 : f.frm.toList = [] := List.isEmpty_iff.1 h4
     have h6 := size_len f.frm
     rw [h5] at h6
     simp at h6
     omega
   ·cases h
  ·cases h
 ·have := dsz r (r.frm f hf hk)
  omega
end St
theorem StSz.right {s : Sto} (r : St.Right s) : StSz s :=
 ⟨fun t ht => by have := St.nm40 (St.tier_good r ht).1; omega, fun f hf => ⟨by have := St.dig16 (r.dig f hf).1; omega, by have := St.frm_size r hf; omega⟩, fun c hc => by have := St.cop_good r hc; omega, fun d hd => by have := St.dsz r (r.held d hd); omega, fun g hg => by have := St.dsz r (r.bin g hg).1; omega⟩
theorem OwnV.setRowFar {w : World} {B k n q : Nat} {e t : TypeId} {v : Value} {xs : List Value} {c : Array Value} (h : OwnV w B e k v n xs) (hb : Blk w q c t) (hne : e ≠ t) (cs : Array Value) : OwnV (w.setRow q cs) B e k v n xs := by
 rcases h with h | ⟨g0, cap, h, hc⟩
 ·exact .inl h
 ·refine .inr ⟨g0, cap, h, hc.of_block (setRow_other w q g0 cs ?_)⟩
  obtain ⟨cur0, _, h0, _⟩ := hc
  rintro rfl
  have hb' : w.heap[g0]? = some (.cells c t (0, 0)) := hb
  rw [hb'] at h0
  cases h0
  exact hne rfl
theorem StOwn.setRowFar {w : World} {B q : Nat} {s : Sto} {a : StA} {c : Array Value} (h : StOwn w B s a) (hb : Blk w q c 135) (cs : Array Value) : StOwn (w.setRow q cs) B s a :=
 ⟨h.ti.setRowFar hb (by decide) cs, h.fi.setRowFar hb (by decide) cs, h.co.setRowFar hb (by decide) cs, h.he.setRowFar hb (by decide) cs, h.bi.setRowFar hb (by decide) cs⟩
theorem FMap.row {w : World} {b q : Nat} {L : List Fil} (h : FMap w b L) (hq : b ≠ q) (cs : Array Value) : FMap (w.setRow q cs) b L :=
 h.kept (row := some q) ⟨rfl, rfl, rfl, by simp, fun j hj hne => setRow_other w q j cs (by intro e; exact hne (by rw [e]))⟩ (by intro e; exact hq (Option.some.inj e))
theorem made_is (s : Sto) (a : StA) (mb : Nat) (m : Mov) (w : World) (hI : StIn w s a) (r : St.Right s) (hz : m.dig.size ≤ 1048576 ∧ m.frm.size ≤ 1048576 ∧ m.dst.size ≤ 1048576) (hq : St.mvE s m = 0) :
  Calls Tryz.prog 125 #[.agg #[.int .i64 s.least, .int .i64 s.wait, .slice a.ta s.tiers.length a.tc, .slice a.fa s.files.length a.fc, .slice a.ca s.copies.length a.cc, .slice a.ha s.held.length a.hc, .slice a.ba s.bin.length a.bc, .map (some mb)], .agg #[.int .i64 m.kind, .string m.dig, .string m.frm, .string m.dst]] w (MadePost w (St.mvS s m) a mb) := by
 obtain ⟨h1, _, h | h⟩ := St.mv_ways r hq
 ·exact made_drop s a mb m w hI r hz h.1
 ·exact made_copy s a mb m w hI r hz h.1 h1 h.2.2.1
def DoPost (w : World) (R : Sto × Nat × Int) (e : Ending) (w' : World) : Prop :=
 (R.2.2 ≠ 0 ∧ e = .returned (.tuple #[.agg #[.int .i64 0, .int .i64 0, .slice none 0 0, .slice none 0 0, .slice none 0 0, .slice none 0 0, .slice none 0 0], .int .i64 R.2.1, .int .i64 R.2.2]) ∧ Below w.heap.size w w') ∨
 (R.2.2 = 0 ∧ ∃ a' : StA, e = .returned (.tuple #[.agg #[.int .i64 R.1.least, .int .i64 R.1.wait, .slice a'.ta R.1.tiers.length a'.tc, .slice a'.fa R.1.files.length a'.fc, .slice a'.ca R.1.copies.length a'.cc, .slice a'.ha R.1.held.length a'.hc, .slice a'.ba R.1.bin.length a'.bc], .int .i64 0, .int .i64 0]) ∧ StIn w' R.1 a' ∧ Below w.heap.size w w')
structure DoInv (w : World) (B vb mb : Nat) (F : List Fil) (L : List Mov) (R : Sto × Nat × Int) (j : Nat) (t : Sto) (b : StA) (W : World) : Prop where
 r : St.Right t
 fl : t.files = F
 go : St.doL t (L.drop j) j = R
 vw : Blk W vb #[.int .i64 t.least, .int .i64 t.wait, .slice b.ta t.tiers.length b.tc, .slice b.fa t.files.length b.fc, .slice b.ca t.copies.length b.cc, .slice b.ha t.held.length b.hc, .slice b.ba t.bin.length b.bc, .map (some mb)] 135
 ow : StOwn W B t b
 fm : FMap W mb F
 rs : Blk W (w.heap.size + 1) #[.int .i64 0, .int .i64 0, .slice none 0 0, .slice none 0 0, .slice none 0 0, .slice none 0 0, .slice none 0 0] 28
 bl : Below w.heap.size w W
 sz : vb < W.heap.size
theorem doS_wrong (s : Sto) (a : StA) (la : Option Addr) (n lc : Nat) (w : World) (hI : StIn w s a) (he : St.err s ≠ 0) :
  Calls Tryz.prog 45 #[.agg #[.int .i64 s.least, .int .i64 s.wait, .slice a.ta s.tiers.length a.tc, .slice a.fa s.files.length a.fc, .slice a.ca s.copies.length a.cc, .slice a.ha s.held.length a.hc, .slice a.ba s.bin.length a.bc], .slice la n lc] w fun e w' => e = .returned (.tuple #[.agg #[.int .i64 0, .int .i64 0, .slice none 0 0, .slice none 0 0, .slice none 0 0, .slice none 0 0, .slice none 0 0], .int .i64 0, .int .i64 (St.err s)]) ∧ Below w.heap.size w w' := by
 obtain ⟨W1, hW1, hP, hz1, hB1⟩ := box w #[.int .i64 s.least, .int .i64 s.wait, .slice a.ta s.tiers.length a.tc, .slice a.fa s.files.length a.fc, .slice a.ca s.copies.length a.cc, .slice a.ha s.held.length a.hc, .slice a.ba s.bin.length a.bc] 28
 obtain ⟨W2, hW2, hQ, hz2, hB2⟩ := box W1 #[.int .i64 0, .int .i64 0, .slice none 0 0, .slice none 0 0, .slice none 0 0, .slice none 0 0, .slice none 0 0] 28
 rw [hz1] at hQ hz2
 have hP := hP.keep hB2
 have hBB := below_up hB1 hB2
 have HW1 := Lib.hid hW1; have HW2 := Lib.hid hW2; have HP := Lib.hid hP; have HQ := Lib.hid hQ; have HBB := Lib.hid hBB; have HZ2 := Lib.hid hz2
 have HI2 := Lib.hid (hI.keep hBB)
 obtain ⟨q0, q1, q2, q3, q4, q5, q6⟩ := hP.seven
 have HCK := Lib.hid (fun V (hv : Below W2.heap.size W2 V) => check_is s a V (HI2.out.keep hv))
 have HSZ := Lib.hid hI.sz
 clear hW1 hW2 hP hQ hz1 hz2 hB1 hB2 hBB
 have hv : Below W2.heap.size W2 W2 := Below.refl _ _
 have hq1 : (St.err s != 0) = true := by simpa using he
 generalize St.err s = q at *
 clear he
 go_enter Tryz.func45, Tryz.ntmps45
 go_upto_region 1 with fail
 rw [HW1.out, HW2.out]
 go_upto_region 3 with (go_at_call 32; (with_reducible refine (HCK.out _ hv).mono ?_); rintro e w3 ⟨rfl, hq⟩; have hv := below_up hv hq)
 have hQ3 := HQ.out.keep hv
 have hB03 := below_up HBB.out hv
 clear q0 q1 q2 q3 q4 q5 q6
 go_wp2_with (refine wpList_store_row rfl 28 _ _ rfl (w.heap.size + 1) #[.int .i64 0, .int .i64 0, .slice none 0 0, .slice none 0 0, .slice none 0 0, .slice none 0 0, .slice none 0 0] rfl rfl 28 _ hQ3 infoSto rfl (by simp [Value.oneCell']) ?_)
 obtain ⟨g0, g1, g2, g3, g4, g5, g6⟩ := (Blk.setRowAt (hQ3) #[.int .i64 0, .int .i64 0, .slice none 0 0, .slice none 0 0, .slice none 0 0, .slice none 0 0, .slice none 0 0]).seven
 refine bodyPost_ret (v := .tuple #[.agg #[.int .i64 0, .int .i64 0, .slice none 0 0, .slice none 0 0, .slice none 0 0, .slice none 0 0, .slice none 0 0], .int .i64 (0), .int .i64 (q)]) (by simp [results, Tryz.results45, go_sem, g0, g1, g2, g3, g4, g5, g6]) rfl ?_
 exact ⟨rfl, below_setRow hB03 (by omega) _⟩
theorem doS_right (s : Sto) (a : StA) (L : List Mov) (la : Option Addr) (lc : Nat) (w : World) (hI : StIn w s a) (r : St.Right s) (hL : RowE St.eM w la L) (hlc : L.length ≤ lc ∧ lc ≤ 9223372036854775807) (hz : ∀ m ∈ L, m.dig.size ≤ 1048576 ∧ m.frm.size ≤ 1048576 ∧ m.dst.size ≤ 1048576) :
  Calls Tryz.prog 45 #[.agg #[.int .i64 s.least, .int .i64 s.wait, .slice a.ta s.tiers.length a.tc, .slice a.fa s.files.length a.fc, .slice a.ca s.copies.length a.cc, .slice a.ha s.held.length a.hc, .slice a.ba s.bin.length a.bc], .slice la L.length lc] w (DoPost w (St.doL s L 0)) := by
 obtain ⟨_, y1, y2, y3, y4, y5⟩ := St.sizes_iff.1 r.sizes
 obtain ⟨W1, hW1, hP, hz1, hB1⟩ := box w #[.int .i64 s.least, .int .i64 s.wait, .slice a.ta s.tiers.length a.tc, .slice a.fa s.files.length a.fc, .slice a.ca s.copies.length a.cc, .slice a.ha s.held.length a.hc, .slice a.ba s.bin.length a.bc] 28
 obtain ⟨W2, hW2, hQ, hz2, hB2⟩ := box W1 #[.int .i64 0, .int .i64 0, .slice none 0 0, .slice none 0 0, .slice none 0 0, .slice none 0 0, .slice none 0 0] 28
 rw [hz1] at hQ hz2
 have hP := hP.keep hB2
 have hBB := below_up hB1 hB2
 have HW1 := Lib.hid hW1; have HW2 := Lib.hid hW2; have HP := Lib.hid hP; have HQ := Lib.hid hQ; have HBB := Lib.hid hBB; have HZ2 := Lib.hid hz2
 have HI2 := Lib.hid (hI.keep hBB)
 obtain ⟨q0, q1, q2, q3, q4, q5, q6⟩ := hP.seven
 have HCK := Lib.hid (fun V (hv : Below W2.heap.size W2 V) => check_is s a V (HI2.out.keep hv))
 have HSZ := Lib.hid hI.sz
 clear hW1 hW2 hP hQ hz1 hz2 hB1 hB2 hBB
 have hv : Below W2.heap.size W2 W2 := Below.refl _ _
 rw [St.err_iff.2 r] at HCK
 have HCP := Lib.hid (fun V (hv : Below W2.heap.size W2 V) => copyStore_is s a V (HI2.out.keep hv) ⟨y1, y2, y3, y4, y5⟩)
 unfold CpyPost at HCP
 have HLK := Lib.hid (fun V (b : StA) (hb : StIn V s b) => look_is s b V hb (by omega))
 have HLR := Lib.hid (fun V (hv : Below w.heap.size w V) => hL.keep hv)
 have HZM := Lib.hid hz
 obtain ⟨n, hn⟩ : ∃ n, L.length = n := ⟨_, rfl⟩
 have HN := Lib.hid hn
 rw [hn] at hlc ⊢
 obtain ⟨R, hR⟩ : ∃ R, St.doL s L 0 = R := ⟨_, rfl⟩
 have HR0 := Lib.hid hR
 rw [hR]
 have HRI := Lib.hid r
 clear hI r hL hz hn hR y1 y2 y3 y4 y5
 go_enter Tryz.func45, Tryz.ntmps45
 go_upto_region 1 with fail
 rw [HW1.out, HW2.out]
 go_upto_region 5 with (first
  | (go_at_call 32; (with_reducible refine (HCK.out _ hv).mono ?_); rintro e w3 ⟨rfl, hq⟩; have hv := below_up hv hq; obtain ⟨q0, q1, q2, q3, q4, q5, q6⟩ := (HP.out.keep hv).seven)
  | (go_at_call 51; (with_reducible refine (HCP.out _ hv).mono ?_); rintro e w4 ⟨b, rfl, hOwn, hB4⟩)
  | (go_at_call 93; (with_reducible refine (HLK.out _ b (hOwn.in_ HSZ.out)).mono ?_); rintro e w5 ⟨mb, rfl, hmb, hM, hB5⟩))
 have hO5 := (hOwn.keep hB5).down hv.size
 have hv5 := below_up (below_up hv hB4) hB5
 obtain ⟨W6, hW6, hX6, hz6, hB6⟩ := box w5 #[.int .i64 s.least, .int .i64 s.wait, .slice b.ta s.tiers.length b.tc, .slice b.fa s.files.length b.fc, .slice b.ca s.copies.length b.cc, .slice b.ha s.held.length b.hc, .slice b.ba s.bin.length b.bc, .map (some mb)] 135
 rw [hW6]
 have hlt : w.heap.size + 2 ≤ W2.heap.size := by have := HZ2.out; omega
 have hlv := hv5.size
 have hmv := hM.lt
 have HIV : Hid (DoInv w W2.heap.size w5.heap.size mb s.files L R 0 s b W6) := Lib.hid ⟨HRI.out, rfl, by rw [List.drop_zero]; exact HR0.out, hX6, hO5.keep hB6, hM.keep hB6, (HQ.out.keep hv5).keep hB6, below_up HBB.out (below_up hv5 hB6), by omega⟩
 have HMV : Hid (mb ≠ w5.heap.size) := Lib.hid (by omega)
 have HVB : Hid (w.heap.size + 1 < w5.heap.size) := Lib.hid (by omega)
 have HWB : Hid (w.heap.size + 1 < W2.heap.size ∧ W2.heap.size ≤ w5.heap.size) := Lib.hid (by omega)
 generalize w5.heap.size = vb at *
 generalize s.files = F at *
 clear hOwn hB4 hB5 hO5 hv5 hv hM hmb hW6 hX6 hz6 hB6 hlt hlv hmv q0 q1 q2 q3 q4 q5 q6 HCK HCP HLK HP HQ HI2
 go_upto_region 6 with fail
 go_loopg [23] n (fun gk i wr => ∃ j : Nat, ∃ t : Sto, ∃ c : StA, j ≤ n ∧ gk = n - j ∧ i = .int .i64 j ∧ DoInv w W2.heap.size vb mb F L R j t c wr)
 case atStart => exact ⟨0, s, b, by omega, rfl, rfl, HIV.out⟩
 case round =>
  obtain ⟨j, t, c, hj, rfl, rfl, hD⟩ := hrel
  clear HIV
  by_cases hjn : j < n
  ·obtain ⟨m, hm⟩ : ∃ m, L[j]? = some m := ⟨_, List.getElem?_eq_getElem (by rw [HN.out]; exact hjn)⟩
   obtain ⟨bb, off, ha, hb, hcell⟩ := (HLR.out _ hD.bl) (by rw [HN.out]; omega)
   have c0 : wr.cell? ⟨bb, off + j * 4, none⟩ = some (.int .i64 m.kind) := hcell j m hm 0 (.int .i64 m.kind) rfl
   have c1 : wr.cell? ⟨bb, off + j * 4 + 1, none⟩ = some (.string m.dig) := hcell j m hm 1 (.string m.dig) rfl
   have c2 : wr.cell? ⟨bb, off + j * 4 + 2, none⟩ = some (.string m.frm) := hcell j m hm 2 (.string m.frm) rfl
   have c3 : wr.cell? ⟨bb, off + j * 4 + 3, none⟩ = some (.string m.dst) := hcell j m hm 3 (.string m.dst) rfl
   have hmz := HZM.out m (List.mem_of_getElem? hm)
   have hdr : L.drop j = m :: L.drop (j + 1) := by
    obtain ⟨h1, h2⟩ := List.getElem?_eq_some_iff.1 hm
    rw [List.drop_eq_getElem_cons h1, h2]
   have hgo := hD.go
   rw [hdr, St.doL] at hgo
   obtain ⟨W7, hW7, hX7, hz7, hB7⟩ := box wr #[.int .i64 m.kind, .string m.dig, .string m.frm, .string m.dst] 52
   have HD := Lib.hid hD
   have hvw := hD.vw.keep hB7
   have hst := (hD.ow.keep hB7).in_ (StSz.right hD.r)
   have HCM := Lib.hid (checkMove_is t c mb m W7 hst (by rw [hD.fl]; exact hD.fm.keep hB7) hD.r hmz)
   have HMD := Lib.hid (fun V (hI : StIn V t c) (hq : St.mvE t m = 0) => made_is t c mb m V hI hD.r hmz hq)
   unfold MadePost at HMD
   have HRV := Lib.hid hD.r
   obtain ⟨CS, hCS⟩ := St.mvS_eq t m
   have hj0 : (0 : Int) ≤ (j : Int) := by omega
   have hj1 : (j : Int) < (n : Int) := by omega
   obtain ⟨p0, p1, p2, p3, p4, p5, p6, p7⟩ := hvw.eight
   obtain ⟨m0, m1, m2, m3⟩ := hX7.four
   have HX7 := Lib.hid hX7; have HVW := Lib.hid hvw; have HB7 := Lib.hid hB7; have HGO := Lib.hid hgo; have HCS := Lib.hid hCS; have HW7 := Lib.hid hW7
   clear hD hm hcell hb hmz hdr hgo hvw hst hX7 hz7 hB7 hCS hW7
   rw [ha]
   go_upto_region 8 with fail
   rw [HW7.out]
   clear c0 c1 c2 c3
   by_cases hq0 : St.mvE t m = 0
   ·have HQ0 := Lib.hid hq0
    rw [hq0] at HCM
    go_upto_region 11 with (go_at_call 124; (with_reducible refine HCM.out.mono ?_); rintro e w8 ⟨rfl, hq⟩; obtain ⟨p0, p1, p2, p3, p4, p5, p6, p7⟩ := (HVW.out.keep hq).eight; obtain ⟨m0, m1, m2, m3⟩ := (HX7.out.keep hq).four)
    have hB8 := below_up HB7.out hq
    have HB8 := Lib.hid hB8
    have hI8 := (HD.out.ow.keep hB8).in_ (StSz.right HRV.out)
    have HM8 := Lib.hid (HMD.out _ hI8 HQ0.out)
    rw [HCS.out] at HM8
    have HV8 := Lib.hid (HVW.out.keep hq)
    clear hB8 hI8 hq hq0
    go_upto_region 12 with (first
     | (go_at_call 125; (with_reducible refine HM8.out.mono ?_); rintro e w9 ⟨g, cc, rfl, hog, hq⟩)
     | (refine wpList_store_row rfl 135 _ _ rfl vb #[.int .i64 t.least, .int .i64 t.wait, .slice c.ta t.tiers.length c.tc, .slice c.fa t.files.length c.fc, .slice g CS.length cc, .slice c.ha t.held.length c.hc, .slice c.ba t.bin.length c.bc, .map (some mb)] rfl rfl 135 _ (HV8.out.keep hq) infoView rfl (by simp [Value.oneCell']) ?_))
    have hb9 := below_up HB8.out hq
    have hvw9 := HV8.out.keep hq
    have hz9 := hb9.size
    have hszv := HD.out.sz
    have hn9 : DoInv w W2.heap.size vb mb F L R (j + 1) { t with copies := CS } ⟨c.ta, c.tc, c.fa, c.fc, g, cc, c.ha, c.hc, c.ba, c.bc⟩ (w9.setRow vb #[.int .i64 t.least, .int .i64 t.wait, .slice c.ta t.tiers.length c.tc, .slice c.fa t.files.length c.fc, .slice g CS.length cc, .slice c.ha t.held.length c.hc, .slice c.ba t.bin.length c.bc, .map (some mb)]) := by
     have ho := HD.out.ow.keep hb9
     have ho2 : StOwn w9 W2.heap.size { t with copies := CS } ⟨c.ta, c.tc, c.fa, c.fc, g, cc, c.ha, c.hc, c.ba, c.bc⟩ := ⟨ho.ti, ho.fi, hog.down (by have := HB8.out.size; have := HD.out.sz; have := HWB.out; omega), ho.he, ho.bi⟩
     refine ⟨by rw [← HCS.out]; exact St.right_mv HRV.out HQ0.out, HD.out.fl, ?_, Blk.setRowAt hvw9 _, ho2.setRowFar hvw9 _, (HD.out.fm.keep hb9).row HMV.out _, ((HD.out.rs.keep hb9).setRowOther (by have := HVB.out; omega) _), below_setRow (below_up HD.out.bl hb9) (by have := HVB.out; omega) _, by simp; omega⟩
     have := HGO.out
     rw [if_pos HQ0.out, HCS.out] at this
     exact this
    have HN9 := Lib.hid hn9
    obtain ⟨V, hV⟩ : ∃ V, w9.setRow vb #[.int .i64 t.least, .int .i64 t.wait, .slice c.ta t.tiers.length c.tc, .slice c.fa t.files.length c.fc, .slice g CS.length cc, .slice c.ha t.held.length c.hc, .slice c.ba t.bin.length c.bc, .map (some mb)] = V := ⟨_, rfl⟩
    rw [hV] at HN9 ⊢
    clear hV hn9 hb9 hvw9 hz9 hszv hog hq p0 p1 p2 p3 p4 p5 p6 p7 m0 m1 m2 m3
    go_wp2_with fail
    rw [← ha]
    go_roundg (n - (j + 1))
    case rel => exact ⟨j + 1, _, _, by omega, rfl, by go_num, HN9.out⟩
    case measure => omega
   ·have hq1 : (St.mvE t m != 0) = true := by simpa using hq0
    have HRE : Hid (R = (⟨0, 0, [], [], [], [], []⟩, j, St.mvE t m)) := Lib.hid (by rw [← HGO.out, if_neg hq0])
    have HQN := Lib.hid hq0
    generalize St.mvE t m = q at *
    clear hq0 HGO
    go_upto_region 10 with (go_at_call 124; (with_reducible refine HCM.out.mono ?_); rintro e w8 ⟨rfl, hq⟩)
    have hb8 := below_up HB7.out hq
    have hQ3 := HD.out.rs.keep hb8
    have hB03 := below_up HD.out.bl hb8
    clear p0 p1 p2 p3 p4 p5 p6 p7 m0 m1 m2 m3 hb8 hq
    go_wp2_with (refine wpList_store_row rfl 28 _ _ rfl (w.heap.size + 1) #[.int .i64 0, .int .i64 0, .slice none 0 0, .slice none 0 0, .slice none 0 0, .slice none 0 0, .slice none 0 0] rfl rfl 28 _ hQ3 infoSto rfl (by simp [Value.oneCell']) ?_)
    obtain ⟨g0, g1, g2, g3, g4, g5, g6⟩ := (Blk.setRowAt (hQ3) #[.int .i64 0, .int .i64 0, .slice none 0 0, .slice none 0 0, .slice none 0 0, .slice none 0 0, .slice none 0 0]).seven
    refine bodyPost_ret (v := .tuple #[.agg #[.int .i64 0, .int .i64 0, .slice none 0 0, .slice none 0 0, .slice none 0 0, .slice none 0 0, .slice none 0 0], .int .i64 (j), .int .i64 (q)]) (by simp [results, Tryz.results45, go_sem, g0, g1, g2, g3, g4, g5, g6]) rfl ?_
    rw [HRE.out]
    exact .inl ⟨HQN.out, rfl, below_setRow hB03 (by omega) _⟩
  ·obtain rfl : j = n := by omega
   have hgo := hD.go
   rw [List.drop_eq_nil_of_le (by rw [HN.out]; omega), St.doL] at hgo
   have HRE : Hid (R = (t, 0, 0)) := Lib.hid hgo.symm
   obtain ⟨p0, p1, p2, p3, p4, p5, p6, p7⟩ := hD.vw.eight
   have hQ3 := hD.rs
   have hB03 := hD.bl
   have hsz := StSz.right hD.r
   have HIZ : Hid (StIn (wr.setRow (w.heap.size + 1) #[.int .i64 t.least, .int .i64 t.wait, .slice c.ta t.tiers.length c.tc, .slice c.fa t.files.length c.fc, .slice c.ca t.copies.length c.cc, .slice c.ha t.held.length c.hc, .slice c.ba t.bin.length c.bc]) t c) := Lib.hid ((hD.ow.setRow (b := w.heap.size + 1) (by have := HWB.out; omega) #[.int .i64 t.least, .int .i64 t.wait, .slice c.ta t.tiers.length c.tc, .slice c.fa t.files.length c.fc, .slice c.ca t.copies.length c.cc, .slice c.ha t.held.length c.hc, .slice c.ba t.bin.length c.bc]).in_ hsz)
   have HBZ := Lib.hid (below_setRow hB03 (show w.heap.size ≤ w.heap.size + 1 by omega) #[.int .i64 t.least, .int .i64 t.wait, .slice c.ta t.tiers.length c.tc, .slice c.fa t.files.length c.fc, .slice c.ca t.copies.length c.cc, .slice c.ha t.held.length c.hc, .slice c.ba t.bin.length c.bc])
   clear hD hgo hsz hB03
   go_wp2_with (refine wpList_store_row rfl 28 _ _ rfl (w.heap.size + 1) #[.int .i64 t.least, .int .i64 t.wait, .slice c.ta t.tiers.length c.tc, .slice c.fa t.files.length c.fc, .slice c.ca t.copies.length c.cc, .slice c.ha t.held.length c.hc, .slice c.ba t.bin.length c.bc] rfl rfl 28 _ hQ3 infoSto rfl (by simp [Value.oneCell']) ?_)
   obtain ⟨g0, g1, g2, g3, g4, g5, g6⟩ := (Blk.setRowAt (hQ3) #[.int .i64 t.least, .int .i64 t.wait, .slice c.ta t.tiers.length c.tc, .slice c.fa t.files.length c.fc, .slice c.ca t.copies.length c.cc, .slice c.ha t.held.length c.hc, .slice c.ba t.bin.length c.bc]).seven
   refine bodyPost_ret (v := .tuple #[.agg #[.int .i64 t.least, .int .i64 t.wait, .slice c.ta t.tiers.length c.tc, .slice c.fa t.files.length c.fc, .slice c.ca t.copies.length c.cc, .slice c.ha t.held.length c.hc, .slice c.ba t.bin.length c.bc], .int .i64 0, .int .i64 0]) (by simp [results, Tryz.results45, go_sem, g0, g1, g2, g3, g4, g5, g6]) rfl ?_
   rw [HRE.out]
   exact .inr ⟨rfl, c, rfl, HIZ.out, HBZ.out⟩
theorem storeNever_err (s : Sto) (a : StA) (la : Option Addr) (n lc : Nat) (w : World) (hI : StIn w s a) (hDB : Hx.DB w) (q i : Int) (hq0 : q ≠ 0) (HD : ∀ V, Below w.heap.size w V → Calls Tryz.prog 45 #[.agg #[.int .i64 s.least, .int .i64 s.wait, .slice a.ta s.tiers.length a.tc, .slice a.fa s.files.length a.fc, .slice a.ca s.copies.length a.cc, .slice a.ha s.held.length a.hc, .slice a.ba s.bin.length a.bc], .slice la n lc] V fun e w' => e = .returned (.tuple #[.agg #[.int .i64 0, .int .i64 0, .slice none 0 0, .slice none 0 0, .slice none 0 0, .slice none 0 0, .slice none 0 0], .int .i64 i, .int .i64 q]) ∧ Below V.heap.size V w') :
  Calls Tryz.prog 8 #[.agg #[.int .i64 s.least, .int .i64 s.wait, .slice a.ta s.tiers.length a.tc, .slice a.fa s.files.length a.fc, .slice a.ca s.copies.length a.cc, .slice a.ha s.held.length a.hc, .slice a.ba s.bin.length a.bc], .slice la n lc] w fun e w' => e = .returned (.bool true) ∧ Below w.heap.size w w' := by
 obtain ⟨W1, hW1, hX1, hz1, hB1⟩ := box w #[.int .i64 s.least, .int .i64 s.wait, .slice a.ta s.tiers.length a.tc, .slice a.fa s.files.length a.fc, .slice a.ca s.copies.length a.cc, .slice a.ha s.held.length a.hc, .slice a.ba s.bin.length a.bc] 28
 have HW1 := Lib.hid hW1; have HB1 := Lib.hid hB1
 have HIA := Lib.hid (fun V (hv : Below W1.heap.size W1 V) => (hI.keep hB1).keep hv)
 have HAW := Lib.hid (awake_is W1 (Hx.db_below hDB hB1))
 have HX1 := Lib.hid hX1
 obtain ⟨q0, q1, q2, q3, q4, q5, q6⟩ := hX1.seven
 clear hW1 hX1 hz1 hB1 hI hDB
 have HDO := Lib.hid (fun V (hv : Below W1.heap.size W1 V) => HD V (below_up HB1.out hv))
 have hq1 : (q != 0) = true := by simpa using hq0
 clear HD hq0
 go_enter Tryz.func8, Tryz.ntmps8
 go_upto_region 1 with fail
 rw [HW1.out]
 go_upto_region 4 with (first
  | (go_at_call 48; (with_reducible refine HAW.out.mono ?_); rintro e w2 ⟨rfl, hv⟩; obtain ⟨q0, q1, q2, q3, q4, q5, q6⟩ := (HX1.out.keep hv).seven)
  | (go_at_call 45; (with_reducible refine (HDO.out _ hv).mono ?_); rintro e w3 ⟨rfl, hB3⟩)
  | (refine wpList_store_row rfl 28 _ _ rfl w3.heap.size #[.int .i64 0, .int .i64 0, .slice none 0 0, .slice none 0 0, .slice none 0 0, .slice none 0 0, .slice none 0 0] rfl rfl 28 #[.int .i64 0, .int .i64 0, .slice none 0 0, .slice none 0 0, .slice none 0 0, .slice none 0 0, .slice none 0 0] (heap_alloc_new w3 _) infoSto rfl (by simp [Value.oneCell']) ?_))
 obtain ⟨X, hX, hXB, hXz, hXW⟩ := fillNew w3 #[.int .i64 0, .int .i64 0, .slice none 0 0, .slice none 0 0, .slice none 0 0, .slice none 0 0, .slice none 0 0] #[.int .i64 0, .int .i64 0, .slice none 0 0, .slice none 0 0, .slice none 0 0, .slice none 0 0, .slice none 0 0] 28
 rw [hX]
 have HBZ := Lib.hid (below_up HB1.out (below_up hv (below_up hB3 hXW)))
 clear q0 q1 q2 q3 q4 q5 q6 hX hXB hXz hXW
 go_wp2_with fail
 go_ret
 exact ⟨rfl, HBZ.out⟩
theorem storeNever_ok (s t : Sto) (a : StA) (la : Option Addr) (n lc : Nat) (w : World) (hI : StIn w s a) (hDB : Hx.DB w) (r : St.Right s) (rt : St.Right t) (hl : St.lostL t = St.lostL s) (HD : ∀ V, Below w.heap.size w V → Calls Tryz.prog 45 #[.agg #[.int .i64 s.least, .int .i64 s.wait, .slice a.ta s.tiers.length a.tc, .slice a.fa s.files.length a.fc, .slice a.ca s.copies.length a.cc, .slice a.ha s.held.length a.hc, .slice a.ba s.bin.length a.bc], .slice la n lc] V fun e w' => ∃ a' : StA, e = .returned (.tuple #[.agg #[.int .i64 t.least, .int .i64 t.wait, .slice a'.ta t.tiers.length a'.tc, .slice a'.fa t.files.length a'.fc, .slice a'.ca t.copies.length a'.cc, .slice a'.ha t.held.length a'.hc, .slice a'.ba t.bin.length a'.bc], .int .i64 0, .int .i64 0]) ∧ StIn w' t a' ∧ Below V.heap.size V w') :
  Calls Tryz.prog 8 #[.agg #[.int .i64 s.least, .int .i64 s.wait, .slice a.ta s.tiers.length a.tc, .slice a.fa s.files.length a.fc, .slice a.ca s.copies.length a.cc, .slice a.ha s.held.length a.hc, .slice a.ba s.bin.length a.bc], .slice la n lc] w fun e w' => e = .returned (.bool true) ∧ Below w.heap.size w w' := by
 obtain ⟨W1, hW1, hX1, hz1, hB1⟩ := box w #[.int .i64 s.least, .int .i64 s.wait, .slice a.ta s.tiers.length a.tc, .slice a.fa s.files.length a.fc, .slice a.ca s.copies.length a.cc, .slice a.ha s.held.length a.hc, .slice a.ba s.bin.length a.bc] 28
 have HW1 := Lib.hid hW1; have HB1 := Lib.hid hB1
 have HIA := Lib.hid (fun V (hv : Below W1.heap.size W1 V) => (hI.keep hB1).keep hv)
 have HAW := Lib.hid (awake_is W1 (Hx.db_below hDB hB1))
 have HX1 := Lib.hid hX1
 obtain ⟨q0, q1, q2, q3, q4, q5, q6⟩ := hX1.seven
 clear hW1 hX1 hz1 hB1 hI hDB
 have HDO := Lib.hid (fun V (hv : Below W1.heap.size W1 V) => HD V (below_up HB1.out hv))
 have HL1 := Lib.hid (fun V (hv : Below W1.heap.size W1 V) => lostS_ok s a V (HIA.out V hv) r)
 have HL2 := Lib.hid (fun V b (hb : StIn V t b) => lostS_ok t b V hb rt)
 have HCK := Lib.hid (fun V b (hb : StIn V t b) => check_is t b V hb)
 rw [St.err_iff.2 rt] at HCK
 rw [hl] at HL2
 unfold TlOk at HL1 HL2
 generalize St.lostL s = O at *
 have HEQ := Lib.hid (fun V x y cx cy hx hy hn => eqS_same O x y cx cy V hx hy hn)
 clear HD r rt hl
 go_enter Tryz.func8, Tryz.ntmps8
 go_upto_region 1 with fail
 rw [HW1.out]
 go_upto_region 4 with (first
  | (go_at_call 48; (with_reducible refine HAW.out.mono ?_); rintro e w2 ⟨rfl, hv⟩; obtain ⟨q0, q1, q2, q3, q4, q5, q6⟩ := (HX1.out.keep hv).seven)
  | (go_at_call 45; (with_reducible refine (HDO.out _ hv).mono ?_); rintro e w3 ⟨b, rfl, hb, hB3⟩)
  | (refine wpList_store_row rfl 28 _ _ rfl w3.heap.size #[.int .i64 t.least, .int .i64 t.wait, .slice b.ta t.tiers.length b.tc, .slice b.fa t.files.length b.fc, .slice b.ca t.copies.length b.cc, .slice b.ha t.held.length b.hc, .slice b.ba t.bin.length b.bc] rfl rfl 28 #[.int .i64 0, .int .i64 0, .slice none 0 0, .slice none 0 0, .slice none 0 0, .slice none 0 0, .slice none 0 0] (heap_alloc_new w3 _) infoSto rfl (by simp [Value.oneCell']) ?_))
 obtain ⟨X, hX, hXB, hXz, hXW⟩ := fillNew w3 #[.int .i64 0, .int .i64 0, .slice none 0 0, .slice none 0 0, .slice none 0 0, .slice none 0 0, .slice none 0 0] #[.int .i64 t.least, .int .i64 t.wait, .slice b.ta t.tiers.length b.tc, .slice b.fa t.files.length b.fc, .slice b.ca t.copies.length b.cc, .slice b.ha t.held.length b.hc, .slice b.ba t.bin.length b.bc] 28
 rw [hX]
 have hv := below_up hv (below_up hB3 hXW)
 have HXB := Lib.hid hXB
 have HBT := Lib.hid (hb.keep hXW)
 have hu : Below X.heap.size X X := Below.refl _ _
 have HVX := Lib.hid hv
 clear q0 q1 q2 q3 q4 q5 q6 hX hXB hXz hXW hB3 hb hv
 obtain ⟨q0, q1, q2, q3, q4, q5, q6⟩ := (HX1.out.keep (below_up HVX.out hu)).seven
 obtain ⟨t0, t1, t2, t3, t4, t5, t6⟩ := HXB.out.seven
 go_upto_region 7 with (go_at_call 28; (with_reducible refine (HL1.out _ (below_up HVX.out hu)).mono ?_); rintro e w4 ⟨g1, c1, rfl, R1, k1, k2, hq⟩; have hu := below_up hu hq; obtain ⟨q0, q1, q2, q3, q4, q5, q6⟩ := (HX1.out.keep (below_up HVX.out hu)).seven; obtain ⟨t0, t1, t2, t3, t4, t5, t6⟩ := (HXB.out.keep hu).seven)
 have HR1 := Lib.hid R1
 have HK1 : Hid (O.length ≤ 9223372036854775807) := Lib.hid (by omega)
 have hz : Below w4.heap.size w4 w4 := Below.refl _ _
 clear R1 k1 k2
 go_upto_region 8 with (go_at_call 28; (with_reducible refine (HL2.out _ b (HBT.out.keep hu)).mono ?_); rintro e w5 ⟨g2, c2, rfl, R2, k1, k2, hq⟩; have hu := below_up hu hq; have hz := below_up hz hq; obtain ⟨q0, q1, q2, q3, q4, q5, q6⟩ := (HX1.out.keep (below_up HVX.out hu)).seven; obtain ⟨t0, t1, t2, t3, t4, t5, t6⟩ := (HXB.out.keep hu).seven)
 go_wp2_with (first
  | (go_at_call 37; (with_reducible refine (HEQ.out _ g1 g2 c1 c2 (HR1.out.keep hz) R2 HK1.out).mono ?_); rintro e w6 ⟨rfl, hq⟩; have hu := below_up hu hq; obtain ⟨t0, t1, t2, t3, t4, t5, t6⟩ := (HXB.out.keep hu).seven)
  | (go_at_call 32; (with_reducible refine (HCK.out _ b (HBT.out.keep hu)).mono ?_); rintro e w7 ⟨rfl, hq⟩; have hu := below_up hu hq))
 have HBZ := Lib.hid (below_up HB1.out (below_up HVX.out hu))
 go_ret
 exact ⟨ret_bool (by simp), HBZ.out⟩
theorem storeNever_walk (s : Sto) (a : StA) (L : List Mov) (la : Option Addr) (lc : Nat) (w : World) (hI : StIn w s a) (hDB : Hx.DB w) (hL : RowE St.eM w la L) (hlc : L.length ≤ lc ∧ lc ≤ 9223372036854775807) (hz : ∀ m ∈ L, m.dig.size ≤ 1048576 ∧ m.frm.size ≤ 1048576 ∧ m.dst.size ≤ 1048576) :
  Calls Tryz.prog 8 #[.agg #[.int .i64 s.least, .int .i64 s.wait, .slice a.ta s.tiers.length a.tc, .slice a.fa s.files.length a.fc, .slice a.ca s.copies.length a.cc, .slice a.ha s.held.length a.hc, .slice a.ba s.bin.length a.bc], .slice la L.length lc] w fun e w' => e = .returned (.bool true) ∧ Below w.heap.size w w' := by
 by_cases he : St.err s = 0
 ·have r := St.err_iff.1 he
  have hd := fun V (hv : Below w.heap.size w V) => doS_right s a L la lc V (hI.keep hv) r (hL.keep hv) hlc hz
  by_cases hq : (St.doL s L 0).2.2 = 0
  ·obtain ⟨rt, hl⟩ := St.do_ok r hq
   exact storeNever_ok s _ a la L.length lc w hI hDB r rt hl fun V hv => (hd V hv).mono fun e w' h => by
    rcases h with h | h
    ·exact absurd hq h.1
    ·exact h.2
  ·exact storeNever_err s a la L.length lc w hI hDB _ _ hq fun V hv => (hd V hv).mono fun e w' h => by
    rcases h with h | h
    ·exact h.2
    ·exact absurd h.1 hq
 ·exact storeNever_err s a la L.length lc w hI hDB _ 0 he fun V hv => doS_wrong s a la L.length lc V (hI.keep hv) he
end Go.Proofs.YthdiccdnggloiaaGreatDoor
namespace Go.Proofs.YthdiccdnggloiaaGreatDoor
open Go.RowKit Go.Sort
def Row2 (w : World) (a : Option Addr) (len : Nat) (f g : Nat → Value) : Prop :=
 0 < len → ∃ b off, a = some ⟨b, off, none⟩ ∧ b < w.heap.size ∧ ∀ i, i < len → w.cell? ⟨b, off + i * 2, none⟩ = some (f i) ∧ w.cell? ⟨b, off + i * 2 + 1, none⟩ = some (g i)
theorem Row2.keep {w w' : World} {a : Option Addr} {len : Nat} {f g : Nat → Value} (h : Row2 w a len f g) (hb : Below w.heap.size w w') : Row2 w' a len f g := by
 intro hl
 obtain ⟨b, off, rfl, hlt, hc⟩ := h hl
 exact ⟨b, off, rfl, Nat.lt_of_lt_of_le hlt hb.size, fun i hi => ⟨(hb.cell (p := ⟨b, off + i * 2, none⟩) hlt).trans (hc i hi).1, (hb.cell (p := ⟨b, off + i * 2 + 1, none⟩) hlt).trans (hc i hi).2⟩⟩
end Go.Proofs.YthdiccdnggloiaaGreatDoor
namespace Go.Proofs.YthdiccdnggloiaaGreatDoor
open Go.ChangeShapes Go.WideShapes Go.ChangeAt Go.RowKit Go.Joins Go.Deep
section
variable {H : Type} {enc : TypeId × Value → H} {w : World} {base : Nat} {spare : Nat → Bool} {held : Bool}
theorem addr_addR (b off n : Nat) : (⟨b, off, none⟩ : Addr).add n = ⟨b, off + n, none⟩ := by unfold Addr.add; split <;> simp_all
theorem open_rowE {α : Type} (E : Enc α) (hk : 0 < E.k) (Q : α → Prop) {t e : TypeId} (ht : Tryz.prog.underlying t = some (.slice e)) (hc : Tryz.prog.cellsOf e = E.k)
  (he : ∀ n cs y, DataW.trod enc Tryz.prog w base spare held n e cs = some y → ∃ x, cs = E.cells x ∧ Q x) {v : Value} {n : Nat} {y : DataW H × List MemPlace} (hf : DataW.trod enc Tryz.prog w base spare held n t [v] = some y) :
  ∃ (a : Option Addr) (cap : Nat) (L : List α), v = .slice a L.length cap ∧ L.length ≤ cap ∧ cap ≤ 9223372036854775807 ∧ RowE E w a L ∧ ∀ x ∈ L, Q x := by
 rcases open_slice ht hf with ⟨hcs, _⟩ | ⟨x, len, cap, m, n, D, Pl, hcs, _, hl, hm, hmm, _, hx⟩
 ·simp at hcs
  subst hcs
  exact ⟨none, 0, [], rfl, by simp, by omega, RowE.nil _ _ _, fun x h => by cases h⟩
 ·simp at hcs
  subst hcs
  have hlm : len ≤ m := by rw [hmm]; split <;> omega
  have each : ∀ i, i < m → ∃ z : α, Q z ∧ ∀ (k : Nat) (u : Value), (E.cells z)[k]? = some u → w.cell? (x.add (i * E.k + k)) = some u := by
   intro i hi
   obtain ⟨cs', h1, h2⟩ := hx i hi
   rw [hc] at h1
   obtain ⟨_, hlen, hcell⟩ := World.cells?_some h1
   obtain ⟨z, hz, hq⟩ := he _ _ _ h2
   refine ⟨z, hq, fun k u hu => ?_⟩
   rw [← hz] at hu
   have hkk : k < E.k := by have := (List.getElem?_eq_some_iff.1 hu).1; omega
   have := hcell k (by omega)
   rw [Addr.add_add] at this
   rw [this, hu]
  by_cases h0 : len = 0
  ·subst h0
   exact ⟨some x, cap, [], rfl, by simp, by unfold maxLen at hm; omega, RowE.nil _ _ _, fun x h => by cases h⟩
  ·obtain ⟨z0, _⟩ := each 0 (by omega)
   obtain ⟨Z, hZ⟩ : ∃ Z : Nat → α, ∀ i, i < m → Q (Z i) ∧ ∀ (k : Nat) (u : Value), (E.cells (Z i))[k]? = some u → w.cell? (x.add (i * E.k + k)) = some u :=
    ⟨fun i => if h : i < m then Classical.choose (each i h) else z0, fun i hi => by simp only [dif_pos hi]; exact Classical.choose_spec (each i hi)⟩
   have hlen : ((List.range len).map Z).length = len := by simp
   refine ⟨some x, cap, (List.range len).map Z, by rw [hlen], by rw [hlen]; exact hl, by unfold maxLen at hm; omega, fun _ => ?_, fun u hu => ?_⟩
   ·obtain ⟨b, off, spot⟩ := x
    obtain ⟨u0, hu0⟩ : ∃ u, (E.cells (Z 0))[0]? = some u := ⟨_, List.getElem?_eq_getElem (by rw [E.len]; exact hk)⟩
    have hc0 := (hZ 0 (by omega)).2 0 u0 hu0
    have hspot : spot = none := by simpa [Addr.add] using World.cell?_spot hc0
    subst hspot
    refine ⟨b, off, rfl, by simpa [Addr.add] using World.block_lt_of_cell? w _ hc0, fun i z hz k u hu => ?_⟩
    have hi : i < len := by have := (List.getElem?_eq_some_iff.1 hz).1; omega
    rw [List.getElem?_map, List.getElem?_range hi] at hz
    obtain rfl : Z i = z := Option.some.inj hz
    have := (hZ i (by omega)).2 k u hu
    rw [addr_addR] at this
    rw [Nat.add_assoc]; exact this
   ·obtain ⟨i, hi, rfl⟩ := List.mem_map.1 hu
    exact (hZ i (by have := List.mem_range.1 hi; omega)).1
end
end Go.Proofs.YthdiccdnggloiaaGreatDoor
