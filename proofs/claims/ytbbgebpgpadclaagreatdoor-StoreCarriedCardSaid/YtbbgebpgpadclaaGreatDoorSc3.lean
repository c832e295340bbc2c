/- Parts of the proof, no condition: StTxt, StRrM, OpenRow, OpenSt. -/
import Derived.Test.YtbbgebpgpadclaaGreatDoorSr20
import Derived.Test.YtbbgebpgpadclaaGreatDoorSc1
import Derived.Deep.RegionHeld3
import Derived.Deep.AppendLies
import Derived.Test.YtbbgebpgpadclaaGreatDoorSc2
import Derived.Deep.Fields23
import Derived.Deep.SlicePairs
import Derived.Deep.Slices
import Derived.ProofKit
import Derived.OpenShut
import Derived.ShutString
import Derived.ChangeOld
import Derived.SizedLaws
import Derived.Lib.SmallJoins
set_option maxRecDepth 100000
set_option maxHeartbeats 16000000
set_option linter.unusedSimpArgs false
set_option linter.unusedVariables false
namespace Go.Proofs.YtbbgebpgpadclaaGreatDoor
open Go.RowKit Go.Sort Go.Shelf Go.Maps
theorem St.fT_len {s : Sto} (r : St.Right s) {t : Tir} (ht : t ∈ s.tiers) : (St.fT t).length ≤ 200 := by
 obtain ⟨g1, g2, g3⟩ := St.tier_good r ht
 have h0 := St.name40 g1
 have h1 := St.itoa21 (n := t.room) (by omega); have h2 := St.itoa21 (n := t.cost) (by omega)
 have h3 : (St.tow t.away [97, 119, 97, 121] [104, 101, 114, 101]).length = 4 := by unfold St.tow; split <;> rfl
 unfold St.fT St.wT; rw [St.ln5]; simp only [List.length_append, List.length_cons, List.length_nil, h3, St.dl]; omega
theorem St.fF_len {s : Sto} (r : St.Right s) {f : Fil} (hf : f ∈ s.files) : (St.fF f).length ≤ 200 := by
 obtain ⟨g1, g2, g3, g4⟩ := St.file_good r hf
 have h1 := St.itoa21 (n := f.size) (by omega)
 have h3 : (St.kindT f.kind).length ≤ 8 := by unfold St.kindT; split; · decide
                                              split <;> decide
 unfold St.fF St.wF
 by_cases hk : f.kind = 1
 ·rw [if_pos hk, List.append_nil, St.ln4]; simp only [List.length_append, List.length_cons, List.length_nil, St.dl]; omega
 ·have h4 := g4 hk
  rw [if_neg hk]
  show (St.ln [_, _, _, _, _]).length ≤ 200
  rw [St.ln5]; simp only [List.length_append, List.length_cons, List.length_nil, St.dl]; omega
theorem St.fC_len {s : Sto} (r : St.Right s) {c : Cop} (hc : c ∈ s.copies) : (St.fC c).length ≤ 200 := by
 obtain ⟨g1, g2, g3⟩ := St.cop_good r hc
 have h1 := St.itoa21 (n := c.asked) (by omega)
 have h3 : (St.tow c.good [103, 111, 111, 100] [98, 97, 100]).length ≤ 4 := by unfold St.tow; split <;> decide
 unfold St.fC St.wC; rw [St.ln5]; simp only [List.length_append, List.length_cons, List.length_nil, St.dl]; omega
theorem St.fH_len {s : Sto} (r : St.Right s) {d : ByteArray} (hd : d ∈ s.held) : (St.fH d).length ≤ 200 := by
 have g := St.kind16 r (r.held d hd)
 unfold St.fH St.wH; rw [St.ln2]; simp only [List.length_append, List.length_cons, List.length_nil, St.dl]; omega
theorem St.fB_len {s : Sto} (r : St.Right s) {g : Gon} (hg : g ∈ s.bin) : (St.fB g).length ≤ 200 ∧ 0 ≤ g.day ∧ g.day ≤ 73048 := by
 have h0 := St.kind16 r (r.bin g hg).1
 have hb := St.inB_iff.1 (St.binR_iff.1 (r.bin g hg).2).1
 have h1 := St.itoa21 (n := g.day) (by omega)
 refine ⟨?_, hb⟩
 unfold St.fB St.wB; rw [St.ln3]; simp only [List.length_append, List.length_cons, List.length_nil, St.dl]; omega
theorem text_err (s : Sto) (a : StA) (w : World) (hI : StIn w s a) (he : St.err s ≠ 0) :
  Calls Tryz.prog 9 #[.agg #[.int .i64 s.least, .int .i64 s.wait, .slice a.ta s.tiers.length a.tc, .slice a.fa s.files.length a.fc, .slice a.ca s.copies.length a.cc, .slice a.ha s.held.length a.hc, .slice a.ba s.bin.length a.bc]] w fun e w' => e = .returned (.tuple #[.string ⟨#[]⟩, .int .i64 (St.err s)]) ∧ Below w.heap.size w w' := by
 obtain ⟨W1, hW1, hP, hz1, hB1⟩ := box w #[.int .i64 s.least, .int .i64 s.wait, .slice a.ta s.tiers.length a.tc, .slice a.fa s.files.length a.fc, .slice a.ca s.copies.length a.cc, .slice a.ha s.held.length a.hc, .slice a.ba s.bin.length a.bc] 28
 have HW1 := Lib.hid hW1
 have HI1 := Lib.hid (hI.keep hB1)
 have q0 : W1.cell? ⟨w.heap.size, 0, none⟩ = some (.int .i64 s.least) := (hP.cell 0).trans rfl
 have q1 : W1.cell? ⟨w.heap.size, 1, none⟩ = some (.int .i64 s.wait) := (hP.cell 1).trans rfl
 have q2 : W1.cell? ⟨w.heap.size, 2, none⟩ = some (.slice a.ta s.tiers.length a.tc) := (hP.cell 2).trans rfl
 have q3 : W1.cell? ⟨w.heap.size, 3, none⟩ = some (.slice a.fa s.files.length a.fc) := (hP.cell 3).trans rfl
 have q4 : W1.cell? ⟨w.heap.size, 4, none⟩ = some (.slice a.ca s.copies.length a.cc) := (hP.cell 4).trans rfl
 have q5 : W1.cell? ⟨w.heap.size, 5, none⟩ = some (.slice a.ha s.held.length a.hc) := (hP.cell 5).trans rfl
 have q6 : W1.cell? ⟨w.heap.size, 6, none⟩ = some (.slice a.ba s.bin.length a.bc) := (hP.cell 6).trans rfl
 have HP := Lib.hid hP; have HB1 := Lib.hid hB1
 clear hW1 hP
 have HC := Lib.hid (check_is s a W1 HI1.out)
 obtain ⟨q, hq⟩ : ∃ q, St.err s = q := ⟨_, rfl⟩
 rw [hq] at he HC ⊢
 have hne : (q != 0) = true := by simpa using he
 clear hI hq
 go_enter Tryz.func9, Tryz.ntmps9
 go_wp2_with fail
 rw [HW1.out]
 go_wp2_with (go_at_call 17; (with_reducible refine HC.out.mono ?_); rintro e w2 ⟨rfl, hB2⟩)
 go_ret2
 exact ⟨rfl, below_up HB1.out hB2⟩
theorem text_ok (s : Sto) (a : StA) (w : World) (hI : StIn w s a) (he : St.err s = 0) (ht : Tx.Tab w) :
  Calls Tryz.prog 9 #[.agg #[.int .i64 s.least, .int .i64 s.wait, .slice a.ta s.tiers.length a.tc, .slice a.fa s.files.length a.fc, .slice a.ca s.copies.length a.cc, .slice a.ha s.held.length a.hc, .slice a.ba s.bin.length a.bc]] w fun e w' => e = .returned (.tuple #[.string (Tx.mk (St.text s)), .int .i64 0]) ∧ Below w.heap.size w w' := by
 obtain ⟨W1, hW1, hP, hz1, hB1⟩ := box w #[.int .i64 s.least, .int .i64 s.wait, .slice a.ta s.tiers.length a.tc, .slice a.fa s.files.length a.fc, .slice a.ca s.copies.length a.cc, .slice a.ha s.held.length a.hc, .slice a.ba s.bin.length a.bc] 28
 have HW1 := Lib.hid hW1
 have HI1 := Lib.hid (hI.keep hB1)
 have q0 : W1.cell? ⟨w.heap.size, 0, none⟩ = some (.int .i64 s.least) := (hP.cell 0).trans rfl
 have q1 : W1.cell? ⟨w.heap.size, 1, none⟩ = some (.int .i64 s.wait) := (hP.cell 1).trans rfl
 have q2 : W1.cell? ⟨w.heap.size, 2, none⟩ = some (.slice a.ta s.tiers.length a.tc) := (hP.cell 2).trans rfl
 have q3 : W1.cell? ⟨w.heap.size, 3, none⟩ = some (.slice a.fa s.files.length a.fc) := (hP.cell 3).trans rfl
 have q4 : W1.cell? ⟨w.heap.size, 4, none⟩ = some (.slice a.ca s.copies.length a.cc) := (hP.cell 4).trans rfl
 have q5 : W1.cell? ⟨w.heap.size, 5, none⟩ = some (.slice a.ha s.held.length a.hc) := (hP.cell 5).trans rfl
 have q6 : W1.cell? ⟨w.heap.size, 6, none⟩ = some (.slice a.ba s.bin.length a.bc) := (hP.cell 6).trans rfl
 have HP := Lib.hid hP; have HB1 := Lib.hid hB1
 clear hW1 hP
 have HC := Lib.hid (check_is s a W1 HI1.out)
 rw [he] at HC
 have hr := St.err_iff.1 he
 obtain ⟨⟨z1, z2⟩, y1, y2, y3, y4, y5⟩ := St.sizes_iff.1 hr.sizes
 have hz1' := St.inB_iff.1 z1
 have hz2' := St.inB_iff.1 z2
 obtain ⟨l0, l1, l2, l3, l4, l5⟩ := St.A_len hr
 have htl := hI.tl; have hfl := hI.fl; have hcl := hI.cl; have hhl := hI.hl; have hbl := hI.bl
 have HR := Lib.hid hr
 have HT1 := Lib.hid (Tx.tab_below ht HB1.out)
 have HTXT : Hid (St.text s = St.linesT (St.A5 s)) := Lib.hid rfl
 have HS1 : Hid (St.linesT (St.A1 s) = St.part (St.A0 s) St.fT s.tiers s.tiers.length) := Lib.hid (St.part_all _ _ _).symm
 have HS2 : Hid (St.linesT (St.A2 s) = St.part (St.A1 s) St.fF s.files s.files.length) := Lib.hid (St.part_all _ _ _).symm
 have HS3 : Hid (St.linesT (St.A3 s) = St.part (St.A2 s) St.fC s.copies s.copies.length) := Lib.hid (St.part_all _ _ _).symm
 have HS4 : Hid (St.linesT (St.A4 s) = St.part (St.A3 s) St.fH s.held s.held.length) := Lib.hid (St.part_all _ _ _).symm
 have HS5 : Hid (St.linesT (St.A5 s) = St.part (St.A4 s) St.fB s.bin s.bin.length) := Lib.hid (St.part_all _ _ _).symm
 have HL1 : Hid (∀ j, (St.part (St.A0 s) St.fT s.tiers j).length ≤ 600000) := Lib.hid fun j => Nat.le_trans (St.part_le _ _ _ j) l1
 have HL2 : Hid (∀ j, (St.part (St.A1 s) St.fF s.files j).length ≤ 600000) := Lib.hid fun j => Nat.le_trans (St.part_le _ _ _ j) l2
 have HL3 : Hid (∀ j, (St.part (St.A2 s) St.fC s.copies j).length ≤ 600000) := Lib.hid fun j => Nat.le_trans (St.part_le _ _ _ j) l3
 have HL4 : Hid (∀ j, (St.part (St.A3 s) St.fH s.held j).length ≤ 600000) := Lib.hid fun j => Nat.le_trans (St.part_le _ _ _ j) l4
 have HL5 : Hid (∀ j, (St.part (St.A4 s) St.fB s.bin j).length ≤ 600000) := Lib.hid fun j => Nat.le_trans (St.part_le _ _ _ j) l5
 have HL0 := Lib.hid l5
 have hlz : (St.fZ s).length ≤ 200 := by
  have h1 := St.itoa21 (n := s.least) (by omega); have h2 := St.itoa21 (n := s.wait) (by omega)
  unfold St.fZ St.w0; rw [St.ln3]; simp only [List.length_append, List.length_cons, List.length_nil]; omega
 have HA0 : Hid (St.linesT (St.A0 s) = St.part (St.A0 s) St.fT s.tiers 0) := Lib.hid (St.part_zero _ _ _).symm
 have HA1 : Hid (St.linesT (St.A1 s) = St.part (St.A1 s) St.fF s.files 0) := Lib.hid (St.part_zero _ _ _).symm
 have HA2 : Hid (St.linesT (St.A2 s) = St.part (St.A2 s) St.fC s.copies 0) := Lib.hid (St.part_zero _ _ _).symm
 have HA3 : Hid (St.linesT (St.A3 s) = St.part (St.A3 s) St.fH s.held 0) := Lib.hid (St.part_zero _ _ _).symm
 have HA4 : Hid (St.linesT (St.A4 s) = St.part (St.A4 s) St.fB s.bin 0) := Lib.hid (St.part_zero _ _ _).symm
 obtain ⟨i0, hi0, hi1, hi2, hi3⟩ := info_parts infoStr
 have HI0 := Lib.hid hi0; have HI1' := Lib.hid hi1; have HI2 := Lib.hid hi2; have HI3 := Lib.hid hi3
 clear hi0 hi1 hi2 hi3
 have HZ0 : Hid (St.linesT (St.A0 s) = [] ++ (St.fZ s ++ [10])) := Lib.hid (by unfold St.A0 St.linesT St.fZ; simp)
 clear hI he hr z1 z2 ht l0 l1 l2 l3 l4 l5
 obtain ⟨nt, hnt⟩ : ∃ nt, s.tiers.length = nt := ⟨_, rfl⟩
 obtain ⟨nf, hnf⟩ : ∃ nf, s.files.length = nf := ⟨_, rfl⟩
 obtain ⟨nc, hnc⟩ : ∃ nc, s.copies.length = nc := ⟨_, rfl⟩
 obtain ⟨nh, hnh⟩ : ∃ nh, s.held.length = nh := ⟨_, rfl⟩
 obtain ⟨nb, hnb⟩ : ∃ nb, s.bin.length = nb := ⟨_, rfl⟩
 have HNT := Lib.hid hnt; have HNF := Lib.hid hnf; have HNC := Lib.hid hnc; have HNH := Lib.hid hnh; have HNB := Lib.hid hnb
 rw [hnt] at q2 htl y1 HW1 HP HC HS1 ⊢
 rw [hnf] at q3 hfl y2 HW1 HP HC HS2 ⊢
 rw [hnc] at q4 hcl y3 HW1 HP HC HS3 ⊢
 rw [hnh] at q5 hhl y4 HW1 HP HC HS4 ⊢
 rw [hnb] at q6 hbl y5 HW1 HP HC HS5 ⊢
 clear hnt hnf hnc hnh hnb
 go_enter Tryz.func9, Tryz.ntmps9
 go_wp2_with fail
 rw [HW1.out]
 go_upto_region 4 with (go_at_call 17; (with_reducible refine HC.out.mono ?_); rintro e wb ⟨rfl, hB2⟩)
 have HBB := Lib.hid (below_up HB1.out hB2)
 have HPB := Lib.hid (HP.out.keep hB2)
 have HIB := Lib.hid (HI1.out.keep hB2)
 have HT := Lib.hid (Tx.tab_below HT1.out hB2)
 have hwb : w.heap.size < wb.heap.size := HPB.out.lt
 have HCL : Hid (∀ W, Below wb.heap.size wb W → W.cell? ⟨w.heap.size, 0, none⟩ = some (.int .i64 s.least) ∧ W.cell? ⟨w.heap.size, 1, none⟩ = some (.int .i64 s.wait) ∧ W.cell? ⟨w.heap.size, 2, none⟩ = some (.slice a.ta nt a.tc) ∧ W.cell? ⟨w.heap.size, 3, none⟩ = some (.slice a.fa nf a.fc) ∧ W.cell? ⟨w.heap.size, 4, none⟩ = some (.slice a.ca nc a.cc) ∧ W.cell? ⟨w.heap.size, 5, none⟩ = some (.slice a.ha nh a.hc) ∧ W.cell? ⟨w.heap.size, 6, none⟩ = some (.slice a.ba nb a.bc)) := Lib.hid fun W hb =>
  have k := HPB.out.keep hb
  ⟨(k.cell 0).trans rfl, (k.cell 1).trans rfl, (k.cell 2).trans rfl, (k.cell 3).trans rfl, (k.cell 4).trans rfl, (k.cell 5).trans rfl, (k.cell 6).trans rfl⟩
 clear q0 q1 q2 q3 q4 q5 q6 hB2
 obtain ⟨W2, hW2, hX2, hz2, hB2⟩ := box wb #[.pointer none, .slice none 0 0] 57
 have hbl2 : Bld W2 wb.heap.size [] := hW2 ▸ Bld.new wb
 have HW2 := Lib.hid hW2
 clear hW2
 obtain ⟨m0, m1, m2, m3, m4, m5, m6⟩ := HCL.out _ hB2
 clear m2 m3 m4 m5 m6
 go_upto_region 5 with fail
 rw [HW2.out]
 have HB2 := Lib.hid hB2
 have HTB : Hid (∀ V, Below (W2).heap.size W2 V → Tx.Tab V) := Lib.hid fun V hv => Tx.tab_below (Tx.tab_below HT.out (HB2.out)) hv
 have HWS : Hid (∀ V, Below (W2).heap.size W2 V → Calls Tryz.prog 23 #[.pointer (some ⟨wb.heap.size, 0, none⟩), .string (Tx.mk (St.fZ s ++ [10]))] V fun e w' => e = .returned (.tuple #[.int .i64 (Tx.mk (St.fZ s ++ [10])).size, .nilIface]) ∧ Bld w' wb.heap.size (([] : List UInt8) ++ (St.fZ s ++ [10])) ∧ Below wb.heap.size wb w' ∧ Lib.OthersKept 5 (some wb.heap.size) V w') := Lib.hid fun V hv => (writeString_is wb.heap.size (([] : List UInt8)) (St.fZ s ++ [10]) V ((hbl2).keep hv) (by simp only [List.length_append, List.length_cons, List.length_nil]; omega)).mono fun e w' h => ⟨h.1, h.2.1, (HB2.out).trans ((hv.mono (HB2.out).size).trans h.2.2.1), h.2.2.2⟩
 have HIA : Hid (∀ V, Below W2.heap.size W2 V → Calls Tryz.prog 25 #[.int .i64 s.least] V fun e w' => e = .returned (.string (St.num s.least)) ∧ Below V.heap.size V w') := Lib.hid fun V hv => itoaN_is s.least (by omega) V (HTB.out V hv)
 have HIC : Hid (∀ V, Below W2.heap.size W2 V → Calls Tryz.prog 25 #[.int .i64 s.wait] V fun e w' => e = .returned (.string (St.num s.wait)) ∧ Below V.heap.size V w') := Lib.hid fun V hv => itoaN_is s.wait (by omega) V (HTB.out V hv)
 have HLN : Hid (∀ V, Calls Tryz.prog 24 #[.slice (some ⟨V.heap.size, 0, none⟩) 3 3] (V.alloc (.cells #[.string ⟨#[115, 116, 111, 114, 101]⟩, .string (St.num s.least), .string (St.num s.wait)] 9)) fun e w' => e = .returned (.string (Tx.mk (St.fZ s ++ [10]))) ∧ Below V.heap.size V w') := Lib.hid fun V => line3_is _ _ _ _ V (Nat.le_trans hlz (by decide))
 have HCE : Hid (∀ V, Below W2.heap.size W2 V → V.cell? ⟨w.heap.size, 0, none⟩ = some (.int .i64 s.least) ∧ V.cell? ⟨w.heap.size, 1, none⟩ = some (.int .i64 s.wait)) := Lib.hid fun V hv => ⟨(HCL.out V (below_up HB2.out hv)).1, (HCL.out V (below_up HB2.out hv)).2.1⟩
 have HCF : Hid (∀ V, Below wb.heap.size wb V → V.cell? ⟨w.heap.size, 0, none⟩ = some (.int .i64 s.least) ∧ V.cell? ⟨w.heap.size, 1, none⟩ = some (.int .i64 s.wait)) := Lib.hid fun V hv => ⟨(HCL.out V hv).1, (HCL.out V hv).2.1⟩
 have hv : Below W2.heap.size W2 W2.drew := (Below.refl _ _).drew
 obtain ⟨c0, c1⟩ := HCE.out _ hv
 generalize Tx.mk (St.fZ s ++ [10]) = X at *
 generalize St.num s.least = NA at *
 generalize St.num s.wait = NB at *
 go_region_held3 (fun w' => w'.cell? ⟨w.heap.size, 0, none⟩ = some (.int .i64 s.least) ∧ w'.cell? ⟨w.heap.size, 1, none⟩ = some (.int .i64 s.wait))
  (first | (with_reducible exact ⟨c0, c1⟩) | (with_reducible exact ⟨d0, d1⟩) | go_keep)
  (first
   | (go_at_call 25; first | ((with_reducible refine (HIA.out _ hv).mono ?_); rintro e wq ⟨rfl, hq⟩; have hv := below_up hv hq; obtain ⟨c0, c1⟩ := HCE.out _ hv) | ((with_reducible refine (HIC.out _ hv).mono ?_); rintro e wq ⟨rfl, hq⟩; have hv := below_up hv hq; obtain ⟨c0, c1⟩ := HCE.out _ hv))
   | (go_at_call 24; (with_reducible refine (HLN.out _).mono ?_); rintro e wl ⟨rfl, hl⟩; have hv := below_up hv hl; obtain ⟨c0, c1⟩ := HCE.out _ hv)
   | (go_at_call 23; (with_reducible refine (HWS.out _ hv).mono ?_); rintro e wz ⟨rfl, hbz, hBz, hkz⟩; obtain ⟨c0, c1⟩ := HCF.out _ hBz))
 rw [← HZ0.out, HA0.out] at hbz
 have HBZ := Lib.hid hbz
 have HBY := Lib.hid hBz
 clear hbz hkz hv c0 c1
 obtain ⟨m0, m1, m2, m3, m4, m5, m6⟩ := HCL.out _ hBz
 clear m0 m1 m3 m4 m5 m6 hBz
 go_wp2_with fail
 clear m2 m0 m1
 clear HIA HIC HLN HCE HCF HTB HWS
 go_loopg [34] nt (fun gk i wr => ∃ j : Nat, j ≤ nt ∧ gk = nt - j ∧ i = .int .i64 j ∧ Bld wr wb.heap.size (St.part (St.A0 s) St.fT s.tiers j) ∧ Below wb.heap.size wb wr)
 case atStart => exact ⟨0, by omega, rfl, rfl, HBZ.out, HBY.out⟩
 case round =>
  obtain ⟨j, hj, rfl, rfl, hbl, hB⟩ := hrel
  by_cases hlt : j < nt
  ·obtain ⟨x, hx⟩ : ∃ x, s.tiers[j]? = some x := ⟨_, List.getElem?_eq_getElem (by rw [HNT.out]; exact hlt)⟩
   obtain ⟨b, off, ha, hb, hcell⟩ := ((HIB.out.keep hB).ti) (by rw [HNT.out]; omega)
   have c0 : wr.cell? ⟨b, off + j * 4, none⟩ = some (.string x.name) := hcell j x hx 0 (.string x.name) rfl
   have c1 : wr.cell? ⟨b, off + j * 4 + 1, none⟩ = some (.int .i64 x.room) := hcell j x hx 1 (.int .i64 x.room) rfl
   have c2 : wr.cell? ⟨b, off + j * 4 + 2, none⟩ = some (.int .i64 x.cost) := hcell j x hx 2 (.int .i64 x.cost) rfl
   have c3 : wr.cell? ⟨b, off + j * 4 + 3, none⟩ = some (.bool x.away) := hcell j x hx 3 (.bool x.away) rfl
   clear hcell
   obtain ⟨g1, g2, g3⟩ := St.tier_good HR.out (List.mem_of_getElem? hx)
   have hll := St.fT_len HR.out (List.mem_of_getElem? hx)
   have hpl := HL1.out j
   have HNX := Lib.hid (St.part_succ (A := St.A0 s) (f := St.fT) hx)
   obtain ⟨W3, hW3, hX3, hz3, hB3⟩ := box wr #[.string x.name, .int .i64 x.room, .int .i64 x.cost, .bool x.away] 65
   have HW3 := Lib.hid hW3
   have HB3 := Lib.hid (below_up hB hB3)
   have hbl3 := hbl.keep hB3
   have hwr := hbl.lt
   have HTB : Hid (∀ V, Below (W3).heap.size W3 V → Tx.Tab V) := Lib.hid fun V hv => Tx.tab_below (Tx.tab_below HT.out (HB3.out)) hv
   have HWS : Hid (∀ V, Below (W3).heap.size W3 V → Calls Tryz.prog 23 #[.pointer (some ⟨wb.heap.size, 0, none⟩), .string (Tx.mk (St.fT x ++ [10]))] V fun e w' => e = .returned (.tuple #[.int .i64 (Tx.mk (St.fT x ++ [10])).size, .nilIface]) ∧ Bld w' wb.heap.size (St.part (St.A0 s) St.fT s.tiers j ++ (St.fT x ++ [10])) ∧ Below wb.heap.size wb w' ∧ Lib.OthersKept 5 (some wb.heap.size) V w') := Lib.hid fun V hv => (writeString_is wb.heap.size (St.part (St.A0 s) St.fT s.tiers j) (St.fT x ++ [10]) V ((hbl3).keep hv) (by simp only [List.length_append, List.length_cons, List.length_nil]; omega)).mono fun e w' h => ⟨h.1, h.2.1, (HB3.out).trans ((hv.mono (HB3.out).size).trans h.2.2.1), h.2.2.2⟩
   have HIA : Hid (∀ V, Below W3.heap.size W3 V → Calls Tryz.prog 25 #[.int .i64 x.room] V fun e w' => e = .returned (.string (St.num x.room)) ∧ Below V.heap.size V w') := Lib.hid fun V hv => itoaN_is x.room (by omega) V (HTB.out V hv)
   have HIC : Hid (∀ V, Below W3.heap.size W3 V → Calls Tryz.prog 25 #[.int .i64 x.cost] V fun e w' => e = .returned (.string (St.num x.cost)) ∧ Below V.heap.size V w') := Lib.hid fun V hv => itoaN_is x.cost (by omega) V (HTB.out V hv)
   have HWD := Lib.hid (fun V => word_is x.away ⟨#[97, 119, 97, 121]⟩ ⟨#[104, 101, 114, 101]⟩ V)
   have HLN : Hid (∀ V, Calls Tryz.prog 24 #[.slice (some ⟨V.heap.size, 0, none⟩) 5 5] (V.alloc (.cells #[.string ⟨#[116, 105, 101, 114]⟩, .string x.name, .string (St.num x.room), .string (St.num x.cost), .string (St.sw x.away ⟨#[97, 119, 97, 121]⟩ ⟨#[104, 101, 114, 101]⟩)] 9)) fun e w' => e = .returned (.string (Tx.mk (St.fT x ++ [10]))) ∧ Below V.heap.size V w') := Lib.hid fun V => by
    have e : St.sw x.away ⟨#[97, 119, 97, 121]⟩ ⟨#[104, 101, 114, 101]⟩ = Tx.mk (St.tow x.away [97, 119, 97, 121] [104, 101, 114, 101]) := (St.sw_list _ _ _).symm
    rw [e]
    exact line5_is ⟨#[116, 105, 101, 114]⟩ x.name (St.num x.room) (St.num x.cost) (Tx.mk (St.tow x.away [97, 119, 97, 121] [104, 101, 114, 101])) 9 V (Nat.le_trans hll (by decide))
   have HCE : Hid (∀ V, Below W3.heap.size W3 V → V.cell? ⟨wr.heap.size, 0, none⟩ = some (.string x.name) ∧ V.cell? ⟨wr.heap.size, 1, none⟩ = some (.int .i64 x.room) ∧ V.cell? ⟨wr.heap.size, 2, none⟩ = some (.int .i64 x.cost) ∧ V.cell? ⟨wr.heap.size, 3, none⟩ = some (.bool x.away)) := Lib.hid fun V hv =>
    have k := hX3.keep hv
    ⟨(k.cell 0).trans rfl, (k.cell 1).trans rfl, (k.cell 2).trans rfl, (k.cell 3).trans rfl⟩
   have HCF : Hid (∀ V V', Below W3.heap.size W3 V → Lib.OthersKept 5 (some wb.heap.size) V V' → V'.cell? ⟨wr.heap.size, 0, none⟩ = some (.string x.name) ∧ V'.cell? ⟨wr.heap.size, 1, none⟩ = some (.int .i64 x.room) ∧ V'.cell? ⟨wr.heap.size, 2, none⟩ = some (.int .i64 x.cost) ∧ V'.cell? ⟨wr.heap.size, 3, none⟩ = some (.bool x.away)) := Lib.hid fun V V' hv hk =>
    have k := (hX3.keep hv).others hk (by omega) (by decide)
    ⟨(k.cell 0).trans rfl, (k.cell 1).trans rfl, (k.cell 2).trans rfl, (k.cell 3).trans rfl⟩
   have hj0 : (0 : Int) ≤ (j : Int) := by omega
   have hj1 : (j : Int) < (nt : Int) := by omega
   clear hx hbl hbl3 hB hX3 hz3 hB3 hW3 g1 g2 g3 hll hpl
   generalize Tx.mk (St.fT x ++ [10]) = X at *
   generalize St.num x.room = NA at *
   generalize St.num x.cost = NB at *
   generalize St.sw x.away ⟨#[97, 119, 97, 121]⟩ ⟨#[104, 101, 114, 101]⟩ = NW at *
   have hv : Below W3.heap.size W3 W3.drew := (Below.refl _ _).drew
   obtain ⟨e0, e1, e2, e3⟩ := HCE.out _ (Below.refl _ _)
   obtain ⟨d0, d1, d2, d3⟩ := HCE.out _ hv
   rw [ha]
   go_upto_region 9 with fail
   rw [HW3.out]
   clear c0 c1 c2 c3
   go_region_held3 (fun w' => w'.cell? ⟨wr.heap.size, 0, none⟩ = some (.string x.name) ∧ w'.cell? ⟨wr.heap.size, 1, none⟩ = some (.int .i64 x.room) ∧ w'.cell? ⟨wr.heap.size, 2, none⟩ = some (.int .i64 x.cost) ∧ w'.cell? ⟨wr.heap.size, 3, none⟩ = some (.bool x.away))
    (first | (with_reducible exact ⟨d0, d1, d2, d3⟩) | go_keep)
    (first
     | (go_at_call 25; first | ((with_reducible refine (HIA.out _ hv).mono ?_); rintro e wq ⟨rfl, hq⟩; have hv := below_up hv hq; obtain ⟨d0, d1, d2, d3⟩ := HCE.out _ hv) | ((with_reducible refine (HIC.out _ hv).mono ?_); rintro e wq ⟨rfl, hq⟩; have hv := below_up hv hq; obtain ⟨d0, d1, d2, d3⟩ := HCE.out _ hv))
     | (go_at_call 26; (with_reducible refine (HWD.out _).mono ?_); rintro e wo ⟨rfl, rfl⟩)
     | (go_at_call 24; (with_reducible refine (HLN.out _).mono ?_); rintro e wl ⟨rfl, hl⟩; have hv := below_up hv hl; obtain ⟨d0, d1, d2, d3⟩ := HCE.out _ hv)
     | (go_at_call 23; (with_reducible refine (HWS.out _ hv).mono ?_); rintro e wz ⟨rfl, hbz, hBz, hkz⟩; obtain ⟨d0, d1, d2, d3⟩ := HCF.out _ _ hv hkz))
   go_wp2_with fail
   rw [← ha]
   go_roundg (nt - (j + 1))
   case rel => exact ⟨j + 1, by omega, rfl, by go_num, by rw [HNX.out]; exact hbz, hBz⟩
   case measure => omega
  ·obtain rfl : nt = j := by omega
   rw [← HS1.out, HA1.out] at hbl
   have HBZ := Lib.hid hbl
   have HBY := Lib.hid hB
   obtain ⟨m0, m1, m2, m3, m4, m5, m6⟩ := HCL.out _ hB
   clear m0 m1 m2 m4 m5 m6 hbl hB
   go_wp2_with fail
   clear m3
   go_loopg [56] nf (fun gk i wr => ∃ j : Nat, j ≤ nf ∧ gk = nf - j ∧ i = .int .i64 j ∧ Bld wr wb.heap.size (St.part (St.A1 s) St.fF s.files j) ∧ Below wb.heap.size wb wr)
   case atStart => exact ⟨0, by omega, rfl, rfl, HBZ.out, HBY.out⟩
   case round =>
    obtain ⟨j, hj, rfl, rfl, hbl, hB⟩ := hrel
    by_cases hlt : j < nf
    ·obtain ⟨x, hx⟩ : ∃ x, s.files[j]? = some x := ⟨_, List.getElem?_eq_getElem (by rw [HNF.out]; exact hlt)⟩
     obtain ⟨b, off, ha, hb, hcell⟩ := ((HIB.out.keep hB).fi) (by rw [HNF.out]; omega)
     have c0 : wr.cell? ⟨b, off + j * 4, none⟩ = some (.string x.dig) := hcell j x hx 0 (.string x.dig) rfl
     have c1 : wr.cell? ⟨b, off + j * 4 + 1, none⟩ = some (.int .i64 x.size) := hcell j x hx 1 (.int .i64 x.size) rfl
     have c2 : wr.cell? ⟨b, off + j * 4 + 2, none⟩ = some (.int .i64 x.kind) := hcell j x hx 2 (.int .i64 x.kind) rfl
     have c3 : wr.cell? ⟨b, off + j * 4 + 3, none⟩ = some (.string x.frm) := hcell j x hx 3 (.string x.frm) rfl
     clear hcell
     obtain ⟨g1, g2, g3, g4⟩ := St.file_good HR.out (List.mem_of_getElem? hx)
     have hll := St.fF_len HR.out (List.mem_of_getElem? hx)
     have hpl := HL2.out j
     have HNX := Lib.hid (St.part_succ (A := St.A1 s) (f := St.fF) hx)
     obtain ⟨W3, hW3, hX3, hz3, hB3⟩ := box wr #[.string x.dig, .int .i64 x.size, .int .i64 x.kind, .string x.frm] 68
     have HW3 := Lib.hid hW3
     have HB3 := Lib.hid (below_up hB hB3)
     have hbl3 := hbl.keep hB3
     have hwr := hbl.lt
     have HTB : Hid (∀ V, Below (W3).heap.size W3 V → Tx.Tab V) := Lib.hid fun V hv => Tx.tab_below (Tx.tab_below HT.out (HB3.out)) hv
     have HWS : Hid (∀ V, Below (W3).heap.size W3 V → Calls Tryz.prog 23 #[.pointer (some ⟨wb.heap.size, 0, none⟩), .string (Tx.mk (St.fF x ++ [10]))] V fun e w' => e = .returned (.tuple #[.int .i64 (Tx.mk (St.fF x ++ [10])).size, .nilIface]) ∧ Bld w' wb.heap.size (St.part (St.A1 s) St.fF s.files j ++ (St.fF x ++ [10])) ∧ Below wb.heap.size wb w' ∧ Lib.OthersKept 5 (some wb.heap.size) V w') := Lib.hid fun V hv => (writeString_is wb.heap.size (St.part (St.A1 s) St.fF s.files j) (St.fF x ++ [10]) V ((hbl3).keep hv) (by simp only [List.length_append, List.length_cons, List.length_nil]; omega)).mono fun e w' h => ⟨h.1, h.2.1, (HB3.out).trans ((hv.mono (HB3.out).size).trans h.2.2.1), h.2.2.2⟩
     have HIA : Hid (∀ V, Below W3.heap.size W3 V → Calls Tryz.prog 25 #[.int .i64 x.size] V fun e w' => e = .returned (.string (St.num x.size)) ∧ Below V.heap.size V w') := Lib.hid fun V hv => itoaN_is x.size (by omega) V (HTB.out V hv)
     have HKW := Lib.hid (fun V => kindWord_is x.kind g3 V)
     have hpx : ∀ f : List UInt8, (St.ln [[102, 105, 108, 101], x.dig.data.toList, Lib.itoa x.size, St.kindT x.kind, f]) = St.ln [[102, 105, 108, 101], x.dig.data.toList, Lib.itoa x.size, St.kindT x.kind, f] := fun _ => rfl
     have hF1 : x.kind = 1 → St.fF x = St.ln [[102, 105, 108, 101], x.dig.data.toList, Lib.itoa x.size, St.kindT x.kind] := fun h => by unfold St.fF St.wF; rw [if_pos h, List.append_nil]
     have hF2 : x.kind ≠ 1 → St.fF x = St.ln [[102, 105, 108, 101], x.dig.data.toList, Lib.itoa x.size, St.kindT x.kind, x.frm.data.toList] := fun h => by unfold St.fF St.wF; rw [if_neg h]; rfl
     have HLN1 : Hid (x.kind = 1 → ∀ V, Calls Tryz.prog 24 #[.slice (some ⟨V.heap.size, 0, none⟩) 4 4] (V.alloc (.cells #[.string ⟨#[102, 105, 108, 101]⟩, .string x.dig, .string (St.num x.size), .string (St.kindB x.kind)] 9)) fun e w' => e = .returned (.string (Tx.mk (St.fF x ++ [10]))) ∧ Below V.heap.size V w') := Lib.hid fun h V => by
      have h1 := line4_is ⟨#[102, 105, 108, 101]⟩ x.dig (St.num x.size) (St.kindB x.kind) 9 V (by have h2 := hF1 h; rw [h2] at hll; exact Nat.le_trans hll (by decide))
      rw [hF1 h]
      exact h1
     have HLN2 : Hid (x.kind ≠ 1 → ∀ (W : World) (B g cap : Nat), W.ownsRow B 9 1 (.slice (some ⟨g, 0, none⟩) 5 cap) 5 ([.string ⟨#[102, 105, 108, 101]⟩, .string x.dig, .string (St.num x.size), .string (St.kindB x.kind)] ++ [.string x.frm]) → Calls Tryz.prog 24 #[.slice (some ⟨g, 0, none⟩) 5 cap] W fun e w' => e = .returned (.string (Tx.mk (St.fF x ++ [10]))) ∧ Below W.heap.size W w') := Lib.hid fun h W B g cap ho => by
      have h1 := lineOwn_is [⟨#[102, 105, 108, 101]⟩, x.dig, St.num x.size, St.kindB x.kind, x.frm] B g cap W ho (by simp) (by have h2 := hF2 h; rw [h2] at hll; exact Nat.le_trans hll (by decide))
      rw [hF2 h]
      exact h1
     have HCE : Hid (∀ V, Below W3.heap.size W3 V → V.cell? ⟨wr.heap.size, 0, none⟩ = some (.string x.dig) ∧ V.cell? ⟨wr.heap.size, 1, none⟩ = some (.int .i64 x.size) ∧ V.cell? ⟨wr.heap.size, 2, none⟩ = some (.int .i64 x.kind) ∧ V.cell? ⟨wr.heap.size, 3, none⟩ = some (.string x.frm)) := Lib.hid fun V hv =>
      have k := hX3.keep hv
      ⟨(k.cell 0).trans rfl, (k.cell 1).trans rfl, (k.cell 2).trans rfl, (k.cell 3).trans rfl⟩
     have hj0 : (0 : Int) ≤ (j : Int) := by omega
     have hj1 : (j : Int) < (nf : Int) := by omega
     clear hx hbl hbl3 hB hX3 hz3 hB3 hW3 g1 g2 g3 g4 hll hpl hF1 hF2 hpx
     generalize Tx.mk (St.fF x ++ [10]) = X at *
     generalize St.num x.size = NA at *
     generalize St.kindB x.kind = NK at *
     have hv : Below W3.heap.size W3 W3.drew := (Below.refl _ _).drew
     obtain ⟨e0, e1, e2, e3⟩ := HCE.out _ (Below.refl _ _)
     obtain ⟨d0, d1, d2, d3⟩ := HCE.out _ hv
     rw [ha]
     go_upto_region 14 with fail
     rw [HW3.out]
     clear c0 c1 c2 c3
     go_region_held3 (fun w' => w'.cell? ⟨wr.heap.size, 0, none⟩ = some (.string x.dig) ∧ w'.cell? ⟨wr.heap.size, 1, none⟩ = some (.int .i64 x.size) ∧ w'.cell? ⟨wr.heap.size, 2, none⟩ = some (.int .i64 x.kind))
      (first | (with_reducible exact ⟨d0, d1, d2⟩) | go_keep)
      (first
       | (go_at_call 25; (with_reducible refine (HIA.out _ hv).mono ?_); rintro e wq ⟨rfl, hq⟩; have hv := below_up hv hq; obtain ⟨d0, d1, d2, d3⟩ := HCE.out _ hv)
       | (go_at_call 27; (with_reducible refine (HKW.out _).mono ?_); rintro e wo ⟨rfl, rfl⟩))
     obtain ⟨W5, hW5, hX5, hz5, hB5⟩ := box wq #[.string ⟨#[102, 105, 108, 101]⟩, .string x.dig, .string NA, .string NK] 9
     have HW5 := Lib.hid hW5
     have hv5 := below_up hv hB5
     obtain ⟨f0, f1, f2, f3⟩ := HCE.out _ hv5
     have hown5 := ownsRow_new wq W3.heap.size 9 #[.string ⟨#[102, 105, 108, 101]⟩, .string x.dig, .string NA, .string NK] hv.size (by unfold maxLen; simp)
     rw [hW5] at hown5
     have HO5 := Lib.hid hown5
     have hs5 := hv5.size
     clear e0 e1 e2 e3 d0 d1 d2 d3 hX5 hB5 hW5 hown5 hz5
     by_cases hk : x.kind = 1
     ·have hkb : (x.kind != 1) = false := by simpa using hk
      have HLK := Lib.hid (HLN1.out hk wq)
      rw [HW5.out] at HLK
      clear f0 f1 f3
      generalize x.kind = kd at *
      subst hk
      go_upto_region 15 with fail
      rw [HW5.out]
      go_wp2_with (first
       | (go_at_call 24; (with_reducible refine HLK.out.mono ?_); rintro e wl ⟨rfl, hl⟩; have hv6 := below_up hv hl)
       | (go_at_call 23; (with_reducible refine (HWS.out _ hv6).mono ?_); rintro e wz ⟨rfl, hbz, hBz, hkz⟩))
      rw [← ha]
      go_roundg (nf - (j + 1))
      case rel => exact ⟨j + 1, by omega, rfl, by go_num, by rw [HNX.out]; exact hbz, hBz⟩
      case measure => omega
     ·have hkb : (x.kind != 1) = true := by simpa using hk
      have HLK := Lib.hid (HLN2.out hk)
      have hv6 := below_up hv5 (below_allocs (Below.refl W5.heap.size W5) (.cells #[.string x.frm] 9))
      clear f0 f1
      go_upto_region 15 with fail
      rw [HW5.out]
      go_wp2_with (first
       | (at_builtin; refine wpList_append_own2 _ rfl _ _ 25 rfl W3.heap.size 9 i0 (.string ByteArray.empty) 1 16 Tryz.underlying25 HI0.out HI1'.out HI2.out HI3.out rfl (by decide) _ 4 [.string ⟨#[102, 105, 108, 101]⟩, .string x.dig, .string NA, .string NK] rfl (HO5.out.alloc _) ⟨W5.heap.size, 0, none⟩ 1 1 [.string x.frm] rfl (by decide) rfl (cell_one_new _ _ _) (by simp [Value.oneCell']) (by unfold maxLen; omega) (by omega) (by simp; omega) ?_; intro g8 cap8 w8 hown8 hgrow8 hnew8; have hv8 := hv6.trans (below_of_grownS hgrow8 (by simp; omega) hv.size))
       | (go_at_call 24; (refine (HLK.out w8 _ g8 cap8 hown8).mono ?_); rintro e wl ⟨rfl, hl⟩; have hv9 := below_up hv8 hl)
       | (go_at_call 23; (with_reducible refine (HWS.out _ hv9).mono ?_); rintro e wz ⟨rfl, hbz, hBz, hkz⟩))
      rw [← ha]
      go_roundg (nf - (j + 1))
      case rel => exact ⟨j + 1, by omega, rfl, by go_num, by rw [HNX.out]; exact hbz, hBz⟩
      case measure => omega
    ·obtain rfl : nf = j := by omega
     rw [← HS2.out, HA2.out] at hbl
     have HBZ := Lib.hid hbl
     have HBY := Lib.hid hB
     obtain ⟨m0, m1, m2, m3, m4, m5, m6⟩ := HCL.out _ hB
     clear m0 m1 m2 m3 m5 m6 hbl hB
     go_wp2_with fail
     clear m4
     go_loopg [84] nc (fun gk i wr => ∃ j : Nat, j ≤ nc ∧ gk = nc - j ∧ i = .int .i64 j ∧ Bld wr wb.heap.size (St.part (St.A2 s) St.fC s.copies j) ∧ Below wb.heap.size wb wr)
     case atStart => exact ⟨0, by omega, rfl, rfl, HBZ.out, HBY.out⟩
     case round =>
      obtain ⟨j, hj, rfl, rfl, hbl, hB⟩ := hrel
      by_cases hlt : j < nc
      ·obtain ⟨x, hx⟩ : ∃ x, s.copies[j]? = some x := ⟨_, List.getElem?_eq_getElem (by rw [HNC.out]; exact hlt)⟩
       obtain ⟨b, off, ha, hb, hcell⟩ := ((HIB.out.keep hB).co) (by rw [HNC.out]; omega)
       have c0 : wr.cell? ⟨b, off + j * 4, none⟩ = some (.string x.dig) := hcell j x hx 0 (.string x.dig) rfl
       have c1 : wr.cell? ⟨b, off + j * 4 + 1, none⟩ = some (.string x.tier) := hcell j x hx 1 (.string x.tier) rfl
       have c2 : wr.cell? ⟨b, off + j * 4 + 2, none⟩ = some (.bool x.good) := hcell j x hx 2 (.bool x.good) rfl
       have c3 : wr.cell? ⟨b, off + j * 4 + 3, none⟩ = some (.int .i64 x.asked) := hcell j x hx 3 (.int .i64 x.asked) rfl
       clear hcell
       obtain ⟨g1, g2, g3⟩ := St.cop_good HR.out (List.mem_of_getElem? hx)
       have hll := St.fC_len HR.out (List.mem_of_getElem? hx)
       have hpl := HL3.out j
       have HNX := Lib.hid (St.part_succ (A := St.A2 s) (f := St.fC) hx)
       obtain ⟨W3, hW3, hX3, hz3, hB3⟩ := box wr #[.string x.dig, .string x.tier, .bool x.good, .int .i64 x.asked] 70
       have HW3 := Lib.hid hW3
       have HB3 := Lib.hid (below_up hB hB3)
       have hbl3 := hbl.keep hB3
       have hwr := hbl.lt
       have HTB : Hid (∀ V, Below (W3).heap.size W3 V → Tx.Tab V) := Lib.hid fun V hv => Tx.tab_below (Tx.tab_below HT.out (HB3.out)) hv
       have HWS : Hid (∀ V, Below (W3).heap.size W3 V → Calls Tryz.prog 23 #[.pointer (some ⟨wb.heap.size, 0, none⟩), .string (Tx.mk (St.fC x ++ [10]))] V fun e w' => e = .returned (.tuple #[.int .i64 (Tx.mk (St.fC x ++ [10])).size, .nilIface]) ∧ Bld w' wb.heap.size (St.part (St.A2 s) St.fC s.copies j ++ (St.fC x ++ [10])) ∧ Below wb.heap.size wb w' ∧ Lib.OthersKept 5 (some wb.heap.size) V w') := Lib.hid fun V hv => (writeString_is wb.heap.size (St.part (St.A2 s) St.fC s.copies j) (St.fC x ++ [10]) V ((hbl3).keep hv) (by simp only [List.length_append, List.length_cons, List.length_nil]; omega)).mono fun e w' h => ⟨h.1, h.2.1, (HB3.out).trans ((hv.mono (HB3.out).size).trans h.2.2.1), h.2.2.2⟩
       have HIA : Hid (∀ V, Below W3.heap.size W3 V → Calls Tryz.prog 25 #[.int .i64 x.asked] V fun e w' => e = .returned (.string (St.num x.asked)) ∧ Below V.heap.size V w') := Lib.hid fun V hv => itoaN_is x.asked (by omega) V (HTB.out V hv)
       have HWD := Lib.hid (fun V => word_is x.good ⟨#[103, 111, 111, 100]⟩ ⟨#[98, 97, 100]⟩ V)
       have HLN : Hid (∀ V, Calls Tryz.prog 24 #[.slice (some ⟨V.heap.size, 0, none⟩) 5 5] (V.alloc (.cells #[.string ⟨#[99, 111, 112, 121]⟩, .string x.dig, .string x.tier, .string (St.sw x.good ⟨#[103, 111, 111, 100]⟩ ⟨#[98, 97, 100]⟩), .string (St.num x.asked)] 9)) fun e w' => e = .returned (.string (Tx.mk (St.fC x ++ [10]))) ∧ Below V.heap.size V w') := Lib.hid fun V => by
        have e : St.sw x.good ⟨#[103, 111, 111, 100]⟩ ⟨#[98, 97, 100]⟩ = Tx.mk (St.tow x.good [103, 111, 111, 100] [98, 97, 100]) := (St.sw_list _ _ _).symm
        rw [e]
        exact line5_is ⟨#[99, 111, 112, 121]⟩ x.dig x.tier (Tx.mk (St.tow x.good [103, 111, 111, 100] [98, 97, 100])) (St.num x.asked) 9 V (Nat.le_trans hll (by decide))
       have HCE : Hid (∀ V, Below W3.heap.size W3 V → V.cell? ⟨wr.heap.size, 0, none⟩ = some (.string x.dig) ∧ V.cell? ⟨wr.heap.size, 1, none⟩ = some (.string x.tier) ∧ V.cell? ⟨wr.heap.size, 2, none⟩ = some (.bool x.good) ∧ V.cell? ⟨wr.heap.size, 3, none⟩ = some (.int .i64 x.asked)) := Lib.hid fun V hv =>
        have k := hX3.keep hv
        ⟨(k.cell 0).trans rfl, (k.cell 1).trans rfl, (k.cell 2).trans rfl, (k.cell 3).trans rfl⟩
       have HCF : Hid (∀ V V', Below W3.heap.size W3 V → Lib.OthersKept 5 (some wb.heap.size) V V' → V'.cell? ⟨wr.heap.size, 0, none⟩ = some (.string x.dig) ∧ V'.cell? ⟨wr.heap.size, 1, none⟩ = some (.string x.tier) ∧ V'.cell? ⟨wr.heap.size, 2, none⟩ = some (.bool x.good) ∧ V'.cell? ⟨wr.heap.size, 3, none⟩ = some (.int .i64 x.asked)) := Lib.hid fun V V' hv hk =>
        have k := (hX3.keep hv).others hk (by omega) (by decide)
        ⟨(k.cell 0).trans rfl, (k.cell 1).trans rfl, (k.cell 2).trans rfl, (k.cell 3).trans rfl⟩
       have hj0 : (0 : Int) ≤ (j : Int) := by omega
       have hj1 : (j : Int) < (nc : Int) := by omega
       clear hx hbl hbl3 hB hX3 hz3 hB3 hW3 g1 g2 g3 hll hpl
       generalize Tx.mk (St.fC x ++ [10]) = X at *
       generalize St.num x.asked = NA at *
       generalize St.sw x.good ⟨#[103, 111, 111, 100]⟩ ⟨#[98, 97, 100]⟩ = NW at *
       have hv : Below W3.heap.size W3 W3.drew := (Below.refl _ _).drew
       obtain ⟨e0, e1, e2, e3⟩ := HCE.out _ (Below.refl _ _)
       obtain ⟨d0, d1, d2, d3⟩ := HCE.out _ hv
       rw [ha]
       go_upto_region 22 with fail
       rw [HW3.out]
       clear c0 c1 c2 c3
       go_region_held3 (fun w' => w'.cell? ⟨wr.heap.size, 0, none⟩ = some (.string x.dig) ∧ w'.cell? ⟨wr.heap.size, 1, none⟩ = some (.string x.tier) ∧ w'.cell? ⟨wr.heap.size, 2, none⟩ = some (.bool x.good) ∧ w'.cell? ⟨wr.heap.size, 3, none⟩ = some (.int .i64 x.asked))
        (first | (with_reducible exact ⟨d0, d1, d2, d3⟩) | go_keep)
        (first
         | (go_at_call 25; (with_reducible refine (HIA.out _ hv).mono ?_); rintro e wq ⟨rfl, hq⟩; have hv := below_up hv hq; obtain ⟨d0, d1, d2, d3⟩ := HCE.out _ hv)
         | (go_at_call 26; (with_reducible refine (HWD.out _).mono ?_); rintro e wo ⟨rfl, rfl⟩)
         | (go_at_call 24; (with_reducible refine (HLN.out _).mono ?_); rintro e wl ⟨rfl, hl⟩; have hv := below_up hv hl; obtain ⟨d0, d1, d2, d3⟩ := HCE.out _ hv)
         | (go_at_call 23; (with_reducible refine (HWS.out _ hv).mono ?_); rintro e wz ⟨rfl, hbz, hBz, hkz⟩; obtain ⟨d0, d1, d2, d3⟩ := HCF.out _ _ hv hkz))
       go_wp2_with fail
       rw [← ha]
       go_roundg (nc - (j + 1))
       case rel => exact ⟨j + 1, by omega, rfl, by go_num, by rw [HNX.out]; exact hbz, hBz⟩
       case measure => omega
      ·obtain rfl : nc = j := by omega
       rw [← HS3.out, HA3.out] at hbl
       have HBZ := Lib.hid hbl
       have HBY := Lib.hid hB
       obtain ⟨m0, m1, m2, m3, m4, m5, m6⟩ := HCL.out _ hB
       clear m0 m1 m2 m3 m4 m6 hbl hB
       go_wp2_with fail
       clear m5
       go_loopg [105] nh (fun gk i wr => ∃ j : Nat, j ≤ nh ∧ gk = nh - j ∧ i = .int .i64 j ∧ Bld wr wb.heap.size (St.part (St.A3 s) St.fH s.held j) ∧ Below wb.heap.size wb wr)
       case atStart => exact ⟨0, by omega, rfl, rfl, HBZ.out, HBY.out⟩
       case round =>
        obtain ⟨j, hj, rfl, rfl, hbl, hB⟩ := hrel
        by_cases hlt : j < nh
        ·obtain ⟨x, hx⟩ : ∃ x, s.held[j]? = some x := ⟨_, List.getElem?_eq_getElem (by rw [HNH.out]; exact hlt)⟩
         obtain ⟨b, off, ha, hb, hcell⟩ := ((HIB.out.keep hB).he) (by rw [HNH.out]; omega)
         have c0 : wr.cell? ⟨b, off + j, none⟩ = some (.string x) := by have := hcell _ x hx 0 (.string x) rfl; rw [show off + j * St.eS.k + 0 = off + j by simp [St.eS]] at this; exact this
         have hll := St.fH_len HR.out (List.mem_of_getElem? hx)
         have hpl := HL4.out j
         have HNX := Lib.hid (St.part_succ (A := St.A3 s) (f := St.fH) hx)
         have HB3 := Lib.hid hB
         have HTB : Hid (∀ V, Below (wr).heap.size wr V → Tx.Tab V) := Lib.hid fun V hv => Tx.tab_below (Tx.tab_below HT.out (HB3.out)) hv
         have HWS : Hid (∀ V, Below (wr).heap.size wr V → Calls Tryz.prog 23 #[.pointer (some ⟨wb.heap.size, 0, none⟩), .string (Tx.mk (St.fH x ++ [10]))] V fun e w' => e = .returned (.tuple #[.int .i64 (Tx.mk (St.fH x ++ [10])).size, .nilIface]) ∧ Bld w' wb.heap.size (St.part (St.A3 s) St.fH s.held j ++ (St.fH x ++ [10])) ∧ Below wb.heap.size wb w' ∧ Lib.OthersKept 5 (some wb.heap.size) V w') := Lib.hid fun V hv => (writeString_is wb.heap.size (St.part (St.A3 s) St.fH s.held j) (St.fH x ++ [10]) V ((hbl).keep hv) (by simp only [List.length_append, List.length_cons, List.length_nil]; omega)).mono fun e w' h => ⟨h.1, h.2.1, (HB3.out).trans ((hv.mono (HB3.out).size).trans h.2.2.1), h.2.2.2⟩
         have HLN := Lib.hid (line2_is ⟨#[104, 101, 108, 100]⟩ x 9 wr (Nat.le_trans hll (by decide)))
         have eX : St.ln [(⟨#[104, 101, 108, 100]⟩ : ByteArray).data.toList, x.data.toList] = St.fH x := rfl
         rw [eX] at HLN
         have hj0 : (0 : Int) ≤ (j : Int) := by omega
         have hj1 : (j : Int) < (nh : Int) := by omega
         clear hx hcell hbl hB hll hpl eX
         generalize Tx.mk (St.fH x ++ [10]) = X at *
         rw [ha]
         go_wp2_with (first
          | (go_at_call 24; (with_reducible refine HLN.out.mono ?_); rintro e wl ⟨rfl, hl⟩)
          | (go_at_call 23; (with_reducible refine (HWS.out _ hl).mono ?_); rintro e wz ⟨rfl, hbz, hBz, hkz⟩))
         rw [← ha]
         go_roundg (nh - (j + 1))
         case rel => exact ⟨j + 1, by omega, rfl, by go_num, by rw [HNX.out]; exact hbz, hBz⟩
         case measure => omega
        ·obtain rfl : nh = j := by omega
         rw [← HS4.out, HA4.out] at hbl
         have HBZ := Lib.hid hbl
         have HBY := Lib.hid hB
         obtain ⟨m0, m1, m2, m3, m4, m5, m6⟩ := HCL.out _ hB
         clear m0 m1 m2 m3 m4 m5 hbl hB
         go_wp2_with fail
         clear m6
         go_loopg [117] nb (fun gk i wr => ∃ j : Nat, j ≤ nb ∧ gk = nb - j ∧ i = .int .i64 j ∧ Bld wr wb.heap.size (St.part (St.A4 s) St.fB s.bin j) ∧ Below wb.heap.size wb wr)
         case atStart => exact ⟨0, by omega, rfl, rfl, HBZ.out, HBY.out⟩
         case round =>
          obtain ⟨j, hj, rfl, rfl, hbl, hB⟩ := hrel
          by_cases hlt : j < nb
          ·obtain ⟨x, hx⟩ : ∃ x, s.bin[j]? = some x := ⟨_, List.getElem?_eq_getElem (by rw [HNB.out]; exact hlt)⟩
           obtain ⟨b, off, ha, hb, hcell⟩ := ((HIB.out.keep hB).bi) (by rw [HNB.out]; omega)
           have c0 : wr.cell? ⟨b, off + j * 2, none⟩ = some (.string x.dig) := hcell j x hx 0 (.string x.dig) rfl
           have c1 : wr.cell? ⟨b, off + j * 2 + 1, none⟩ = some (.int .i64 x.day) := hcell j x hx 1 (.int .i64 x.day) rfl
           obtain ⟨hll, g1, g2⟩ := St.fB_len HR.out (List.mem_of_getElem? hx)
           have hpl := HL5.out j
           have HNX := Lib.hid (St.part_succ (A := St.A4 s) (f := St.fB) hx)
           obtain ⟨W3, hW3, hX3, hz3, hB3⟩ := box wr #[.string x.dig, .int .i64 x.day] 72
           have HW3 := Lib.hid hW3
           have HB3 := Lib.hid (below_up hB hB3)
           have hbl3 := hbl.keep hB3
           have hwr := hbl.lt
           have HTB : Hid (∀ V, Below (W3).heap.size W3 V → Tx.Tab V) := Lib.hid fun V hv => Tx.tab_below (Tx.tab_below HT.out (HB3.out)) hv
           have HWS : Hid (∀ V, Below (W3).heap.size W3 V → Calls Tryz.prog 23 #[.pointer (some ⟨wb.heap.size, 0, none⟩), .string (Tx.mk (St.fB x ++ [10]))] V fun e w' => e = .returned (.tuple #[.int .i64 (Tx.mk (St.fB x ++ [10])).size, .nilIface]) ∧ Bld w' wb.heap.size (St.part (St.A4 s) St.fB s.bin j ++ (St.fB x ++ [10])) ∧ Below wb.heap.size wb w' ∧ Lib.OthersKept 5 (some wb.heap.size) V w') := Lib.hid fun V hv => (writeString_is wb.heap.size (St.part (St.A4 s) St.fB s.bin j) (St.fB x ++ [10]) V ((hbl3).keep hv) (by simp only [List.length_append, List.length_cons, List.length_nil]; omega)).mono fun e w' h => ⟨h.1, h.2.1, (HB3.out).trans ((hv.mono (HB3.out).size).trans h.2.2.1), h.2.2.2⟩
           have HIA : Hid (∀ V, Below W3.heap.size W3 V → Calls Tryz.prog 25 #[.int .i64 x.day] V fun e w' => e = .returned (.string (St.num x.day)) ∧ Below V.heap.size V w') := Lib.hid fun V hv => itoaN_is x.day (by omega) V (HTB.out V hv)
           have HLN : Hid (∀ V, Calls Tryz.prog 24 #[.slice (some ⟨V.heap.size, 0, none⟩) 3 3] (V.alloc (.cells #[.string ⟨#[98, 105, 110]⟩, .string x.dig, .string (St.num x.day)] 9)) fun e w' => e = .returned (.string (Tx.mk (St.fB x ++ [10]))) ∧ Below V.heap.size V w') := Lib.hid fun V => line3_is ⟨#[98, 105, 110]⟩ x.dig (St.num x.day) 9 V (Nat.le_trans hll (by decide))
           have HCE : Hid (∀ V, Below W3.heap.size W3 V → V.cell? ⟨wr.heap.size, 0, none⟩ = some (.string x.dig) ∧ V.cell? ⟨wr.heap.size, 1, none⟩ = some (.int .i64 x.day)) := Lib.hid fun V hv =>
            have k := hX3.keep hv
            ⟨(k.cell 0).trans rfl, (k.cell 1).trans rfl⟩
           have HCF : Hid (∀ V V', Below W3.heap.size W3 V → Lib.OthersKept 5 (some wb.heap.size) V V' → V'.cell? ⟨wr.heap.size, 0, none⟩ = some (.string x.dig) ∧ V'.cell? ⟨wr.heap.size, 1, none⟩ = some (.int .i64 x.day)) := Lib.hid fun V V' hv hk =>
            have k := (hX3.keep hv).others hk (by omega) (by decide)
            ⟨(k.cell 0).trans rfl, (k.cell 1).trans rfl⟩
           have hj0 : (0 : Int) ≤ (j : Int) := by omega
           have hj1 : (j : Int) < (nb : Int) := by omega
           clear hx hcell hbl hbl3 hB hX3 hz3 hB3 hW3 g1 g2 hll hpl
           generalize Tx.mk (St.fB x ++ [10]) = X at *
           generalize St.num x.day = NA at *
           have hv : Below W3.heap.size W3 W3.drew := (Below.refl _ _).drew
           obtain ⟨e0, e1⟩ := HCE.out _ (Below.refl _ _)
           obtain ⟨d0, d1⟩ := HCE.out _ hv
           rw [ha]
           go_upto_region 32 with fail
           rw [HW3.out]
           clear c0 c1
           go_region_held3 (fun w' => w'.cell? ⟨wr.heap.size, 0, none⟩ = some (.string x.dig) ∧ w'.cell? ⟨wr.heap.size, 1, none⟩ = some (.int .i64 x.day))
            (first | (with_reducible exact ⟨d0, d1⟩) | go_keep)
            (first
             | (go_at_call 25; (with_reducible refine (HIA.out _ hv).mono ?_); rintro e wq ⟨rfl, hq⟩; have hv := below_up hv hq; obtain ⟨d0, d1⟩ := HCE.out _ hv)
             | (go_at_call 24; (with_reducible refine (HLN.out _).mono ?_); rintro e wl ⟨rfl, hl⟩; have hv := below_up hv hl; obtain ⟨d0, d1⟩ := HCE.out _ hv)
             | (go_at_call 23; (with_reducible refine (HWS.out _ hv).mono ?_); rintro e wz ⟨rfl, hbz, hBz, hkz⟩; obtain ⟨d0, d1⟩ := HCF.out _ _ hv hkz))
           go_wp2_with fail
           rw [← ha]
           go_roundg (nb - (j + 1))
           case rel => exact ⟨j + 1, by omega, rfl, by go_num, by rw [HNX.out]; exact hbz, hBz⟩
           case measure => omega
          ·obtain rfl : nb = j := by omega
           rw [← HS5.out, ← HTXT.out] at hbl
           have hln := HL0.out
           rw [← HTXT.out] at hln
           have HLEN := Lib.hid (bldLenS_is wb.heap.size (St.text s) wr hbl)
           have HSTR := Lib.hid (bldString_is wb.heap.size (St.text s) wr hbl)
           have HBY := Lib.hid hB
           clear hbl hB
           obtain ⟨QL, hQL⟩ : ∃ QL : Nat, (St.text s).length = QL := ⟨_, rfl⟩
           rw [hQL] at HLEN hln
           have hql2 : ¬ ((1000000 : Int) < (QL : Int)) := by omega
           clear hQL
           obtain ⟨TX, hTX⟩ : ∃ TX, Tx.mk (St.text s) = TX := ⟨_, rfl⟩
           rw [hTX] at HSTR
           have HTX := Lib.hid hTX
           clear hTX
           go_wp2_with (first
            | (go_at_call 28; (with_reducible refine HLEN.out.mono ?_); rintro e w8 ⟨rfl, hw8⟩; subst w8)
            | (go_at_call 29; (with_reducible refine HSTR.out.mono ?_); rintro e w9 ⟨rfl, hB9⟩))
           go_ret2
           exact ⟨by rw [HTX.out]; rfl, below_up HBB.out (HBY.out.trans hB9)⟩
theorem dig_none9 : Hx.dig [] = ⟨#[99, 98, 102, 50, 57, 99, 101, 52, 56, 52, 50, 50, 50, 51, 50, 53]⟩ := by decide +kernel
theorem awake9_is (w : World) (hDB : Hx.DB w) : Calls Tryz.prog 8 #[] w fun e w' => e = .returned (.bool true) ∧ Below w.heap.size w w' := by
 have HDG := Lib.hid (digest_is ⟨#[]⟩ (by decide) w hDB)
 rw [show Hx.dig (⟨#[]⟩ : ByteArray).data.toList = ⟨#[99, 98, 102, 50, 57, 99, 101, 52, 56, 52, 50, 50, 50, 51, 50, 53]⟩ from dig_none9] at HDG
 clear hDB
 go_enter Tryz.func8, Tryz.ntmps8
 go_wp2_with (go_at_call 22; (with_reducible refine HDG.out.mono ?_); rintro e w3 ⟨rfl, hB3⟩)
 go_ret
 exact ⟨rfl, hB3⟩
theorem St.readE_text {s : Sto} (r : St.Right s) : St.readE (St.text s) = (0, s) := by
 have h := St.text_len r
 unfold St.readE
 rw [if_neg (by omega), St.read_text r]
 simp only
 rw [if_pos (St.err_iff.2 r)]
theorem storeCarried_walk (s : Sto) (a : StA) (w : World) (hI : StIn w s a) (ht : Tx.Tab w) (hDB : Hx.DB w) (hm : Mx w) :
  Calls Tryz.prog 4 #[.agg #[.int .i64 s.least, .int .i64 s.wait, .slice a.ta s.tiers.length a.tc, .slice a.fa s.files.length a.fc, .slice a.ca s.copies.length a.cc, .slice a.ha s.held.length a.hc, .slice a.ba s.bin.length a.bc]] w fun e w' => e = .returned (.bool true) ∧ Below w.heap.size w w' := by
 obtain ⟨W1, hW1, hX1, hz1, hB1⟩ := box w #[.int .i64 s.least, .int .i64 s.wait, .slice a.ta s.tiers.length a.tc, .slice a.fa s.files.length a.fc, .slice a.ca s.copies.length a.cc, .slice a.ha s.held.length a.hc, .slice a.ba s.bin.length a.bc] 28
 have HW1 := Lib.hid hW1; have HB1 := Lib.hid hB1
 have HIA := Lib.hid (hI.keep hB1)
 have HAW := Lib.hid (awake9_is W1 (Hx.db_below hDB hB1))
 have HX1 := Lib.hid hX1
 have HT1 := Lib.hid (Tx.tab_below ht hB1)
 have HM1 := Lib.hid (hm.below hB1)
 obtain ⟨q0, q1, q2, q3, q4, q5, q6⟩ := hX1.seven
 clear hW1 hX1 hz1 hB1 hI hDB ht hm
 by_cases he : St.err s = 0
 ·have r := St.err_iff.1 he
  have HTX := Lib.hid (fun V (hv : Below W1.heap.size W1 V) => text_ok s a V (HIA.out.keep hv) he (Tx.tab_below HT1.out hv))
  have HRS := Lib.hid (fun V (hv : Below W1.heap.size W1 V) => readS_is (St.text s) V (HM1.out.below hv) (by have := St.text_len r; omega))
  rw [St.readE_text r] at HRS
  unfold ReadPost at HRS
  have HSA := Lib.hid (fun V b (h1 : StIn V s a) (h2 : StIn V s b) => sameP_any s s a b V h1 h2 true (by simp))
  generalize Tx.mk (St.text s) = TT at *
  clear he r
  go_enter Tryz.func4, Tryz.ntmps4
  go_upto_region 1 with fail
  rw [HW1.out]
  go_upto_region 7 with (first
   | (go_at_call 8; (with_reducible refine HAW.out.mono ?_); rintro e w2 ⟨rfl, hv⟩; obtain ⟨q0, q1, q2, q3, q4, q5, q6⟩ := (HX1.out.keep hv).seven)
   | (go_at_call 9; (with_reducible refine (HTX.out _ hv).mono ?_); rintro e w3 ⟨rfl, hq3⟩; have hv := below_up hv hq3)
   | (go_at_call 5; (with_reducible refine (HRS.out _ hv).mono ?_); rintro e w4 ⟨b, rfl, hb, hB4⟩)
   | (refine wpList_store_row rfl 28 _ _ rfl w4.heap.size #[.int .i64 s.least, .int .i64 s.wait, .slice b.ta s.tiers.length b.tc, .slice b.fa s.files.length b.fc, .slice b.ca s.copies.length b.cc, .slice b.ha s.held.length b.hc, .slice b.ba s.bin.length b.bc] rfl rfl 28 #[.int .i64 0, .int .i64 0, .slice none 0 0, .slice none 0 0, .slice none 0 0, .slice none 0 0, .slice none 0 0] (heap_alloc_new w4 _) infoSto rfl (by simp [Value.oneCell']) ?_))
  obtain ⟨X, hX, hXB, hXz, hXW⟩ := fillNw w4 #[.int .i64 0, .int .i64 0, .slice none 0 0, .slice none 0 0, .slice none 0 0, .slice none 0 0, .slice none 0 0] #[.int .i64 s.least, .int .i64 s.wait, .slice b.ta s.tiers.length b.tc, .slice b.fa s.files.length b.fc, .slice b.ca s.copies.length b.cc, .slice b.ha s.held.length b.hc, .slice b.ba s.bin.length b.bc] 28
  rw [hX]
  have hvX := below_up hv (below_up hB4 hXW)
  have HBZ := Lib.hid (below_up HB1.out hvX)
  have HBX := Lib.hid (hb.keep hXW)
  have HAX := Lib.hid (HIA.out.keep hvX)
  obtain ⟨t0, t1, t2, t3, t4, t5, t6⟩ := hXB.seven
  clear q0 q1 q2 q3 q4 q5 q6
  obtain ⟨q0, q1, q2, q3, q4, q5, q6⟩ := (HX1.out.keep hvX).seven
  clear hX hXB hXz hXW hb hB4 hvX
  go_wp2_with (go_at_call 10; (with_reducible refine (HSA.out _ b HAX.out HBX.out).mono ?_); rintro e w8 ⟨rfl, hq⟩)
  go_ret
  exact ⟨rfl, below_up HBZ.out hq⟩
 ·have HTX := Lib.hid (fun V (hv : Below W1.heap.size W1 V) => text_err s a V (HIA.out.keep hv) he)
  have hq1 : (St.err s != 0) = true := by simpa using he
  generalize St.err s = q at *
  clear he
  go_enter Tryz.func4, Tryz.ntmps4
  go_upto_region 1 with fail
  rw [HW1.out]
  go_wp2_with (first
   | (go_at_call 8; (with_reducible refine HAW.out.mono ?_); rintro e w2 ⟨rfl, hv⟩; obtain ⟨q0, q1, q2, q3, q4, q5, q6⟩ := (HX1.out.keep hv).seven)
   | (go_at_call 9; (with_reducible refine (HTX.out _ hv).mono ?_); rintro e w3 ⟨rfl, hq3⟩; have hv := below_up hv hq3))
  go_ret
  exact ⟨rfl, below_up HB1.out hv⟩
end Go.Proofs.YtbbgebpgpadclaaGreatDoor
namespace Go.Proofs.YtbbgebpgpadclaaGreatDoor
open Go.ChangeShapes Go.WideShapes Go.ChangeAt Go.RowKit Go.Joins Go.Deep
section
variable {H : Type} {enc : TypeId × Value → H} {w : World} {base : Nat} {spare : Nat → Bool} {held : Bool}
theorem addr_addR (b off n : Nat) : (⟨b, off, none⟩ : Addr).add n = ⟨b, off + n, none⟩ := by unfold Addr.add; split <;> simp_all
theorem open_rowE {α : Type} (E : Enc α) (hk : 0 < E.k) (Q : α → Prop) {t e : TypeId} (ht : Tryz.prog.underlying t = some (.slice e)) (hc : Tryz.prog.cellsOf e = E.k)
  (he : ∀ n cs y, DataW.trod enc Tryz.prog w base spare held n e cs = some y → ∃ x, cs = E.cells x ∧ Q x) {v : Value} {n : Nat} {y : DataW H × List MemPlace} (hf : DataW.trod enc Tryz.prog w base spare held n t [v] = some y) :
  ∃ (a : Option Addr) (cap : Nat) (L : List α), v = .slice a L.length cap ∧ L.length ≤ cap ∧ cap ≤ 9223372036854775807 ∧ RowE E w a L ∧ ∀ x ∈ L, Q x := by
 rcases open_slice ht hf with ⟨hcs, _⟩ | ⟨x, len, cap, m, n, D, Pl, hcs, _, hl, hm, hmm, _, hx⟩
 ·simp at hcs
  subst hcs
  exact ⟨none, 0, [], rfl, by simp, by omega, RowE.nil _ _ _, fun x h => by cases h⟩
 ·simp at hcs
  subst hcs
  have hlm : len ≤ m := by rw [hmm]; split <;> omega
  have each : ∀ i, i < m → ∃ z : α, Q z ∧ ∀ (k : Nat) (u : Value), (E.cells z)[k]? = some u → w.cell? (x.add (i * E.k + k)) = some u := by
   intro i hi
   obtain ⟨cs', h1, h2⟩ := hx i hi
   rw [hc] at h1
   obtain ⟨_, hlen, hcell⟩ := World.cells?_some h1
   obtain ⟨z, hz, hq⟩ := he _ _ _ h2
   refine ⟨z, hq, fun k u hu => ?_⟩
   rw [← hz] at hu
   have hkk : k < E.k := by have := (List.getElem?_eq_some_iff.1 hu).1; omega
   have := hcell k (by omega)
   rw [Addr.add_add] at this
   rw [this, hu]
  by_cases h0 : len = 0
  ·subst h0
   exact ⟨some x, cap, [], rfl, by simp, by unfold maxLen at hm; omega, RowE.nil _ _ _, fun x h => by cases h⟩
  ·obtain ⟨z0, _⟩ := each 0 (by omega)
   obtain ⟨Z, hZ⟩ : ∃ Z : Nat → α, ∀ i, i < m → Q (Z i) ∧ ∀ (k : Nat) (u : Value), (E.cells (Z i))[k]? = some u → w.cell? (x.add (i * E.k + k)) = some u :=
    ⟨fun i => if h : i < m then Classical.choose (each i h) else z0, fun i hi => by simp only [dif_pos hi]; exact Classical.choose_spec (each i hi)⟩
   have hlen : ((List.range len).map Z).length = len := by simp
   refine ⟨some x, cap, (List.range len).map Z, by rw [hlen], by rw [hlen]; exact hl, by unfold maxLen at hm; omega, fun _ => ?_, fun u hu => ?_⟩
   ·obtain ⟨b, off, spot⟩ := x
    obtain ⟨u0, hu0⟩ : ∃ u, (E.cells (Z 0))[0]? = some u := ⟨_, List.getElem?_eq_getElem (by rw [E.len]; exact hk)⟩
    have hc0 := (hZ 0 (by omega)).2 0 u0 hu0
    have hspot : spot = none := by simpa [Addr.add] using World.cell?_spot hc0
    subst hspot
    refine ⟨b, off, rfl, by simpa [Addr.add] using World.block_lt_of_cell? w _ hc0, fun i z hz k u hu => ?_⟩
    have hi : i < len := by have := (List.getElem?_eq_some_iff.1 hz).1; omega
    rw [List.getElem?_map, List.getElem?_range hi] at hz
    obtain rfl : Z i = z := Option.some.inj hz
    have := (hZ i (by omega)).2 k u hu
    rw [addr_addR] at this
    rw [Nat.add_assoc]; exact this
   ·obtain ⟨i, hi, rfl⟩ := List.mem_map.1 hu
    exact (hZ i (by have := List.mem_range.1 hi; omega)).1
end
end Go.Proofs.YtbbgebpgpadclaaGreatDoor
namespace Go.Proofs.YtbbgebpgpadclaaGreatDoor
open Go.ChangeShapes Go.WideShapes Go.ChangeAt Go.RowKit Go.Joins Go.Deep
set_option maxRecDepth 100000
section
variable {H : Type} {enc : TypeId × Value → H} {w : World} {base : Nat} {spare : Nat → Bool} {held : Bool}
theorem some_atS {α : Type} {xs : List α} {n k : Nat} (h : xs.length = n) (hk : k < n) : ∃ y, xs[k]? = some y := ⟨_, List.getElem?_eq_getElem (by omega)⟩
theorem cellsTier : Tryz.prog.cellsOf 65 = 4 := by kernel_rfl
theorem open_tier {cs : List Value} {fuel : Nat} {y : DataW H × List MemPlace} (hf : DataW.trod enc Tryz.prog w base spare held fuel 65 cs = some y) : ∃ x : Tir, cs = St.eT.cells x ∧ (x.name.size ≤ 9223372036854775807) := by
 obtain ⟨xs, n, _, _, hl, hlen, hg⟩ := DataW.trod_struct Tryz.underlying65 hf
 have hlen : xs.length = 4 := hlen
 rw [cellsTier] at hl
 obtain ⟨c0, c1, c2, c3, rfl⟩ : ∃ c0 c1 c2 c3, cs = [c0, c1, c2, c3] := by match cs, hl with | [c0, c1, c2, c3], _ => exact ⟨c0, c1, c2, c3, rfl⟩
 obtain ⟨y0, e0⟩ := some_atS hlen (show 0 < 4 by omega)
 obtain ⟨y1, e1⟩ := some_atS hlen (show 1 < 4 by omega)
 obtain ⟨y2, e2⟩ := some_atS hlen (show 2 < 4 by omega)
 obtain ⟨y3, e3⟩ := some_atS hlen (show 3 < 4 by omega)
 have g0 : DataW.trod enc Tryz.prog w base spare held n 9 [c0] = some y0 := (hg 0 _ rfl).trans e0
 have g1 : DataW.trod enc Tryz.prog w base spare held n 3 [c1] = some y1 := (hg 1 _ rfl).trans e1
 have g2 : DataW.trod enc Tryz.prog w base spare held n 3 [c2] = some y2 := (hg 2 _ rfl).trans e2
 have g3 : DataW.trod enc Tryz.prog w base spare held n 4 [c3] = some y3 := (hg 3 _ rfl).trans e3
 clear hg hf
 obtain ⟨v0, q0, _, s0⟩ := DataW.trod_string Tryz.underlying9 g0
 obtain ⟨v1, q1, _, _⟩ := DataW.trod_int Tryz.underlying3 g1
 obtain ⟨v2, q2, _, _⟩ := DataW.trod_int Tryz.underlying3 g2
 obtain ⟨v3, q3, _⟩ := DataW.trod_bool Tryz.underlying4 g3
 simp only [List.cons.injEq, and_true] at q0 q1 q2 q3
 subst q0 q1 q2 q3
 exact ⟨⟨v0, v1, v2, v3⟩, rfl, by unfold maxLen at s0; omega⟩
theorem cellsFile : Tryz.prog.cellsOf 68 = 4 := by kernel_rfl
theorem open_file {cs : List Value} {fuel : Nat} {y : DataW H × List MemPlace} (hf : DataW.trod enc Tryz.prog w base spare held fuel 68 cs = some y) : ∃ x : Fil, cs = St.eF.cells x ∧ (x.dig.size ≤ 9223372036854775807 ∧ x.frm.size ≤ 9223372036854775807) := by
 obtain ⟨xs, n, _, _, hl, hlen, hg⟩ := DataW.trod_struct Tryz.underlying68 hf
 have hlen : xs.length = 4 := hlen
 rw [cellsFile] at hl
 obtain ⟨c0, c1, c2, c3, rfl⟩ : ∃ c0 c1 c2 c3, cs = [c0, c1, c2, c3] := by match cs, hl with | [c0, c1, c2, c3], _ => exact ⟨c0, c1, c2, c3, rfl⟩
 obtain ⟨y0, e0⟩ := some_atS hlen (show 0 < 4 by omega)
 obtain ⟨y1, e1⟩ := some_atS hlen (show 1 < 4 by omega)
 obtain ⟨y2, e2⟩ := some_atS hlen (show 2 < 4 by omega)
 obtain ⟨y3, e3⟩ := some_atS hlen (show 3 < 4 by omega)
 have g0 : DataW.trod enc Tryz.prog w base spare held n 9 [c0] = some y0 := (hg 0 _ rfl).trans e0
 have g1 : DataW.trod enc Tryz.prog w base spare held n 3 [c1] = some y1 := (hg 1 _ rfl).trans e1
 have g2 : DataW.trod enc Tryz.prog w base spare held n 3 [c2] = some y2 := (hg 2 _ rfl).trans e2
 have g3 : DataW.trod enc Tryz.prog w base spare held n 9 [c3] = some y3 := (hg 3 _ rfl).trans e3
 clear hg hf
 obtain ⟨v0, q0, _, s0⟩ := DataW.trod_string Tryz.underlying9 g0
 obtain ⟨v1, q1, _, _⟩ := DataW.trod_int Tryz.underlying3 g1
 obtain ⟨v2, q2, _, _⟩ := DataW.trod_int Tryz.underlying3 g2
 obtain ⟨v3, q3, _, s3⟩ := DataW.trod_string Tryz.underlying9 g3
 simp only [List.cons.injEq, and_true] at q0 q1 q2 q3
 subst q0 q1 q2 q3
 exact ⟨⟨v0, v1, v2, v3⟩, rfl, ⟨by unfold maxLen at s0; omega, by unfold maxLen at s3; omega⟩⟩
theorem cellsCopy : Tryz.prog.cellsOf 70 = 4 := by kernel_rfl
theorem open_copy {cs : List Value} {fuel : Nat} {y : DataW H × List MemPlace} (hf : DataW.trod enc Tryz.prog w base spare held fuel 70 cs = some y) : ∃ x : Cop, cs = St.eC.cells x ∧ (x.dig.size ≤ 9223372036854775807 ∧ x.tier.size ≤ 9223372036854775807) := by
 obtain ⟨xs, n, _, _, hl, hlen, hg⟩ := DataW.trod_struct Tryz.underlying70 hf
 have hlen : xs.length = 4 := hlen
 rw [cellsCopy] at hl
 obtain ⟨c0, c1, c2, c3, rfl⟩ : ∃ c0 c1 c2 c3, cs = [c0, c1, c2, c3] := by match cs, hl with | [c0, c1, c2, c3], _ => exact ⟨c0, c1, c2, c3, rfl⟩
 obtain ⟨y0, e0⟩ := some_atS hlen (show 0 < 4 by omega)
 obtain ⟨y1, e1⟩ := some_atS hlen (show 1 < 4 by omega)
 obtain ⟨y2, e2⟩ := some_atS hlen (show 2 < 4 by omega)
 obtain ⟨y3, e3⟩ := some_atS hlen (show 3 < 4 by omega)
 have g0 : DataW.trod enc Tryz.prog w base spare held n 9 [c0] = some y0 := (hg 0 _ rfl).trans e0
 have g1 : DataW.trod enc Tryz.prog w base spare held n 9 [c1] = some y1 := (hg 1 _ rfl).trans e1
 have g2 : DataW.trod enc Tryz.prog w base spare held n 4 [c2] = some y2 := (hg 2 _ rfl).trans e2
 have g3 : DataW.trod enc Tryz.prog w base spare held n 3 [c3] = some y3 := (hg 3 _ rfl).trans e3
 clear hg hf
 obtain ⟨v0, q0, _, s0⟩ := DataW.trod_string Tryz.underlying9 g0
 obtain ⟨v1, q1, _, s1⟩ := DataW.trod_string Tryz.underlying9 g1
 obtain ⟨v2, q2, _⟩ := DataW.trod_bool Tryz.underlying4 g2
 obtain ⟨v3, q3, _, _⟩ := DataW.trod_int Tryz.underlying3 g3
 simp only [List.cons.injEq, and_true] at q0 q1 q2 q3
 subst q0 q1 q2 q3
 exact ⟨⟨v0, v1, v2, v3⟩, rfl, ⟨by unfold maxLen at s0; omega, by unfold maxLen at s1; omega⟩⟩
theorem cellsGone : Tryz.prog.cellsOf 72 = 2 := by kernel_rfl
theorem open_gone {cs : List Value} {fuel : Nat} {y : DataW H × List MemPlace} (hf : DataW.trod enc Tryz.prog w base spare held fuel 72 cs = some y) : ∃ x : Gon, cs = St.eG.cells x ∧ (x.dig.size ≤ 9223372036854775807) := by
 obtain ⟨xs, n, _, _, hl, hlen, hg⟩ := DataW.trod_struct Tryz.underlying72 hf
 have hlen : xs.length = 2 := hlen
 rw [cellsGone] at hl
 obtain ⟨c0, c1, rfl⟩ : ∃ c0 c1, cs = [c0, c1] := by match cs, hl with | [c0, c1], _ => exact ⟨c0, c1, rfl⟩
 obtain ⟨y0, e0⟩ := some_atS hlen (show 0 < 2 by omega)
 obtain ⟨y1, e1⟩ := some_atS hlen (show 1 < 2 by omega)
 have g0 : DataW.trod enc Tryz.prog w base spare held n 9 [c0] = some y0 := (hg 0 _ rfl).trans e0
 have g1 : DataW.trod enc Tryz.prog w base spare held n 3 [c1] = some y1 := (hg 1 _ rfl).trans e1
 clear hg hf
 obtain ⟨v0, q0, _, s0⟩ := DataW.trod_string Tryz.underlying9 g0
 obtain ⟨v1, q1, _, _⟩ := DataW.trod_int Tryz.underlying3 g1
 simp only [List.cons.injEq, and_true] at q0 q1
 subst q0 q1
 exact ⟨⟨v0, v1⟩, rfl, by unfold maxLen at s0; omega⟩
theorem cellsStr : Tryz.prog.cellsOf 9 = 1 := by kernel_rfl
theorem open_strE {cs : List Value} {fuel : Nat} {y : DataW H × List MemPlace} (hf : DataW.trod enc Tryz.prog w base spare held fuel 9 cs = some y) : ∃ x : ByteArray, cs = St.eS.cells x ∧ x.size ≤ 9223372036854775807 := by
 obtain ⟨v, q, _, s⟩ := DataW.trod_string Tryz.underlying9 hf
 exact ⟨v, q, by unfold maxLen at s; omega⟩
theorem cellsStore : Tryz.prog.cellsOf 28 = 7 := by kernel_rfl
theorem open_store_cells {cs : List Value} {fuel : Nat} {y : DataW H × List MemPlace} (hf : DataW.trod enc Tryz.prog w base spare held fuel 28 cs = some y) : ∃ (s : Sto) (a : StA), cs = [.int .i64 s.least, .int .i64 s.wait, .slice a.ta s.tiers.length a.tc, .slice a.fa s.files.length a.fc, .slice a.ca s.copies.length a.cc, .slice a.ha s.held.length a.hc, .slice a.ba s.bin.length a.bc] ∧ StIn w s a := by
 obtain ⟨xs, n, _, _, hl, hlen, hg⟩ := DataW.trod_struct Tryz.underlying28 hf
 have hlen : xs.length = 7 := hlen
 rw [cellsStore] at hl
 obtain ⟨c0, c1, c2, c3, c4, c5, c6, rfl⟩ : ∃ c0 c1 c2 c3 c4 c5 c6, cs = [c0, c1, c2, c3, c4, c5, c6] := by match cs, hl with | [c0, c1, c2, c3, c4, c5, c6], _ => exact ⟨c0, c1, c2, c3, c4, c5, c6, rfl⟩
 obtain ⟨y0, e0⟩ := some_atS hlen (show 0 < 7 by omega)
 obtain ⟨y1, e1⟩ := some_atS hlen (show 1 < 7 by omega)
 obtain ⟨y2, e2⟩ := some_atS hlen (show 2 < 7 by omega)
 obtain ⟨y3, e3⟩ := some_atS hlen (show 3 < 7 by omega)
 obtain ⟨y4, e4⟩ := some_atS hlen (show 4 < 7 by omega)
 obtain ⟨y5, e5⟩ := some_atS hlen (show 5 < 7 by omega)
 obtain ⟨y6, e6⟩ := some_atS hlen (show 6 < 7 by omega)
 have g0 : DataW.trod enc Tryz.prog w base spare held n 3 [c0] = some y0 := (hg 0 _ rfl).trans e0
 have g1 : DataW.trod enc Tryz.prog w base spare held n 3 [c1] = some y1 := (hg 1 _ rfl).trans e1
 have g2 : DataW.trod enc Tryz.prog w base spare held n 22 [c2] = some y2 := (hg 2 _ rfl).trans e2
 have g3 : DataW.trod enc Tryz.prog w base spare held n 23 [c3] = some y3 := (hg 3 _ rfl).trans e3
 have g4 : DataW.trod enc Tryz.prog w base spare held n 24 [c4] = some y4 := (hg 4 _ rfl).trans e4
 have g5 : DataW.trod enc Tryz.prog w base spare held n 25 [c5] = some y5 := (hg 5 _ rfl).trans e5
 have g6 : DataW.trod enc Tryz.prog w base spare held n 26 [c6] = some y6 := (hg 6 _ rfl).trans e6
 clear hg hf
 obtain ⟨least, q0, _, _⟩ := DataW.trod_int Tryz.underlying3 g0
 obtain ⟨wait, q1, _, _⟩ := DataW.trod_int Tryz.underlying3 g1
 simp only [List.cons.injEq, and_true] at q0 q1
 subst q0 q1
 obtain ⟨a2, k2, L2, rfl, l2, m2, r2, z2⟩ := open_rowE St.eT (by decide) _ Tryz.underlying22 cellsTier (fun _ _ _ h => open_tier h) g2
 obtain ⟨a3, k3, L3, rfl, l3, m3, r3, z3⟩ := open_rowE St.eF (by decide) _ Tryz.underlying23 cellsFile (fun _ _ _ h => open_file h) g3
 obtain ⟨a4, k4, L4, rfl, l4, m4, r4, z4⟩ := open_rowE St.eC (by decide) _ Tryz.underlying24 cellsCopy (fun _ _ _ h => open_copy h) g4
 obtain ⟨a5, k5, L5, rfl, l5, m5, r5, z5⟩ := open_rowE St.eS (by decide) _ Tryz.underlying25 cellsStr (fun _ _ _ h => open_strE h) g5
 obtain ⟨a6, k6, L6, rfl, l6, m6, r6, z6⟩ := open_rowE St.eG (by decide) _ Tryz.underlying26 cellsGone (fun _ _ _ h => open_gone h) g6
 exact ⟨⟨least, wait, L2, L3, L4, L5, L6⟩, ⟨a2, k2, a3, k3, a4, k4, a5, k5, a6, k6⟩, rfl, ⟨r2, r3, r4, r5, r6, ⟨l2, m2⟩, ⟨l3, m3⟩, ⟨l4, m4⟩, ⟨l5, m5⟩, ⟨l6, m6⟩, z2, z3, z4, z5, z6⟩⟩
theorem open_store {r : Reach} {b0 : Nat} {v : Value} {d : DataW H} {p : List MemPlace} (hv : Value.okWide Tryz.prog w r b0 28 v) (h : DataW.Trod enc Tryz.prog w base spare held 28 v d p) :
  ∃ (s : Sto) (a : StA), v = .agg #[.int .i64 s.least, .int .i64 s.wait, .slice a.ta s.tiers.length a.tc, .slice a.fa s.files.length a.fc, .slice a.ca s.copies.length a.cc, .slice a.ha s.held.length a.hc, .slice a.ba s.bin.length a.bc] ∧ StIn w s a := by
 obtain ⟨cs, rfl, hsz⟩ := okWide_struct Tryz.underlying28 hv
 obtain ⟨fuel, hf⟩ := h
 have hf : DataW.trod enc Tryz.prog w base spare held fuel 28 cs.toList = some (d, p) := by simpa [Value.cells] using hf
 obtain ⟨s, a, hq, hI⟩ := open_store_cells hf
 refine ⟨s, a, ?_, hI⟩
 rw [← hq]
end
end Go.Proofs.YtbbgebpgpadclaaGreatDoor
