/- Parts of the proof, no condition: StFetR. -/
import Derived.Test.YthdiccdnggloiaaDoorRk9
import Derived.Test.YthdiccdnggloiaaDoorRk10
set_option maxRecDepth 100000
set_option maxHeartbeats 16000000
set_option linter.unusedSimpArgs false
set_option linter.unusedVariables false
namespace Go.Proofs.YthdiccdnggloiaaDoor
open Go.RowKit Go.Sort Go.Shelf Go.Maps
theorem filOf_is (s : Sto) (a : StA) (d : ByteArray) (w : World) (hI : StIn w s a) (y : Fil) (hy : y = St.filD s.files d) (b : Bool) (hb : b = (St.fileOf s.files d).isSome) :
  Calls Tryd.prog 30 #[.agg #[.int .i64 s.least, .int .i64 s.wait, .slice a.ta s.tiers.length a.tc, .slice a.fa s.files.length a.fc, .slice a.ca s.copies.length a.cc, .slice a.ha s.held.length a.hc, .slice a.ba s.bin.length a.bc], .string d] w fun e w' => e = .returned (.tuple #[.agg #[.string y.dig, .int .i64 y.size, .int .i64 y.kind, .string y.frm], .bool b]) ∧ Below w.heap.size w w' := by
 subst hy hb
 exact fileOf_is s a d w hI
theorem fetched_right (s : Sto) (a : StA) (d : ByteArray) (now : Int) (w : World) (hI : StIn w s a) (r : St.Right s) :
  Calls Tryd.prog 9 #[.agg #[.int .i64 s.least, .int .i64 s.wait, .slice a.ta s.tiers.length a.tc, .slice a.fa s.files.length a.fc, .slice a.ca s.copies.length a.cc, .slice a.ha s.held.length a.hc, .slice a.ba s.bin.length a.bc], .string d, .int .i64 now] w fun e w' => (St.fetE s d now ≠ 0 ∧ FetErr w (St.fetE s d now) e w') ∨ (St.fetE s d now = 0 ∧ FetOk w (St.fetS s d now) (St.fetT s d) e w') := by
 obtain ⟨W1, hW1, hP, hz1, hB1⟩ := box w #[.int .i64 s.least, .int .i64 s.wait, .slice a.ta s.tiers.length a.tc, .slice a.fa s.files.length a.fc, .slice a.ca s.copies.length a.cc, .slice a.ha s.held.length a.hc, .slice a.ba s.bin.length a.bc] 28
 obtain ⟨W2, hW2, hQ, hz2, hB2⟩ := box W1 #[.int .i64 0, .int .i64 0, .slice none 0 0, .slice none 0 0, .slice none 0 0, .slice none 0 0, .slice none 0 0] 28
 have HW1 := Lib.hid hW1; have HW2 := Lib.hid hW2
 have hP := hP.keep hB2
 rw [hz1] at hQ
 have HBB := Lib.hid (below_up hB1 hB2)
 have HQ := Lib.hid hQ
 have HI2 := Lib.hid (hI.keep HBB.out)
 obtain ⟨q0, q1, q2, q3, q4, q5, q6⟩ := hP.seven
 have HP := Lib.hid hP
 have hs2 : w.heap.size + 2 ≤ W2.heap.size := by omega
 obtain ⟨_, y1, y2, y3, y4, y5⟩ := St.sizes_iff.1 r.sizes
 obtain ⟨y, hy⟩ : ∃ y, y = St.filD s.files d := ⟨_, rfl⟩
 obtain ⟨ok, hok⟩ : ∃ ok, ok = (St.fileOf s.files d).isSome := ⟨_, rfl⟩
 have HFO := Lib.hid (filOf_is s a d W2 HI2.out y hy ok hok)
 have HMO := Lib.hid (fun V => momentS_is now V)
 have HTW := Lib.hid (fun V (hv : Below W2.heap.size W2 V) => twin_is s a V (HI2.out.keep hv) ⟨y1, y2, y3, y4, y5⟩)
 unfold CpyPost at HTW
 have HSN := Lib.hid (fun V (hv : Below W2.heap.size W2 V) h0 => source_none s a d V (HI2.out.keep hv) y1 y3 h0)
 have HSS := Lib.hid (fun V (hv : Below W2.heap.size W2 V) h0 => source_some s a d V (HI2.out.keep hv) y1 y3 h0)
 have HGO := Lib.hid (fun V (hv : Below W2.heap.size W2 V) x => goodOf_is s a x V (HI2.out.keep hv) y1 y3)
 unfold TirPost at HGO
 have HCO := Lib.hid (fun V (b : StA) (hb : StIn V s b) t => copyOf_is s b d t V hb)
 have HSZ := Lib.hid hI.sz
 have HCL : Hid (∀ V, Below W2.heap.size W2 V → V.cell? ⟨w.heap.size, 0, none⟩ = some (.int .i64 s.least) ∧ V.cell? ⟨w.heap.size, 1, none⟩ = some (.int .i64 s.wait) ∧ V.cell? ⟨w.heap.size, 2, none⟩ = some (.slice a.ta s.tiers.length a.tc) ∧ V.cell? ⟨w.heap.size, 3, none⟩ = some (.slice a.fa s.files.length a.fc) ∧ V.cell? ⟨w.heap.size, 4, none⟩ = some (.slice a.ca s.copies.length a.cc) ∧ V.cell? ⟨w.heap.size, 5, none⟩ = some (.slice a.ha s.held.length a.hc) ∧ V.cell? ⟨w.heap.size, 6, none⟩ = some (.slice a.ba s.bin.length a.bc)) := Lib.hid fun V hv => (HP.out.keep hv).seven
 have hFE : Hid (St.fetE s d now = match St.fileOf s.files d with | none => 7 | some f => if St.isMom now = true then (if (St.goodL s d).length = 0 then (if f.kind = 3 ∧ 0 < (St.goodL s f.frm).length then 0 else 11) else 0) else 2) := Lib.hid rfl
 clear hI hW1 hW2 hP hQ hz1 hz2 hB1 hB2
 go_enter Tryd.func9, Tryd.ntmps9
 go_upto_region 1 with fail
 rw [HW1.out, HW2.out]
 have HOK := Lib.hid hok; have HY := Lib.hid hy
 clear hok hy
 go_upto_region 2 with (go_at_call 30; (with_reducible refine HFO.out.mono ?_); rintro e w3 ⟨rfl, hB3⟩)
 obtain ⟨W7, hW7, hX7, hz7, hB7⟩ := box w3 #[.string y.dig, .int .i64 y.size, .int .i64 y.kind, .string y.frm] 47
 have HW7 := Lib.hid hW7
 obtain ⟨u0, u1, u2, u3⟩ := hX7.four
 have HX7 := Lib.hid hX7
 have HV7 := Lib.hid (below_up hB3 hB7)
 rw [HW7.out]
 clear hW7 hX7 hz7 hB7 q0 q1 q2 q3 q4 q5 q6
 have hQ7 := HQ.out.keep HV7.out
 have hB07 := below_up HBB.out HV7.out
 obtain ⟨q0, q1, q2, q3, q4, q5, q6⟩ := HCL.out _ HV7.out
 cases hf : St.fileOf s.files d with
 | none =>
   have HE : Hid (St.fetE s d now = 7) := Lib.hid (by rw [hFE.out, hf])
   have hok0 : ok = false := by rw [HOK.out, hf]; rfl
   clear HOK
   subst hok0
   go_upto_region 3 with fail
   go_wp2_with (refine wpList_store_row rfl 28 _ _ rfl (w.heap.size + 1) #[.int .i64 0, .int .i64 0, .slice none 0 0, .slice none 0 0, .slice none 0 0, .slice none 0 0, .slice none 0 0] rfl rfl 28 _ hQ7 infoSto rfl (by simp [Value.oneCell']) ?_)
   obtain ⟨g0, g1, g2, g3, g4, g5, g6⟩ := (Blk.setRowAt hQ7 #[.int .i64 0, .int .i64 0, .slice none 0 0, .slice none 0 0, .slice none 0 0, .slice none 0 0, .slice none 0 0]).seven
   refine bodyPost_ret (v := .tuple #[.agg #[.int .i64 0, .int .i64 0, .slice none 0 0, .slice none 0 0, .slice none 0 0, .slice none 0 0, .slice none 0 0], .string ⟨#[]⟩, .int .i64 7]) (by simp [results, Tryd.results9, go_sem, g0, g1, g2, g3, g4, g5, g6]) rfl ?_
   rw [HE.out]
   exact .inl ⟨by decide, rfl, below_setRow hB07 (by omega) _⟩
 | some f =>
   have hE : Hid (St.fetE s d now = if St.isMom now = true then (if (St.goodL s d).length = 0 then (if f.kind = 3 ∧ 0 < (St.goodL s f.frm).length then 0 else 11) else 0) else 2) := Lib.hid (by rw [hFE.out, hf])
   have hyf : y = f := HY.out.trans (by unfold St.filD; rw [hf]; rfl)
   have hok1 : ok = true := by rw [HOK.out, hf]; rfl
   have h16 := St.file16 r hf
   have HFI := Lib.hid (HY.out.symm.trans hyf)
   clear HY hFE HFO HOK
   subst hyf hok1
   obtain ⟨mo, hmo⟩ : ∃ mo, St.isMom now = mo := ⟨_, rfl⟩
   rw [hmo] at HMO hE
   cases mo with
   | false =>
     have HE : Hid (St.fetE s d now = 2) := Lib.hid (by rw [hE.out]; rfl)
     clear hmo hE
     go_upto_region 5 with (go_at_call 32; (with_reducible refine (HMO.out _).mono ?_); rintro e wm ⟨rfl, rfl⟩)
     go_wp2_with (refine wpList_store_row rfl 28 _ _ rfl (w.heap.size + 1) #[.int .i64 0, .int .i64 0, .slice none 0 0, .slice none 0 0, .slice none 0 0, .slice none 0 0, .slice none 0 0] rfl rfl 28 _ hQ7 infoSto rfl (by simp [Value.oneCell']) ?_)
     obtain ⟨g0, g1, g2, g3, g4, g5, g6⟩ := (Blk.setRowAt hQ7 #[.int .i64 0, .int .i64 0, .slice none 0 0, .slice none 0 0, .slice none 0 0, .slice none 0 0, .slice none 0 0]).seven
     refine bodyPost_ret (v := .tuple #[.agg #[.int .i64 0, .int .i64 0, .slice none 0 0, .slice none 0 0, .slice none 0 0, .slice none 0 0, .slice none 0 0], .string ⟨#[]⟩, .int .i64 2]) (by simp [results, Tryd.results9, go_sem, g0, g1, g2, g3, g4, g5, g6]) rfl ?_
     rw [HE.out]
     exact .inl ⟨by decide, rfl, below_setRow hB07 (by omega) _⟩
   | true =>
     have hE2 : Hid (St.fetE s d now = if (St.goodL s d).length = 0 then (if y.kind = 3 ∧ 0 < (St.goodL s y.frm).length then 0 else 11) else 0) := Lib.hid (by rw [hE.out]; rfl)
     clear hmo hE
     have HUC : Hid (∀ V, Below W7.heap.size W7 V → V.cell? ⟨w3.heap.size, 0, none⟩ = some (.string y.dig) ∧ V.cell? ⟨w3.heap.size, 1, none⟩ = some (.int .i64 y.size) ∧ V.cell? ⟨w3.heap.size, 2, none⟩ = some (.int .i64 y.kind) ∧ V.cell? ⟨w3.heap.size, 3, none⟩ = some (.string y.frm)) := Lib.hid fun V hv => (HX7.out.keep hv).four
     have HQ7 := Lib.hid hQ7
     have HB07 := Lib.hid hB07
     have HFS : Hid (St.fetS s d now = if (St.goodL s d).length = 0 then s else St.askd s (St.pos St.ckey (St.key d (St.fetTier s d)) s.copies) now) := Lib.hid rfl
     have HFT : Hid (St.fetT s d = if (St.goodL s d).length = 0 then y.frm else St.fetTier s d) := Lib.hid (by unfold St.fetT; rw [HFI.out])
     have hs27 : W2.heap.size ≤ w3.heap.size := hB3.size
     clear hQ7 hB07
     by_cases hn0 : (St.goodL s d).length = 0
     ·have HSC := Lib.hid (HSN.out _ HV7.out hn0)
      have hE3 := hE2.out
      rw [if_pos hn0] at hE3
      have hFS := HFS.out
      rw [if_pos hn0] at hFS
      have hFT := HFT.out
      rw [if_pos hn0] at hFT
      have HFS2 := Lib.hid hFS; have HFT2 := Lib.hid hFT; have HE3 := Lib.hid hE3
      clear hE3 hFS hFT hn0 HFS HFT hE2 HSS HSN
      by_cases hk : y.kind = 3
      ·have hkb : (y.kind == 3) = true := by simpa using hk
       have HGG := Lib.hid (fun V hv => HGO.out V hv y.frm)
       obtain ⟨m, hm⟩ : ∃ m, (St.goodL s y.frm).length = m := ⟨_, rfl⟩
       rw [hm] at HGG HE3
       clear hm
       by_cases hm0 : 0 < m
       ·have HE : Hid (St.fetE s d now = 0) := Lib.hid (by rw [HE3.out, if_pos ⟨hk, hm0⟩])
        have hkc := hk
        clear hk
        generalize y.kind = kd at *
        subst hkc
        go_upto_region 13 with (first
         | (go_at_call 32; (with_reducible refine (HMO.out _).mono ?_); rintro e wm ⟨rfl, rfl⟩)
         | (go_at_call 36; (with_reducible refine HSC.out.mono ?_); rintro e w8 ⟨rfl, hB8⟩; obtain ⟨q0, q1, q2, q3, q4, q5, q6⟩ := HCL.out _ (below_up HV7.out hB8); obtain ⟨u0, u1, u2, u3⟩ := HUC.out _ hB8)
         | (go_at_call 39; (with_reducible refine (HGG.out _ (below_up HV7.out hB8)).mono ?_); rintro e w9 ⟨g9, cap9, rfl, ho9, hB9⟩))
        have hv9 := below_up hB8 hB9
        have hvd := hv9.drew
        have HTC := Lib.hid (HTW.out _ (below_up HV7.out hvd))
        clear q0 q1 q2 q3 q4 q5 q6 u0 u1 u2 u3
        obtain ⟨d0, d1, d2, d3, d4, d5, d6⟩ := HCL.out _ (below_up HV7.out hvd)
        have f3 := (HUC.out _ hvd).2.2.2
        go_region_held3 (fun w' => w'.cell? ⟨w.heap.size, 0, none⟩ = some (.int .i64 s.least) ∧ w'.cell? ⟨w.heap.size, 1, none⟩ = some (.int .i64 s.wait) ∧ w'.cell? ⟨w.heap.size, 2, none⟩ = some (.slice a.ta s.tiers.length a.tc) ∧ w'.cell? ⟨w.heap.size, 3, none⟩ = some (.slice a.fa s.files.length a.fc) ∧ w'.cell? ⟨w.heap.size, 4, none⟩ = some (.slice a.ca s.copies.length a.cc) ∧ w'.cell? ⟨w.heap.size, 5, none⟩ = some (.slice a.ha s.held.length a.hc) ∧ w'.cell? ⟨w.heap.size, 6, none⟩ = some (.slice a.ba s.bin.length a.bc) ∧ w'.cell? ⟨w3.heap.size, 3, none⟩ = some (.string y.frm))
         (first | (with_reducible exact ⟨d0, d1, d2, d3, d4, d5, d6, f3⟩) | go_keep)
         (first
          | (go_at_call 37; (with_reducible refine HTC.out.mono ?_); rintro e wt ⟨b, rfl, hOwn, hBt⟩; have hvt := below_up hvd hBt; obtain ⟨d0, d1, d2, d3, d4, d5, d6⟩ := HCL.out _ (below_up HV7.out hvt); have f3 := (HUC.out _ hvt).2.2.2; obtain ⟨z0, z1, z2, z3, z4, z5, z6⟩ := (HQ7.out.keep hvt).seven; have zf := (HQ7.out.keep hvt).free; have n5 : ¬ w3.heap.size = w.heap.size + 1 := (by omega); have n6 : ¬ w.heap.size + 1 = w3.heap.size := (by omega); have n7 := Ne.symm n5)
          | fail)
        have hQd := HQ7.out.keep hvt
        have hBd := below_up HB07.out hvt
        have hOd := hOwn
        have hltB : w.heap.size + 1 < (w9.drew).heap.size := by have := hv9.size; have := HV7.out.size; show w.heap.size + 1 < w9.heap.size; omega
        have hZ := (((((((hQd.set 0 (.int .i64 s.least)).set 1 (.int .i64 s.wait)).set 2 (.slice b.ta s.tiers.length b.tc)).set 3 (.slice b.fa s.files.length b.fc)).set 4 (.slice b.ca s.copies.length b.cc)).set 5 (.slice b.ha s.held.length b.hc)).set 6 (.slice b.ba s.bin.length b.bc))
        have hBz := (((((((hBd.setCell (p := ⟨w.heap.size + 1, 0, none⟩) (by simp) (.int .i64 s.least)).setCell (p := ⟨w.heap.size + 1, 1, none⟩) (by simp) (.int .i64 s.wait)).setCell (p := ⟨w.heap.size + 1, 2, none⟩) (by simp) (.slice b.ta s.tiers.length b.tc)).setCell (p := ⟨w.heap.size + 1, 3, none⟩) (by simp) (.slice b.fa s.files.length b.fc)).setCell (p := ⟨w.heap.size + 1, 4, none⟩) (by simp) (.slice b.ca s.copies.length b.cc)).setCell (p := ⟨w.heap.size + 1, 5, none⟩) (by simp) (.slice b.ha s.held.length b.hc)).setCell (p := ⟨w.heap.size + 1, 6, none⟩) (by simp) (.slice b.ba s.bin.length b.bc))
        have o1 := (((((((hOd.ti.next (i := 0) (b := w.heap.size + 1) (u := .int .i64 s.least) (Below.refl _ _) hltB).next (i := 1) (b := w.heap.size + 1) (u := .int .i64 s.wait) (Below.refl _ _) hltB).next (i := 2) (b := w.heap.size + 1) (u := .slice b.ta s.tiers.length b.tc) (Below.refl _ _) hltB).next (i := 3) (b := w.heap.size + 1) (u := .slice b.fa s.files.length b.fc) (Below.refl _ _) hltB).next (i := 4) (b := w.heap.size + 1) (u := .slice b.ca s.copies.length b.cc) (Below.refl _ _) hltB).next (i := 5) (b := w.heap.size + 1) (u := .slice b.ha s.held.length b.hc) (Below.refl _ _) hltB).next (i := 6) (b := w.heap.size + 1) (u := .slice b.ba s.bin.length b.bc) (Below.refl _ _) hltB)
        have o2 := (((((((hOd.fi.next (i := 0) (b := w.heap.size + 1) (u := .int .i64 s.least) (Below.refl _ _) hltB).next (i := 1) (b := w.heap.size + 1) (u := .int .i64 s.wait) (Below.refl _ _) hltB).next (i := 2) (b := w.heap.size + 1) (u := .slice b.ta s.tiers.length b.tc) (Below.refl _ _) hltB).next (i := 3) (b := w.heap.size + 1) (u := .slice b.fa s.files.length b.fc) (Below.refl _ _) hltB).next (i := 4) (b := w.heap.size + 1) (u := .slice b.ca s.copies.length b.cc) (Below.refl _ _) hltB).next (i := 5) (b := w.heap.size + 1) (u := .slice b.ha s.held.length b.hc) (Below.refl _ _) hltB).next (i := 6) (b := w.heap.size + 1) (u := .slice b.ba s.bin.length b.bc) (Below.refl _ _) hltB)
        have o3 := (((((((hOd.co.next (i := 0) (b := w.heap.size + 1) (u := .int .i64 s.least) (Below.refl _ _) hltB).next (i := 1) (b := w.heap.size + 1) (u := .int .i64 s.wait) (Below.refl _ _) hltB).next (i := 2) (b := w.heap.size + 1) (u := .slice b.ta s.tiers.length b.tc) (Below.refl _ _) hltB).next (i := 3) (b := w.heap.size + 1) (u := .slice b.fa s.files.length b.fc) (Below.refl _ _) hltB).next (i := 4) (b := w.heap.size + 1) (u := .slice b.ca s.copies.length b.cc) (Below.refl _ _) hltB).next (i := 5) (b := w.heap.size + 1) (u := .slice b.ha s.held.length b.hc) (Below.refl _ _) hltB).next (i := 6) (b := w.heap.size + 1) (u := .slice b.ba s.bin.length b.bc) (Below.refl _ _) hltB)
        have o4 := (((((((hOd.he.next (i := 0) (b := w.heap.size + 1) (u := .int .i64 s.least) (Below.refl _ _) hltB).next (i := 1) (b := w.heap.size + 1) (u := .int .i64 s.wait) (Below.refl _ _) hltB).next (i := 2) (b := w.heap.size + 1) (u := .slice b.ta s.tiers.length b.tc) (Below.refl _ _) hltB).next (i := 3) (b := w.heap.size + 1) (u := .slice b.fa s.files.length b.fc) (Below.refl _ _) hltB).next (i := 4) (b := w.heap.size + 1) (u := .slice b.ca s.copies.length b.cc) (Below.refl _ _) hltB).next (i := 5) (b := w.heap.size + 1) (u := .slice b.ha s.held.length b.hc) (Below.refl _ _) hltB).next (i := 6) (b := w.heap.size + 1) (u := .slice b.ba s.bin.length b.bc) (Below.refl _ _) hltB)
        have o5 := (((((((hOd.bi.next (i := 0) (b := w.heap.size + 1) (u := .int .i64 s.least) (Below.refl _ _) hltB).next (i := 1) (b := w.heap.size + 1) (u := .int .i64 s.wait) (Below.refl _ _) hltB).next (i := 2) (b := w.heap.size + 1) (u := .slice b.ta s.tiers.length b.tc) (Below.refl _ _) hltB).next (i := 3) (b := w.heap.size + 1) (u := .slice b.fa s.files.length b.fc) (Below.refl _ _) hltB).next (i := 4) (b := w.heap.size + 1) (u := .slice b.ca s.copies.length b.cc) (Below.refl _ _) hltB).next (i := 5) (b := w.heap.size + 1) (u := .slice b.ha s.held.length b.hc) (Below.refl _ _) hltB).next (i := 6) (b := w.heap.size + 1) (u := .slice b.ba s.bin.length b.bc) (Below.refl _ _) hltB)
        obtain ⟨V, hV⟩ : ∃ V, (((((((wt.setCell ⟨w.heap.size + 1, 0, none⟩ (.int .i64 s.least)).setCell ⟨w.heap.size + 1, 1, none⟩ (.int .i64 s.wait)).setCell ⟨w.heap.size + 1, 2, none⟩ (.slice b.ta s.tiers.length b.tc)).setCell ⟨w.heap.size + 1, 3, none⟩ (.slice b.fa s.files.length b.fc)).setCell ⟨w.heap.size + 1, 4, none⟩ (.slice b.ca s.copies.length b.cc)).setCell ⟨w.heap.size + 1, 5, none⟩ (.slice b.ha s.held.length b.hc)).setCell ⟨w.heap.size + 1, 6, none⟩ (.slice b.ba s.bin.length b.bc)) = V := ⟨_, rfl⟩
        rw [hV] at hZ hBz o1 o2 o3 o4 o5 ⊢
        have hZ : Blk V (w.heap.size + 1) #[.int .i64 s.least, .int .i64 s.wait, .slice b.ta s.tiers.length b.tc, .slice b.fa s.files.length b.fc, .slice b.ca s.copies.length b.cc, .slice b.ha s.held.length b.hc, .slice b.ba s.bin.length b.bc] 28 := hZ
        obtain ⟨g0, g1, g2, g3, g4, g5, g6⟩ := hZ.seven
        clear hV
        go_wp2_with fail
        refine bodyPost_ret (v := .tuple #[.agg #[.int .i64 s.least, .int .i64 s.wait, .slice b.ta s.tiers.length b.tc, .slice b.fa s.files.length b.fc, .slice b.ca s.copies.length b.cc, .slice b.ha s.held.length b.hc, .slice b.ba s.bin.length b.bc], .string y.frm, .int .i64 0]) (by simp [results, Tryd.results9, go_sem, g0, g1, g2, g3, g4, g5, g6]) rfl ?_
        rw [HE.out, HFS2.out, HFT2.out]
        exact .inr ⟨rfl, b, rfl, StOwn.in_ ⟨o1, o2, o3, o4, o5⟩ HSZ.out, hBz⟩
       ·have HE : Hid (St.fetE s d now = 11) := Lib.hid (by rw [HE3.out, if_neg (fun h => hm0 h.2)])
        obtain rfl : m = 0 := by omega
        have hkc := hk
        clear hk
        generalize y.kind = kd at *
        subst hkc
        go_upto_region 14 with (first
         | (go_at_call 32; (with_reducible refine (HMO.out _).mono ?_); rintro e wm ⟨rfl, rfl⟩)
         | (go_at_call 36; (with_reducible refine HSC.out.mono ?_); rintro e w8 ⟨rfl, hB8⟩; obtain ⟨q0, q1, q2, q3, q4, q5, q6⟩ := HCL.out _ (below_up HV7.out hB8); obtain ⟨u0, u1, u2, u3⟩ := HUC.out _ hB8)
         | (go_at_call 39; (with_reducible refine (HGG.out _ (below_up HV7.out hB8)).mono ?_); rintro e w9 ⟨g9, cap9, rfl, ho9, hB9⟩))
        have hv9 := below_up hB8 hB9
        have hQ9 := HQ7.out.keep hv9
        have hB09 := below_up HB07.out hv9
        go_wp2_with (refine wpList_store_row rfl 28 _ _ rfl (w.heap.size + 1) #[.int .i64 0, .int .i64 0, .slice none 0 0, .slice none 0 0, .slice none 0 0, .slice none 0 0, .slice none 0 0] rfl rfl 28 _ hQ9 infoSto rfl (by simp [Value.oneCell']) ?_)
        obtain ⟨g0, g1, g2, g3, g4, g5, g6⟩ := (Blk.setRowAt hQ9 #[.int .i64 0, .int .i64 0, .slice none 0 0, .slice none 0 0, .slice none 0 0, .slice none 0 0, .slice none 0 0]).seven
        refine bodyPost_ret (v := .tuple #[.agg #[.int .i64 0, .int .i64 0, .slice none 0 0, .slice none 0 0, .slice none 0 0, .slice none 0 0, .slice none 0 0], .string ⟨#[]⟩, .int .i64 11]) (by simp [results, Tryd.results9, go_sem, g0, g1, g2, g3, g4, g5, g6]) rfl ?_
        rw [HE.out]
        exact .inl ⟨by decide, rfl, below_setRow hB09 (by omega) _⟩
      ·have hkb : (y.kind == 3) = false := by simpa using hk
       have HE : Hid (St.fetE s d now = 11) := Lib.hid (by rw [HE3.out, if_neg (fun h => hk h.1)])
       go_upto_region 14 with (first
        | (go_at_call 32; (with_reducible refine (HMO.out _).mono ?_); rintro e wm ⟨rfl, rfl⟩)
        | (go_at_call 36; (with_reducible refine HSC.out.mono ?_); rintro e w8 ⟨rfl, hB8⟩; obtain ⟨q0, q1, q2, q3, q4, q5, q6⟩ := HCL.out _ (below_up HV7.out hB8); obtain ⟨u0, u1, u2, u3⟩ := HUC.out _ hB8))
       have hQ9 := HQ7.out.keep hB8
       have hB09 := below_up HB07.out hB8
       go_wp2_with (refine wpList_store_row rfl 28 _ _ rfl (w.heap.size + 1) #[.int .i64 0, .int .i64 0, .slice none 0 0, .slice none 0 0, .slice none 0 0, .slice none 0 0, .slice none 0 0] rfl rfl 28 _ hQ9 infoSto rfl (by simp [Value.oneCell']) ?_)
       obtain ⟨g0, g1, g2, g3, g4, g5, g6⟩ := (Blk.setRowAt hQ9 #[.int .i64 0, .int .i64 0, .slice none 0 0, .slice none 0 0, .slice none 0 0, .slice none 0 0, .slice none 0 0]).seven
       refine bodyPost_ret (v := .tuple #[.agg #[.int .i64 0, .int .i64 0, .slice none 0 0, .slice none 0 0, .slice none 0 0, .slice none 0 0, .slice none 0 0], .string ⟨#[]⟩, .int .i64 11]) (by simp [results, Tryd.results9, go_sem, g0, g1, g2, g3, g4, g5, g6]) rfl ?_
       rw [HE.out]
       exact .inl ⟨by decide, rfl, below_setRow hB09 (by omega) _⟩
     ·have hnp : 0 < (St.goodL s d).length := by omega
      have HSC := Lib.hid (HSS.out _ HV7.out hnp)
      have hE3 : St.fetE s d now = 0 := by rw [hE2.out, if_neg hn0]
      have hFS : St.fetS s d now = St.askd s (St.pos St.ckey (St.key d (St.fetTier s d)) s.copies) now := by rw [HFS.out, if_neg hn0]
      have hFT : St.fetT s d = St.fetTier s d := by rw [HFT.out, if_neg hn0]
      obtain ⟨hhk, hts⟩ := St.fet_has r h16 hnp
      have HE := Lib.hid hE3; have HFS2 := Lib.hid hFS; have HFT2 := Lib.hid hFT
      have hcz := (St.copyAt_pos (t := St.fetTier s d) r h16).1 hhk
      have HSC2 : Hid (Calls Tryd.prog 36 #[.agg #[.int .i64 s.least, .int .i64 s.wait, .slice a.ta s.tiers.length a.tc, .slice a.fa s.files.length a.fc, .slice a.ca s.copies.length a.cc, .slice a.ha s.held.length a.hc, .slice a.ba s.bin.length a.bc], .string d] W7 fun e w' => e = .returned (.tuple #[.string (St.fetTier s d), .bool true]) ∧ Below W7.heap.size W7 w') := Lib.hid HSC.out
      have HCP := Lib.hid (fun V (b : StA) (hb : StIn V s b) => HCO.out V b hb (St.fetTier s d))
      obtain ⟨c, hc, hck⟩ := St.hasK_at (St.cop_up r) hhk
      have HC := Lib.hid hc
      rw [hcz] at HCP
      generalize St.fetTier s d = tn at *
      generalize St.pos St.ckey (St.key d tn) s.copies = ps at *
      have hpc := (List.getElem?_eq_some_iff.1 HC.out).1
      clear hE3 hFS hFT hcz hc hck hhk HSC HSS HSN HFS HFT hE2
      go_upto_region 9 with (first
       | (go_at_call 32; (with_reducible refine (HMO.out _).mono ?_); rintro e wm ⟨rfl, rfl⟩)
       | (go_at_call 36; (with_reducible refine HSC2.out.mono ?_); rintro e w8 ⟨rfl, hB8⟩; obtain ⟨q0, q1, q2, q3, q4, q5, q6⟩ := HCL.out _ (below_up HV7.out hB8))
       | (go_at_call 37; (with_reducible refine (HTW.out _ (below_up HV7.out hB8)).mono ?_); rintro e wt ⟨b, rfl, hOwn, hBt⟩)
       | (refine wpList_store_row rfl 28 _ _ rfl w.heap.size #[.int .i64 s.least, .int .i64 s.wait, .slice b.ta s.tiers.length b.tc, .slice b.fa s.files.length b.fc, .slice b.ca s.copies.length b.cc, .slice b.ha s.held.length b.hc, .slice b.ba s.bin.length b.bc] rfl rfl 28 _ (HP.out.keep (below_up (below_up HV7.out hB8) hBt)) infoSto rfl (by simp [Value.oneCell']) ?_))
      have hvt := below_up hB8 hBt
      have hlt8 : w.heap.size + 1 < w8.heap.size := by have := hB8.size; have := HV7.out.size; omega
      have hPv := Blk.setRowAt (HP.out.keep (below_up HV7.out hvt)) #[.int .i64 s.least, .int .i64 s.wait, .slice b.ta s.tiers.length b.tc, .slice b.fa s.files.length b.fc, .slice b.ca s.copies.length b.cc, .slice b.ha s.held.length b.hc, .slice b.ba s.bin.length b.bc]
      have hQv := (HQ7.out.keep hvt).setRowOther (b' := w.heap.size) (by omega) #[.int .i64 s.least, .int .i64 s.wait, .slice b.ta s.tiers.length b.tc, .slice b.fa s.files.length b.fc, .slice b.ca s.copies.length b.cc, .slice b.ha s.held.length b.hc, .slice b.ba s.bin.length b.bc]
      have hBv := below_setRow (below_up HB07.out hvt) (Nat.le_refl w.heap.size) #[.int .i64 s.least, .int .i64 s.wait, .slice b.ta s.tiers.length b.tc, .slice b.fa s.files.length b.fc, .slice b.ca s.copies.length b.cc, .slice b.ha s.held.length b.hc, .slice b.ba s.bin.length b.bc]
      have hOv := hOwn.setRow (b := w.heap.size) (by omega) #[.int .i64 s.least, .int .i64 s.wait, .slice b.ta s.tiers.length b.tc, .slice b.fa s.files.length b.fc, .slice b.ca s.copies.length b.cc, .slice b.ha s.held.length b.hc, .slice b.ba s.bin.length b.bc]
      obtain ⟨V, hV⟩ : ∃ V, wt.setRow w.heap.size #[.int .i64 s.least, .int .i64 s.wait, .slice b.ta s.tiers.length b.tc, .slice b.fa s.files.length b.fc, .slice b.ca s.copies.length b.cc, .slice b.ha s.held.length b.hc, .slice b.ba s.bin.length b.bc] = V := ⟨_, rfl⟩
      rw [hV] at hPv hQv hBv hOv ⊢
      clear hV q0 q1 q2 q3 q4 q5 q6 u0 u1 u2 u3 hOwn
      have HPv := Lib.hid hPv; have HQv := Lib.hid hQv; have HBv := Lib.hid hBv; have HOv := Lib.hid hOv
      obtain ⟨q0, q1, q2, q3, q4, q5, q6⟩ := hPv.seven
      have HCV := Lib.hid (HCP.out V b (hOv.in_ HSZ.out))
      have hltV := hBv.size
      clear hPv hQv hBv hOv
      go_upto_region 10 with (go_at_call 38; (with_reducible refine HCV.out.mono ?_); rintro e wc ⟨rfl, hBc⟩)
      have HAS := Lib.hid (St.askd_set HC.out now (max c.asked now) (by rw [Int.max_def]; split <;> split <;> omega))
      obtain ⟨g, hga, hgB, hgl, hgc, hgf, hown⟩ := (HOv.out.keep hBc).setCop HC.out (i := 3) (v := .int .i64 (max c.asked now)) (c' := { c with asked := max c.asked now }) (by decide) rfl
      have f0 : wc.cell? ⟨g, ps * 4 + 3, none⟩ = some (.int .i64 c.asked) := hgc
      clear q0 q1 q2 q3 q4 q5 q6 hgc
      obtain ⟨x0, x1, x2, x3, x4, x5, x6⟩ := (HPv.out.keep hBc).seven
      rw [hga] at x4
      have hq0 : (0 : Int) ≤ (ps : Int) := by omega
      have hq1 : (ps : Int) < (s.copies.length : Int) := by omega
      have hgw : ¬ g = w.heap.size := by omega
      have hgr : ¬ w.heap.size + 1 = g := by omega
      have hgw2 : ¬ w.heap.size = g := by omega
      have HOW := Lib.hid hown
      clear hown
      rw [hga]
      go_region
      have hVw := (HPv.out.keep hBc).setOther (a := ⟨g, ps * 4 + 3, none⟩) hgw2 (.int .i64 (max c.asked now))
      have hQw := (HQv.out.keep hBc).setOther (a := ⟨g, ps * 4 + 3, none⟩) hgr (.int .i64 (max c.asked now))
      have hBw := (below_up HBv.out hBc).setCell (p := ⟨g, ps * 4 + 3, none⟩) (show w.heap.size ≤ g by omega) (.int .i64 (max c.asked now))
      have hVw := hVw.drew; have hQw := hQw.drew; have hBw := hBw.drew
      have hOw := HOW.out.keep (Below.refl _ _).drew
      have hSZw := HSZ.out.askd ps now
      obtain ⟨Z, hZ⟩ : ∃ Z, (wc.setCell ⟨g, ps * 4 + 3, none⟩ (.int .i64 (max c.asked now))).drew = Z := ⟨_, rfl⟩
      rw [hZ] at hVw hQw hBw hOw ⊢
      have HOV := Lib.hid hOw
      clear hZ hOw x0 x1 x2 x3 x4 x5 x6 f0 hgf
      obtain ⟨x0, x1, x2, x3, x4, x5, x6⟩ := hVw.seven
      rw [hga] at x4
      go_wp2_with (refine wpList_store_row rfl 28 _ _ rfl (w.heap.size + 1) #[.int .i64 s.least, .int .i64 s.wait, .slice b.ta s.tiers.length b.tc, .slice b.fa s.files.length b.fc, .slice (some ⟨g, 0, none⟩) s.copies.length b.cc, .slice b.ha s.held.length b.hc, .slice b.ba s.bin.length b.bc] rfl rfl 28 _ hQw infoSto rfl (by simp [Value.oneCell']) ?_)
      obtain ⟨g0, g1, g2, g3, g4, g5, g6⟩ := (Blk.setRowAt hQw #[.int .i64 s.least, .int .i64 s.wait, .slice b.ta s.tiers.length b.tc, .slice b.fa s.files.length b.fc, .slice (some ⟨g, 0, none⟩) s.copies.length b.cc, .slice b.ha s.held.length b.hc, .slice b.ba s.bin.length b.bc]).seven
      refine bodyPost_ret (v := .tuple #[.agg #[.int .i64 s.least, .int .i64 s.wait, .slice b.ta s.tiers.length b.tc, .slice b.fa s.files.length b.fc, .slice (some ⟨g, 0, none⟩) s.copies.length b.cc, .slice b.ha s.held.length b.hc, .slice b.ba s.bin.length b.bc], .string tn, .int .i64 0]) (by simp [results, Tryd.results9, go_sem, g0, g1, g2, g3, g4, g5, g6]) rfl ?_
      rw [HE.out, HFS2.out, HFT2.out]
      have hOZ := HOV.out.setRow (b := w.heap.size + 1) (by omega) #[.int .i64 s.least, .int .i64 s.wait, .slice b.ta s.tiers.length b.tc, .slice b.fa s.files.length b.fc, .slice (some ⟨g, 0, none⟩) s.copies.length b.cc, .slice b.ha s.held.length b.hc, .slice b.ba s.bin.length b.bc]
      rw [HAS.out] at hSZw ⊢
      refine .inr ⟨rfl, b, ?_, hOZ.in_ hSZw, below_setRow hBw (by omega) _⟩
      rw [hga]
      simp only [List.length_set]
end Go.Proofs.YthdiccdnggloiaaDoor
