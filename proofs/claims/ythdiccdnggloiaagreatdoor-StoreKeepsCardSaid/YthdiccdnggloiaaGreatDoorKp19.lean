/- Parts of the proof, no condition: StIpW, StPlcF, StWthF. -/
import Derived.Test.YthdiccdnggloiaaGreatDoorKp17
import Derived.Test.YthdiccdnggloiaaGreatDoorKp18
import Derived.Test.YthdiccdnggloiaaGreatDoorKp6
import Derived.Test.YthdiccdnggloiaaGreatDoorKp4
import Derived.Test.YthdiccdnggloiaaGreatDoorKp7
import Derived.Test.YthdiccdnggloiaaGreatDoorKp3
import Derived.Deep.RegionHeld3
set_option maxRecDepth 100000
set_option maxHeartbeats 16000000
set_option linter.unusedSimpArgs false
set_option linter.unusedVariables false
namespace Go.Proofs.YthdiccdnggloiaaGreatDoor
open Go.RowKit Go.Sort Go.Shelf Go.Maps
namespace St
theorem imp_split (s s1 s2 s3 : Sto) (f : Fil) (tier : ByteArray) (now : Int) (h1 : s1 = { s with files := wth fdig f s.files }) (h2 : s2 = { s1 with copies := wth ckey ⟨f.dig, tier, true, askedOf s f.dig tier now⟩ s.copies }) (h3 : s3 = if f.kind = 1 then hold s2 f.dig else s2) : imp s f tier now = s3 := by
 subst h1 h2 h3
 unfold imp hold
 by_cases h : f.kind = 1
 ·simp only [if_pos h]
 ·simp only [if_neg h]
end St
theorem StSz.imp {s : Sto} {f : Fil} {tier : ByteArray} {now : Int} (z : StSz s) (r : St.Right s) (hd : f.dig.size ≤ 9223372036854775807) (hf : f.frm.size ≤ 9223372036854775807) (ht : tier.size ≤ 9223372036854775807) : StSz (St.imp s f tier now) := by
 refine ⟨z.tz, fun y hy => ?_, fun y hy => ?_, fun y hy => ?_, fun y hy => ?_⟩
 ·rcases (St.mem_wth (key := St.fdig) r.fup f y).1 hy with rfl | ⟨h, _⟩
  ·exact ⟨hd, hf⟩
  ·exact z.fz y h
 ·rcases (St.mem_wth (key := St.ckey) (St.cop_up r) _ y).1 hy with rfl | ⟨h, _⟩
  ·exact ⟨hd, ht⟩
  ·exact z.cz y h
 ·have hy : y ∈ (if f.kind = 1 then St.wth id f.dig s.held else s.held) := hy
  by_cases h : f.kind = 1
  ·rw [if_pos h] at hy
   rcases (St.mem_wth (key := id) r.hup f.dig y).1 hy with rfl | ⟨h, _⟩
   ·exact hd
   ·exact z.hz y h
  ·rw [if_neg h] at hy
   exact z.hz y hy
 ·have hy : y ∈ (if f.kind = 1 then St.wo St.gdig f.dig s.bin else s.bin) := hy
  by_cases h : f.kind = 1
  ·rw [if_pos h] at hy
   exact z.bz y ((St.mem_wo (key := St.gdig) r.bup f.dig y).1 hy).1
  ·rw [if_neg h] at hy
   exact z.bz y hy
theorem heldAgainR_any (s : Sto) (a : StA) (d : ByteArray) (B : Nat) (w : World) (hO : StOwn w B s a) (hBw : B ≤ w.heap.size) (hbu : St.Up St.gdig s.bin) (y4 : s.held.length ≤ 500) (y5 : s.bin.length ≤ 500) (hhu : St.Up id s.held) : Calls Tryz.prog 84 #[.agg #[.int .i64 s.least, .int .i64 s.wait, .slice a.ta s.tiers.length a.tc, .slice a.fa s.files.length a.fc, .slice a.ca s.copies.length a.cc, .slice a.ha s.held.length a.hc, .slice a.ba s.bin.length a.bc], .string d] w (AgainPost w B (St.hold s d)) := by
 cases h : St.hasK id s.held d with
 | false => exact heldAgainR_new s a d B w hO hBw hbu y4 y5 h
 | true => exact heldAgainR_has s a d B w hO hBw hbu y4 y5 hhu h
theorem importedR_there (s : Sto) (a : StA) (f : Fil) (hfz : f.dig.size ≤ 9223372036854775807) (tier : ByteArray) (now : Int) (w : World) (hI : StIn w s a) (hq0 : St.faultE f = 0) (hd16 : f.dig.size = 16) (hf100 : f.frm.size ≤ 9223372036854775807) (hko : f.kind = 1 ∨ St.kindOf s.files f.frm = 1) (hyo : (St.fileOf s.files f.dig).isSome = true ∧ St.filD s.files f.dig = f) (r : St.Right s) (x : Tir) (hx : x.name = tier) (kk : Nat) (hkk : s.tiers[kk]? = some x) (hka : St.tierAt s.tiers tier = (kk : Int)) (hm : St.isMom now = true) (hk : St.copyAt s f.dig tier < 0) (hfr : f.size ≤ x.room - St.used s.files tier s.copies) : Calls Tryz.prog 16 #[.agg #[.int .i64 s.least, .int .i64 s.wait, .slice a.ta s.tiers.length a.tc, .slice a.fa s.files.length a.fc, .slice a.ca s.copies.length a.cc, .slice a.ha s.held.length a.hc, .slice a.ba s.bin.length a.bc], .agg #[.string f.dig, .int .i64 f.size, .int .i64 f.kind, .string f.frm], .string tier, .int .i64 now] w (StoOk w (St.imp s f tier now)) := by
 have HTH := Lib.hid (St.imp_there r hyo.1 hyo.2)
 obtain ⟨W0, hW0, hP, hz0, hB0⟩ := box w #[.int .i64 s.least, .int .i64 s.wait, .slice a.ta s.tiers.length a.tc, .slice a.fa s.files.length a.fc, .slice a.ca s.copies.length a.cc, .slice a.ha s.held.length a.hc, .slice a.ba s.bin.length a.bc] 28
 obtain ⟨W1, hW1, hD, hz1, hB1⟩ := box W0 #[.string f.dig, .int .i64 f.size, .int .i64 f.kind, .string f.frm] 30
 obtain ⟨W2, hW2, hQ, hz2, hB2⟩ := box W1 #[.int .i64 0, .int .i64 0, .slice none 0 0, .slice none 0 0, .slice none 0 0, .slice none 0 0, .slice none 0 0] 28
 rw [hz0] at hD hz1
 rw [hz1] at hQ hz2
 have hP := (hP.keep hB1).keep hB2
 have hD := hD.keep hB2
 have hBB := below_up hB0 (below_up hB1 hB2)
 have HW0 := Lib.hid hW0; have HW1 := Lib.hid hW1; have HW2 := Lib.hid hW2; have HP := Lib.hid hP; have HD := Lib.hid hD; have HQ := Lib.hid hQ; have HBB := Lib.hid hBB; have HZ2 : Hid (W2.heap.size = w.heap.size + 3) := Lib.hid (by omega)
 have HI2 := Lib.hid (hI.keep hBB)
 obtain ⟨q0, q1, q2, q3, q4, q5, q6⟩ := hP.seven
 obtain ⟨d0, d1, d2, d3⟩ := hD.four
 have HSZ := Lib.hid hI.sz
 have HFF := Lib.hid (fun V => fileFault_is f hfz V)
 clear hI hW0 hW1 hW2 hP hD hQ hz0 hz1 hz2 hB0 hB1 hB2 hBB
 have hv : Below W2.heap.size W2 W2 := Below.refl _ _
 rw [hq0] at HFF
 obtain ⟨y, hy⟩ : ∃ y, y = St.filD s.files f.dig := ⟨_, rfl⟩
 obtain ⟨yb, hyb⟩ : ∃ yb, yb = (St.fileOf s.files f.dig).isSome := ⟨_, rfl⟩
 have HFO := Lib.hid (fun V (hv : Below W2.heap.size W2 V) => filOf_is s a f.dig V (HI2.out.keep hv) y hy yb hyb)
 have HOR := Lib.hid (fun V (hv : Below W2.heap.size W2 V) => original_is s a f.frm V (HI2.out.keep hv))
 have HTA := Lib.hid (fun V (hv : Below W2.heap.size W2 V) => tierOf_is s a tier V (HI2.out.keep hv))
 have HMO := Lib.hid (fun V => momentS_is now V)
 obtain ⟨yq, hyq⟩ := St.bool_of (y = f)
 have hne := fun W => neqF y f W yq hyq
 have hgd := guardFil
 have hkr : (((f.kind != 1)) && !(decide (St.kindOf s.files f.frm = 1))) = false := by
  rcases hko with h | h
  ·rw [h]; rfl
  ·rw [decide_eq_true h]; simp
 rw [← hy] at hyo
 rw [← hyb] at hyo
 generalize decide (St.kindOf s.files f.frm = 1) = br at *
 obtain ⟨bk, hbk⟩ : ∃ bk, (f.kind != 1) = bk := ⟨_, rfl⟩
 rw [hbk] at hkr
 clear hq0 hko hy hyb
 rw [hm] at HMO
 obtain ⟨hcw, hpb, hpa⟩ := St.imp_new_cop (now := now) r hd16 hk
 have HK0 := Lib.hid hk
 obtain ⟨_, y1, y2, y3, y4, y5⟩ := St.sizes_iff.1 r.sizes
 have HCP := Lib.hid (fun V (hv : Below W2.heap.size W2 V) => twin_is s a V (HI2.out.keep hv) ⟨y1, y2, y3, y4, y5⟩)
 unfold CpyPost at HCP
 have HLEN : Hid (StLen s) := Lib.hid ⟨y1, y2, y3, y4, y5⟩
 have HUP : Hid (St.Up St.gdig s.bin ∧ s.held.length ≤ 500 ∧ s.bin.length ≤ 500 ∧ St.Up id s.held) := Lib.hid ⟨r.bup, y4, y5, r.hup⟩
 have hd16 : f.dig.size = 16 := hd16
 have hf100 : f.frm.size ≤ 9223372036854775807 := hf100
 have HZT : Hid (StSz (St.imp s f tier now)) := Lib.hid (HSZ.out.imp r hfz hf100 (by rw [← hx]; exact HSZ.out.tz x (List.mem_of_getElem? hkk)))
 obtain ⟨t, ht⟩ : ∃ t, St.imp s f tier now = t := ⟨_, rfl⟩
 have HT := Lib.hid ht
 rw [ht] at HZT ⊢
 clear ht y1 y2 y3 y4 y5
 have hkx : St.tierAt s.tiers x.name = (kk : Int) := by rw [hx]; exact hka
 have HFI := Lib.hid (fun V (hv : Below W2.heap.size W2 V) => freeIn_is s a x kk hkk hkx V (HI2.out.keep hv) (St.szs_of (F := s.files) (fun f hf => (r.dig f hf).2)) (St.sizes_iff.1 r.sizes).2.2.2.1 (St.tier_good r (List.mem_of_getElem? hkk)).2.1)
 rw [hx] at HFI
 have HCO := Lib.hid (fun V (hv : Below W2.heap.size W2 V) => copyOf_is s a f.dig tier V (HI2.out.keep hv))
 rw [hka] at HTA
 have ht0 : ¬ ((kk : Int) < 0) := by omega
 have ht1 : decide ((kk : Int) < 0) = false := decide_eq_false ht0
 generalize x.room - St.used s.files tier s.copies = fq at *
 have hpl := St.pos_le St.ckey (St.key f.dig tier) s.copies
 generalize St.pos St.ckey (St.key f.dig tier) s.copies = p at *
 have HCW := Lib.hid hcw; have HPB := Lib.hid hpb; have HPA := Lib.hid hpa; have HPL := Lib.hid hpl
 obtain ⟨ck, hck⟩ : ∃ ck, St.copyAt s f.dig tier = ck := ⟨_, rfl⟩
 rw [hck] at HCO hk
 have hk1 : decide (ck < 0) = true := decide_eq_true hk
 have hf0 : ¬ (fq < f.size) := by omega
 have hf1 : decide (fq < f.size) = false := decide_eq_false hf0
 clear r hx hkk hka hkx hm hck hcw hpb hpa hpl hd16 hf100
 obtain ⟨rfl, hyo⟩ := hyo
 obtain rfl : yq = true := hyq.2 hyo
 clear hyq hyo
 cases bk
 ·have hke : (f.kind == 1) = true := by simpa using hbk
  go_enter Tryz.func16, Tryz.ntmps16
  go_upto_region 1 with fail
  rw [HW0.out, HW1.out, HW2.out]
  go_upto_region 5 with (first
   | (go_at_call 74; (with_reducible refine (HFF.out _).mono ?_); rintro e w6 ⟨rfl, hq⟩; have hv := below_up hv hq; obtain ⟨q0, q1, q2, q3, q4, q5, q6⟩ := (HP.out.keep hv).seven; obtain ⟨d0, d1, d2, d3⟩ := (HD.out.keep hv).four)
   | (go_at_call 76; (with_reducible refine (HFO.out _ hv).mono ?_); rintro e w7 ⟨rfl, hq⟩; have hv := below_up hv hq; obtain ⟨q0, q1, q2, q3, q4, q5, q6⟩ := (HP.out.keep hv).seven; obtain ⟨d0, d1, d2, d3⟩ := (HD.out.keep hv).four)
   | (refine wpList_store_row rfl 30 _ _ rfl w7.heap.size #[.string y.dig, .int .i64 y.size, .int .i64 y.kind, .string y.frm] rfl rfl 30 #[.string ⟨#[]⟩, .int .i64 0, .int .i64 0, .string ⟨#[]⟩] (heap_alloc_new w7 _) infoFilS rfl (by simp [Value.oneCell']) ?_))
  obtain ⟨X, hX, hXB, hXz, hXW⟩ := fillNew w7 #[.string ⟨#[]⟩, .int .i64 0, .int .i64 0, .string ⟨#[]⟩] #[.string y.dig, .int .i64 y.size, .int .i64 y.kind, .string y.frm] 30
  rw [hX]
  have hv := below_up hv hXW
  clear q0 q1 q2 q3 q4 q5 q6 d0 d1 d2 d3 hX hXz hXW
  obtain ⟨q0, q1, q2, q3, q4, q5, q6⟩ := (HP.out.keep hv).seven
  obtain ⟨d0, d1, d2, d3⟩ := (HD.out.keep hv).four
  have HXB := Lib.hid hXB
  obtain ⟨x0, x1, x2, x3⟩ := hXB.four
  clear hXB
  go_upto_region 14 with (first | (go_at_call 75; (with_reducible refine (HOR.out _ hv).mono ?_); rintro e w8 ⟨rfl, hq⟩; have hv := below_up hv hq; obtain ⟨q0, q1, q2, q3, q4, q5, q6⟩ := (HP.out.keep hv).seven; obtain ⟨d0, d1, d2, d3⟩ := (HD.out.keep hv).four; obtain ⟨x0, x1, x2, x3⟩ := (HXB.out.keep hq).four) | (go_at_call 72; (with_reducible refine (HTA.out _ hv).mono ?_); rintro e w9 ⟨rfl, hq⟩; have hv := below_up hv hq; obtain ⟨q0, q1, q2, q3, q4, q5, q6⟩ := (HP.out.keep hv).seven; obtain ⟨d0, d1, d2, d3⟩ := (HD.out.keep hv).four) | (go_at_call 78; (with_reducible refine (HMO.out _).mono ?_); rintro e w10 ⟨rfl, rfl⟩) | (go_at_call 80; (with_reducible refine (HCO.out _ hv).mono ?_); rintro e w11 ⟨rfl, hq⟩; have hv := below_up hv hq; obtain ⟨q0, q1, q2, q3, q4, q5, q6⟩ := (HP.out.keep hv).seven; obtain ⟨d0, d1, d2, d3⟩ := (HD.out.keep hv).four))
  have hv := hv.drew
  obtain ⟨q0, q1, q2, q3, q4, q5, q6⟩ := (HP.out.keep hv).seven
  obtain ⟨d0, d1, d2, d3⟩ := (HD.out.keep hv).four
  go_region_held3 (fun W => W.cell? ⟨w.heap.size, 0, none⟩ = some (.int .i64 s.least) ∧ W.cell? ⟨w.heap.size, 1, none⟩ = some (.int .i64 s.wait) ∧ W.cell? ⟨w.heap.size, 2, none⟩ = some (.slice a.ta s.tiers.length a.tc) ∧ W.cell? ⟨w.heap.size, 3, none⟩ = some (.slice a.fa s.files.length a.fc) ∧ W.cell? ⟨w.heap.size, 4, none⟩ = some (.slice a.ca s.copies.length a.cc) ∧ W.cell? ⟨w.heap.size, 5, none⟩ = some (.slice a.ha s.held.length a.hc) ∧ W.cell? ⟨w.heap.size, 6, none⟩ = some (.slice a.ba s.bin.length a.bc) ∧ W.cell? ⟨w.heap.size + 1, 1, none⟩ = some (.int .i64 f.size))
   (first | (with_reducible exact ⟨q0, q1, q2, q3, q4, q5, q6, d1⟩) | go_keep)
   (first
    | (go_at_call 36; (with_reducible refine (HFI.out _ hv).mono ?_); rintro e w12 ⟨rfl, hq⟩; have hv := below_up hv hq; obtain ⟨q0, q1, q2, q3, q4, q5, q6⟩ := (HP.out.keep hv).seven; obtain ⟨d0, d1, d2, d3⟩ := (HD.out.keep hv).four)
    | fail)
  rename_i hHeld
  clear hHeld
  go_upto_region 18 with fail
  go_upto_region 19 with (first
   | (go_at_call 81; (with_reducible refine (HCP.out _ hv).mono ?_); rintro e w8 ⟨b, rfl, hOwn, hB8⟩)
   | (refine wpList_store_row rfl 28 _ _ rfl w.heap.size #[.int .i64 s.least, .int .i64 s.wait, .slice b.ta s.tiers.length b.tc, .slice b.fa s.files.length b.fc, .slice b.ca s.copies.length b.cc, .slice b.ha s.held.length b.hc, .slice b.ba s.bin.length b.bc] rfl rfl 28 _ (HP.out.keep (below_up hv hB8)) infoSto rfl (by simp [Value.oneCell']) ?_))
  have hlt4 : w.heap.size + 2 < W2.heap.size := by have := HZ2.out; omega
  have hv8 := below_up hv hB8
  have hPv := Blk.setRowAt (HP.out.keep hv8) #[.int .i64 s.least, .int .i64 s.wait, .slice b.ta s.tiers.length b.tc, .slice b.fa s.files.length b.fc, .slice b.ca s.copies.length b.cc, .slice b.ha s.held.length b.hc, .slice b.ba s.bin.length b.bc]
  have hQv := (HQ.out.keep hv8).setRowOther (b' := w.heap.size) (by omega) #[.int .i64 s.least, .int .i64 s.wait, .slice b.ta s.tiers.length b.tc, .slice b.fa s.files.length b.fc, .slice b.ca s.copies.length b.cc, .slice b.ha s.held.length b.hc, .slice b.ba s.bin.length b.bc]
  have hDv := (HD.out.keep hv8).setRowOther (b' := w.heap.size) (by omega) #[.int .i64 s.least, .int .i64 s.wait, .slice b.ta s.tiers.length b.tc, .slice b.fa s.files.length b.fc, .slice b.ca s.copies.length b.cc, .slice b.ha s.held.length b.hc, .slice b.ba s.bin.length b.bc]
  have hBv := below_setRow (below_up HBB.out hv8) (Nat.le_refl w.heap.size) #[.int .i64 s.least, .int .i64 s.wait, .slice b.ta s.tiers.length b.tc, .slice b.fa s.files.length b.fc, .slice b.ca s.copies.length b.cc, .slice b.ha s.held.length b.hc, .slice b.ba s.bin.length b.bc]
  have hOv := (hOwn.down hv.size).setRow (b := w.heap.size) (by omega) #[.int .i64 s.least, .int .i64 s.wait, .slice b.ta s.tiers.length b.tc, .slice b.fa s.files.length b.fc, .slice b.ca s.copies.length b.cc, .slice b.ha s.held.length b.hc, .slice b.ba s.bin.length b.bc]
  have hVz : W2.heap.size ≤ (w8.setRow w.heap.size #[.int .i64 s.least, .int .i64 s.wait, .slice b.ta s.tiers.length b.tc, .slice b.fa s.files.length b.fc, .slice b.ca s.copies.length b.cc, .slice b.ha s.held.length b.hc, .slice b.ba s.bin.length b.bc]).heap.size := by have := hv8.size; simp; omega
  obtain ⟨V, hV⟩ : ∃ V, w8.setRow w.heap.size #[.int .i64 s.least, .int .i64 s.wait, .slice b.ta s.tiers.length b.tc, .slice b.fa s.files.length b.fc, .slice b.ca s.copies.length b.cc, .slice b.ha s.held.length b.hc, .slice b.ba s.bin.length b.bc] = V := ⟨_, rfl⟩
  rw [hV] at hPv hQv hDv hBv hOv hVz ⊢
  clear hV q0 q1 q2 q3 q4 q5 q6 d0 d1 d2 d3 x0 x1 x2 x3 hOwn hB8 hv8 hv
  have HLT := Lib.hid hlt4
  clear hlt4
  obtain ⟨s1, b1, hs1, hP1, hO1⟩ : ∃ (s1 : Sto) (b1 : StA), s1 = s ∧ Blk V w.heap.size #[.int .i64 s1.least, .int .i64 s1.wait, .slice b1.ta s1.tiers.length b1.tc, .slice b1.fa s1.files.length b1.fc, .slice b1.ca s1.copies.length b1.cc, .slice b1.ha s1.held.length b1.hc, .slice b1.ba s1.bin.length b1.bc] 28 ∧ StOwn V W2.heap.size s1 b1 := ⟨s, b, rfl, hPv, hOv⟩
  have HS1 : Hid (s1 = { s with files := St.wth St.fdig f s.files }) := Lib.hid (by rw [hs1, HTH.out])
  have HC1 : Hid (s1.copies = s.copies) := Lib.hid (by rw [hs1])
  have HL1 : Hid (StLen s1) := Lib.hid (by rw [hs1]; exact HLEN.out)
  have HZ1 : Hid (StSz s1) := Lib.hid (by rw [hs1]; exact HSZ.out)
  have HH1 : Hid (s1.held = s.held ∧ s1.bin = s.bin) := Lib.hid (by rw [hs1]; exact ⟨rfl, rfl⟩)
  clear hs1 hPv hOv
  have HP1 := Lib.hid hP1; have HQ1 := Lib.hid hQv; have HD1 := Lib.hid hDv; have HB1 := Lib.hid hBv; have HO1 := Lib.hid hO1; have HV1 := Lib.hid hVz
  obtain ⟨q0, q1, q2, q3, q4, q5, q6⟩ := hP1.seven
  obtain ⟨d0, d1, d2, d3⟩ := hDv.four
  clear hP1 hQv hDv hBv hO1 hVz
  obtain ⟨s2, hs2⟩ : ∃ s2 : Sto, { s1 with copies := s1.copies.take p ++ (⟨f.dig, tier, true, now⟩ : Cop) :: s1.copies.drop p } = s2 := ⟨_, rfl⟩
  have HWC := Lib.hid (fun U (hI : StIn U s1 b1) => show Calls Tryz.prog 83 #[.agg #[.int .i64 s1.least, .int .i64 s1.wait, .slice b1.ta s1.tiers.length b1.tc, .slice b1.fa s1.files.length b1.fc, .slice b1.ca s1.copies.length b1.cc, .slice b1.ha s1.held.length b1.hc, .slice b1.ba s1.bin.length b1.bc], .agg #[.string f.dig, .string tier, .bool true, .int .i64 now]] U (OwnPut U s2) from by
   rw [← hs2]
   exact withCopyR_is s1 b1 ⟨f.dig, tier, true, now⟩ p U hI HL1.out (by unfold St.copyAt; rw [HC1.out]; exact HK0.out) (by rw [HC1.out]; exact HPL.out) (by rw [HC1.out]; exact HPB.out) (by rw [HC1.out]; exact HPA.out))
  unfold OwnPut at HWC
  have HS2 : Hid (s2 = { s1 with copies := St.wth St.ckey ⟨f.dig, tier, true, St.askedOf s f.dig tier now⟩ s.copies }) := Lib.hid (by rw [← hs2, HC1.out, HCW.out])
  have HH2 : Hid (s2.held = s.held ∧ s2.bin = s.bin) := Lib.hid (by rw [← hs2]; exact HH1.out)
  have HI1 := Lib.hid (HO1.out.in_ HZ1.out)
  clear hs2
  go_upto_region 27 with (first
   | (go_at_call 83; (with_reducible refine (HWC.out _ HI1.out).mono ?_); rintro e w9 ⟨b2, rfl, hO9, hB9⟩)
   | (refine wpList_store_row rfl 28 _ _ rfl w.heap.size #[.int .i64 s2.least, .int .i64 s2.wait, .slice b2.ta s2.tiers.length b2.tc, .slice b2.fa s2.files.length b2.fc, .slice b2.ca s2.copies.length b2.cc, .slice b2.ha s2.held.length b2.hc, .slice b2.ba s2.bin.length b2.bc] rfl rfl 28 _ (HP1.out.keep hB9) infoSto rfl (by simp [Value.oneCell']) ?_))
  have hP2 := Blk.setRowAt (HP1.out.keep hB9) #[.int .i64 s2.least, .int .i64 s2.wait, .slice b2.ta s2.tiers.length b2.tc, .slice b2.fa s2.files.length b2.fc, .slice b2.ca s2.copies.length b2.cc, .slice b2.ha s2.held.length b2.hc, .slice b2.ba s2.bin.length b2.bc]
  have hQ2 := (HQ1.out.keep hB9).setRowOther (b' := w.heap.size) (by omega) #[.int .i64 s2.least, .int .i64 s2.wait, .slice b2.ta s2.tiers.length b2.tc, .slice b2.fa s2.files.length b2.fc, .slice b2.ca s2.copies.length b2.cc, .slice b2.ha s2.held.length b2.hc, .slice b2.ba s2.bin.length b2.bc]
  have hD2 := (HD1.out.keep hB9).setRowOther (b' := w.heap.size) (by omega) #[.int .i64 s2.least, .int .i64 s2.wait, .slice b2.ta s2.tiers.length b2.tc, .slice b2.fa s2.files.length b2.fc, .slice b2.ca s2.copies.length b2.cc, .slice b2.ha s2.held.length b2.hc, .slice b2.ba s2.bin.length b2.bc]
  have hB2 := below_setRow (below_up HB1.out hB9) (Nat.le_refl w.heap.size) #[.int .i64 s2.least, .int .i64 s2.wait, .slice b2.ta s2.tiers.length b2.tc, .slice b2.fa s2.files.length b2.fc, .slice b2.ca s2.copies.length b2.cc, .slice b2.ha s2.held.length b2.hc, .slice b2.ba s2.bin.length b2.bc]
  have hO2 := (hO9.down HV1.out).setRow (b := w.heap.size) (by have := HLT.out; omega) #[.int .i64 s2.least, .int .i64 s2.wait, .slice b2.ta s2.tiers.length b2.tc, .slice b2.fa s2.files.length b2.fc, .slice b2.ca s2.copies.length b2.cc, .slice b2.ha s2.held.length b2.hc, .slice b2.ba s2.bin.length b2.bc]
  have hz2 : W2.heap.size ≤ (w9.setRow w.heap.size #[.int .i64 s2.least, .int .i64 s2.wait, .slice b2.ta s2.tiers.length b2.tc, .slice b2.fa s2.files.length b2.fc, .slice b2.ca s2.copies.length b2.cc, .slice b2.ha s2.held.length b2.hc, .slice b2.ba s2.bin.length b2.bc]).heap.size := by have := hB9.size; have := HV1.out; simp; omega
  obtain ⟨V2, hV2⟩ : ∃ V2, w9.setRow w.heap.size #[.int .i64 s2.least, .int .i64 s2.wait, .slice b2.ta s2.tiers.length b2.tc, .slice b2.fa s2.files.length b2.fc, .slice b2.ca s2.copies.length b2.cc, .slice b2.ha s2.held.length b2.hc, .slice b2.ba s2.bin.length b2.bc] = V2 := ⟨_, rfl⟩
  rw [hV2] at hP2 hQ2 hD2 hB2 hO2 hz2 ⊢
  clear hV2 q0 q1 q2 q3 q4 q5 q6 d0 d1 d2 d3 hO9 hB9
  have HP2 := Lib.hid hP2; have HQ2 := Lib.hid hQ2; have HD2 := Lib.hid hD2; have HB2 := Lib.hid hB2; have HO2 := Lib.hid hO2; have HV2 := Lib.hid hz2
  obtain ⟨q0, q1, q2, q3, q4, q5, q6⟩ := hP2.seven
  obtain ⟨d0, d1, d2, d3⟩ := hD2.four
  clear hP2 hQ2 hD2 hB2 hO2 hz2
  obtain ⟨s3, hs3⟩ : ∃ s3, St.hold s2 f.dig = s3 := ⟨_, rfl⟩
  have HS3 : Hid (s3 = if f.kind = 1 then St.hold s2 f.dig else s2) := Lib.hid (by rw [if_pos (by simpa using hke), hs3])
  have HAG := Lib.hid (fun U b (hO : StOwn U W2.heap.size s2 b) (hz : W2.heap.size ≤ U.heap.size) => show Calls Tryz.prog 84 #[.agg #[.int .i64 s2.least, .int .i64 s2.wait, .slice b.ta s2.tiers.length b.tc, .slice b.fa s2.files.length b.fc, .slice b.ca s2.copies.length b.cc, .slice b.ha s2.held.length b.hc, .slice b.ba s2.bin.length b.bc], .string f.dig] U (AgainPost U W2.heap.size s3) from by
   rw [← hs3]
   exact heldAgainR_any s2 b f.dig W2.heap.size U hO hz (by rw [HH2.out.2]; exact HUP.out.1) (by rw [HH2.out.1]; exact HUP.out.2.1) (by rw [HH2.out.2]; exact HUP.out.2.2.1) (by rw [HH2.out.1]; exact HUP.out.2.2.2))
  unfold AgainPost at HAG
  clear hs3
  go_upto_region 29 with (first
   | (go_at_call 84; (with_reducible refine (HAG.out _ _ HO2.out HV2.out).mono ?_); rintro e w10 ⟨b3, rfl, hO10, hB10⟩; have hP10 := HP2.out.of_block (hB10.block _ (show w.heap.size < W2.heap.size by have := HLT.out; omega)))
   | (refine wpList_store_row rfl 28 _ _ rfl w.heap.size #[.int .i64 s3.least, .int .i64 s3.wait, .slice b3.ta s3.tiers.length b3.tc, .slice b3.fa s3.files.length b3.fc, .slice b3.ca s3.copies.length b3.cc, .slice b3.ha s3.held.length b3.hc, .slice b3.ba s3.bin.length b3.bc] rfl rfl 28 _ (hP10) infoSto rfl (by simp [Value.oneCell']) ?_))
  have hlt := HLT.out
  have hQ10 := HQ2.out.of_block (hB10.block (w.heap.size + 2) hlt)
  have HP3 := Lib.hid (Blk.setRowAt hP10 #[.int .i64 s3.least, .int .i64 s3.wait, .slice b3.ta s3.tiers.length b3.tc, .slice b3.fa s3.files.length b3.fc, .slice b3.ca s3.copies.length b3.cc, .slice b3.ha s3.held.length b3.hc, .slice b3.ba s3.bin.length b3.bc])
  have HQ3 := Lib.hid (hQ10.setRowOther (b' := w.heap.size) (by omega) #[.int .i64 s3.least, .int .i64 s3.wait, .slice b3.ta s3.tiers.length b3.tc, .slice b3.fa s3.files.length b3.fc, .slice b3.ca s3.copies.length b3.cc, .slice b3.ha s3.held.length b3.hc, .slice b3.ba s3.bin.length b3.bc])
  have HB3 := Lib.hid (below_setRow (HB2.out.trans (hB10.mono (by omega))) (Nat.le_refl w.heap.size) #[.int .i64 s3.least, .int .i64 s3.wait, .slice b3.ta s3.tiers.length b3.tc, .slice b3.fa s3.files.length b3.fc, .slice b3.ca s3.copies.length b3.cc, .slice b3.ha s3.held.length b3.hc, .slice b3.ba s3.bin.length b3.bc])
  have HO3 := Lib.hid (hO10.setRow (b := w.heap.size) (by omega) #[.int .i64 s3.least, .int .i64 s3.wait, .slice b3.ta s3.tiers.length b3.tc, .slice b3.fa s3.files.length b3.fc, .slice b3.ca s3.copies.length b3.cc, .slice b3.ha s3.held.length b3.hc, .slice b3.ba s3.bin.length b3.bc])
  obtain ⟨V3, hV3⟩ : ∃ V3, w10.setRow w.heap.size #[.int .i64 s3.least, .int .i64 s3.wait, .slice b3.ta s3.tiers.length b3.tc, .slice b3.fa s3.files.length b3.fc, .slice b3.ca s3.copies.length b3.cc, .slice b3.ha s3.held.length b3.hc, .slice b3.ba s3.bin.length b3.bc] = V3 := ⟨_, rfl⟩
  rw [hV3] at HP3 HQ3 HB3 HO3 ⊢
  clear hV3 q0 q1 q2 q3 q4 q5 q6 d0 d1 d2 d3 hO10 hB10 hP10 hQ10 hlt
  have HRE : Hid (t = s3) := Lib.hid (by rw [← HT.out]; exact St.imp_split s s1 s2 s3 f tier now HS1.out HS2.out HS3.out)
  have hlt := HLT.out
  have HIZ := Lib.hid ((HO3.out.setRow (b := w.heap.size + 2) (by omega) #[.int .i64 s3.least, .int .i64 s3.wait, .slice b3.ta s3.tiers.length b3.tc, .slice b3.fa s3.files.length b3.fc, .slice b3.ca s3.copies.length b3.cc, .slice b3.ha s3.held.length b3.hc, .slice b3.ba s3.bin.length b3.bc]).in_ (HRE.out ▸ HZT.out))
  have HBZ := Lib.hid (below_setRow HB3.out (show w.heap.size ≤ w.heap.size + 2 by omega) #[.int .i64 s3.least, .int .i64 s3.wait, .slice b3.ta s3.tiers.length b3.tc, .slice b3.fa s3.files.length b3.fc, .slice b3.ca s3.copies.length b3.cc, .slice b3.ha s3.held.length b3.hc, .slice b3.ba s3.bin.length b3.bc])
  have hQ3 := HQ3.out
  obtain ⟨y0, y1, y2, y3, y4, y5, y6⟩ := HP3.out.seven
  go_wp2_with (refine wpList_store_row rfl 28 _ _ rfl (w.heap.size + 2) #[.int .i64 s3.least, .int .i64 s3.wait, .slice b3.ta s3.tiers.length b3.tc, .slice b3.fa s3.files.length b3.fc, .slice b3.ca s3.copies.length b3.cc, .slice b3.ha s3.held.length b3.hc, .slice b3.ba s3.bin.length b3.bc] rfl rfl 28 _ hQ3 infoSto rfl (by simp [Value.oneCell']) ?_)
  obtain ⟨g0, g1, g2, g3, g4, g5, g6⟩ := (Blk.setRowAt hQ3 #[.int .i64 s3.least, .int .i64 s3.wait, .slice b3.ta s3.tiers.length b3.tc, .slice b3.fa s3.files.length b3.fc, .slice b3.ca s3.copies.length b3.cc, .slice b3.ha s3.held.length b3.hc, .slice b3.ba s3.bin.length b3.bc]).seven
  refine bodyPost_ret (v := .tuple #[.agg #[.int .i64 s3.least, .int .i64 s3.wait, .slice b3.ta s3.tiers.length b3.tc, .slice b3.fa s3.files.length b3.fc, .slice b3.ca s3.copies.length b3.cc, .slice b3.ha s3.held.length b3.hc, .slice b3.ba s3.bin.length b3.bc], .int .i64 0]) (by simp [results, Tryz.results16, go_sem, g0, g1, g2, g3, g4, g5, g6]) rfl ?_
  rw [HRE.out]
  exact ⟨_, rfl, HIZ.out, HBZ.out⟩
 ·cases br
  ·cases hkr
  ·have hke : (f.kind == 1) = false := by simpa using hbk
   go_enter Tryz.func16, Tryz.ntmps16
   go_upto_region 1 with fail
   rw [HW0.out, HW1.out, HW2.out]
   go_upto_region 5 with (first
    | (go_at_call 74; (with_reducible refine (HFF.out _).mono ?_); rintro e w6 ⟨rfl, hq⟩; have hv := below_up hv hq; obtain ⟨q0, q1, q2, q3, q4, q5, q6⟩ := (HP.out.keep hv).seven; obtain ⟨d0, d1, d2, d3⟩ := (HD.out.keep hv).four)
    | (go_at_call 76; (with_reducible refine (HFO.out _ hv).mono ?_); rintro e w7 ⟨rfl, hq⟩; have hv := below_up hv hq; obtain ⟨q0, q1, q2, q3, q4, q5, q6⟩ := (HP.out.keep hv).seven; obtain ⟨d0, d1, d2, d3⟩ := (HD.out.keep hv).four)
    | (refine wpList_store_row rfl 30 _ _ rfl w7.heap.size #[.string y.dig, .int .i64 y.size, .int .i64 y.kind, .string y.frm] rfl rfl 30 #[.string ⟨#[]⟩, .int .i64 0, .int .i64 0, .string ⟨#[]⟩] (heap_alloc_new w7 _) infoFilS rfl (by simp [Value.oneCell']) ?_))
   obtain ⟨X, hX, hXB, hXz, hXW⟩ := fillNew w7 #[.string ⟨#[]⟩, .int .i64 0, .int .i64 0, .string ⟨#[]⟩] #[.string y.dig, .int .i64 y.size, .int .i64 y.kind, .string y.frm] 30
   rw [hX]
   have hv := below_up hv hXW
   clear q0 q1 q2 q3 q4 q5 q6 d0 d1 d2 d3 hX hXz hXW
   obtain ⟨q0, q1, q2, q3, q4, q5, q6⟩ := (HP.out.keep hv).seven
   obtain ⟨d0, d1, d2, d3⟩ := (HD.out.keep hv).four
   have HXB := Lib.hid hXB
   obtain ⟨x0, x1, x2, x3⟩ := hXB.four
   clear hXB
   go_upto_region 14 with (first | (go_at_call 75; (with_reducible refine (HOR.out _ hv).mono ?_); rintro e w8 ⟨rfl, hq⟩; have hv := below_up hv hq; obtain ⟨q0, q1, q2, q3, q4, q5, q6⟩ := (HP.out.keep hv).seven; obtain ⟨d0, d1, d2, d3⟩ := (HD.out.keep hv).four; obtain ⟨x0, x1, x2, x3⟩ := (HXB.out.keep hq).four) | (go_at_call 72; (with_reducible refine (HTA.out _ hv).mono ?_); rintro e w9 ⟨rfl, hq⟩; have hv := below_up hv hq; obtain ⟨q0, q1, q2, q3, q4, q5, q6⟩ := (HP.out.keep hv).seven; obtain ⟨d0, d1, d2, d3⟩ := (HD.out.keep hv).four) | (go_at_call 78; (with_reducible refine (HMO.out _).mono ?_); rintro e w10 ⟨rfl, rfl⟩) | (go_at_call 80; (with_reducible refine (HCO.out _ hv).mono ?_); rintro e w11 ⟨rfl, hq⟩; have hv := below_up hv hq; obtain ⟨q0, q1, q2, q3, q4, q5, q6⟩ := (HP.out.keep hv).seven; obtain ⟨d0, d1, d2, d3⟩ := (HD.out.keep hv).four))
   have hv := hv.drew
   obtain ⟨q0, q1, q2, q3, q4, q5, q6⟩ := (HP.out.keep hv).seven
   obtain ⟨d0, d1, d2, d3⟩ := (HD.out.keep hv).four
   go_region_held3 (fun W => W.cell? ⟨w.heap.size, 0, none⟩ = some (.int .i64 s.least) ∧ W.cell? ⟨w.heap.size, 1, none⟩ = some (.int .i64 s.wait) ∧ W.cell? ⟨w.heap.size, 2, none⟩ = some (.slice a.ta s.tiers.length a.tc) ∧ W.cell? ⟨w.heap.size, 3, none⟩ = some (.slice a.fa s.files.length a.fc) ∧ W.cell? ⟨w.heap.size, 4, none⟩ = some (.slice a.ca s.copies.length a.cc) ∧ W.cell? ⟨w.heap.size, 5, none⟩ = some (.slice a.ha s.held.length a.hc) ∧ W.cell? ⟨w.heap.size, 6, none⟩ = some (.slice a.ba s.bin.length a.bc) ∧ W.cell? ⟨w.heap.size + 1, 1, none⟩ = some (.int .i64 f.size))
    (first | (with_reducible exact ⟨q0, q1, q2, q3, q4, q5, q6, d1⟩) | go_keep)
    (first
     | (go_at_call 36; (with_reducible refine (HFI.out _ hv).mono ?_); rintro e w12 ⟨rfl, hq⟩; have hv := below_up hv hq; obtain ⟨q0, q1, q2, q3, q4, q5, q6⟩ := (HP.out.keep hv).seven; obtain ⟨d0, d1, d2, d3⟩ := (HD.out.keep hv).four)
     | fail)
   rename_i hHeld
   clear hHeld
   go_upto_region 18 with fail
   go_upto_region 19 with (first
    | (go_at_call 81; (with_reducible refine (HCP.out _ hv).mono ?_); rintro e w8 ⟨b, rfl, hOwn, hB8⟩)
    | (refine wpList_store_row rfl 28 _ _ rfl w.heap.size #[.int .i64 s.least, .int .i64 s.wait, .slice b.ta s.tiers.length b.tc, .slice b.fa s.files.length b.fc, .slice b.ca s.copies.length b.cc, .slice b.ha s.held.length b.hc, .slice b.ba s.bin.length b.bc] rfl rfl 28 _ (HP.out.keep (below_up hv hB8)) infoSto rfl (by simp [Value.oneCell']) ?_))
   have hlt4 : w.heap.size + 2 < W2.heap.size := by have := HZ2.out; omega
   have hv8 := below_up hv hB8
   have hPv := Blk.setRowAt (HP.out.keep hv8) #[.int .i64 s.least, .int .i64 s.wait, .slice b.ta s.tiers.length b.tc, .slice b.fa s.files.length b.fc, .slice b.ca s.copies.length b.cc, .slice b.ha s.held.length b.hc, .slice b.ba s.bin.length b.bc]
   have hQv := (HQ.out.keep hv8).setRowOther (b' := w.heap.size) (by omega) #[.int .i64 s.least, .int .i64 s.wait, .slice b.ta s.tiers.length b.tc, .slice b.fa s.files.length b.fc, .slice b.ca s.copies.length b.cc, .slice b.ha s.held.length b.hc, .slice b.ba s.bin.length b.bc]
   have hDv := (HD.out.keep hv8).setRowOther (b' := w.heap.size) (by omega) #[.int .i64 s.least, .int .i64 s.wait, .slice b.ta s.tiers.length b.tc, .slice b.fa s.files.length b.fc, .slice b.ca s.copies.length b.cc, .slice b.ha s.held.length b.hc, .slice b.ba s.bin.length b.bc]
   have hBv := below_setRow (below_up HBB.out hv8) (Nat.le_refl w.heap.size) #[.int .i64 s.least, .int .i64 s.wait, .slice b.ta s.tiers.length b.tc, .slice b.fa s.files.length b.fc, .slice b.ca s.copies.length b.cc, .slice b.ha s.held.length b.hc, .slice b.ba s.bin.length b.bc]
   have hOv := (hOwn.down hv.size).setRow (b := w.heap.size) (by omega) #[.int .i64 s.least, .int .i64 s.wait, .slice b.ta s.tiers.length b.tc, .slice b.fa s.files.length b.fc, .slice b.ca s.copies.length b.cc, .slice b.ha s.held.length b.hc, .slice b.ba s.bin.length b.bc]
   have hVz : W2.heap.size ≤ (w8.setRow w.heap.size #[.int .i64 s.least, .int .i64 s.wait, .slice b.ta s.tiers.length b.tc, .slice b.fa s.files.length b.fc, .slice b.ca s.copies.length b.cc, .slice b.ha s.held.length b.hc, .slice b.ba s.bin.length b.bc]).heap.size := by have := hv8.size; simp; omega
   obtain ⟨V, hV⟩ : ∃ V, w8.setRow w.heap.size #[.int .i64 s.least, .int .i64 s.wait, .slice b.ta s.tiers.length b.tc, .slice b.fa s.files.length b.fc, .slice b.ca s.copies.length b.cc, .slice b.ha s.held.length b.hc, .slice b.ba s.bin.length b.bc] = V := ⟨_, rfl⟩
   rw [hV] at hPv hQv hDv hBv hOv hVz ⊢
   clear hV q0 q1 q2 q3 q4 q5 q6 d0 d1 d2 d3 x0 x1 x2 x3 hOwn hB8 hv8 hv
   have HLT := Lib.hid hlt4
   clear hlt4
   obtain ⟨s1, b1, hs1, hP1, hO1⟩ : ∃ (s1 : Sto) (b1 : StA), s1 = s ∧ Blk V w.heap.size #[.int .i64 s1.least, .int .i64 s1.wait, .slice b1.ta s1.tiers.length b1.tc, .slice b1.fa s1.files.length b1.fc, .slice b1.ca s1.copies.length b1.cc, .slice b1.ha s1.held.length b1.hc, .slice b1.ba s1.bin.length b1.bc] 28 ∧ StOwn V W2.heap.size s1 b1 := ⟨s, b, rfl, hPv, hOv⟩
   have HS1 : Hid (s1 = { s with files := St.wth St.fdig f s.files }) := Lib.hid (by rw [hs1, HTH.out])
   have HC1 : Hid (s1.copies = s.copies) := Lib.hid (by rw [hs1])
   have HL1 : Hid (StLen s1) := Lib.hid (by rw [hs1]; exact HLEN.out)
   have HZ1 : Hid (StSz s1) := Lib.hid (by rw [hs1]; exact HSZ.out)
   have HH1 : Hid (s1.held = s.held ∧ s1.bin = s.bin) := Lib.hid (by rw [hs1]; exact ⟨rfl, rfl⟩)
   clear hs1 hPv hOv
   have HP1 := Lib.hid hP1; have HQ1 := Lib.hid hQv; have HD1 := Lib.hid hDv; have HB1 := Lib.hid hBv; have HO1 := Lib.hid hO1; have HV1 := Lib.hid hVz
   obtain ⟨q0, q1, q2, q3, q4, q5, q6⟩ := hP1.seven
   obtain ⟨d0, d1, d2, d3⟩ := hDv.four
   clear hP1 hQv hDv hBv hO1 hVz
   obtain ⟨s2, hs2⟩ : ∃ s2 : Sto, { s1 with copies := s1.copies.take p ++ (⟨f.dig, tier, true, now⟩ : Cop) :: s1.copies.drop p } = s2 := ⟨_, rfl⟩
   have HWC := Lib.hid (fun U (hI : StIn U s1 b1) => show Calls Tryz.prog 83 #[.agg #[.int .i64 s1.least, .int .i64 s1.wait, .slice b1.ta s1.tiers.length b1.tc, .slice b1.fa s1.files.length b1.fc, .slice b1.ca s1.copies.length b1.cc, .slice b1.ha s1.held.length b1.hc, .slice b1.ba s1.bin.length b1.bc], .agg #[.string f.dig, .string tier, .bool true, .int .i64 now]] U (OwnPut U s2) from by
    rw [← hs2]
    exact withCopyR_is s1 b1 ⟨f.dig, tier, true, now⟩ p U hI HL1.out (by unfold St.copyAt; rw [HC1.out]; exact HK0.out) (by rw [HC1.out]; exact HPL.out) (by rw [HC1.out]; exact HPB.out) (by rw [HC1.out]; exact HPA.out))
   unfold OwnPut at HWC
   have HS2 : Hid (s2 = { s1 with copies := St.wth St.ckey ⟨f.dig, tier, true, St.askedOf s f.dig tier now⟩ s.copies }) := Lib.hid (by rw [← hs2, HC1.out, HCW.out])
   have HH2 : Hid (s2.held = s.held ∧ s2.bin = s.bin) := Lib.hid (by rw [← hs2]; exact HH1.out)
   have HI1 := Lib.hid (HO1.out.in_ HZ1.out)
   clear hs2
   go_upto_region 27 with (first
    | (go_at_call 83; (with_reducible refine (HWC.out _ HI1.out).mono ?_); rintro e w9 ⟨b2, rfl, hO9, hB9⟩)
    | (refine wpList_store_row rfl 28 _ _ rfl w.heap.size #[.int .i64 s2.least, .int .i64 s2.wait, .slice b2.ta s2.tiers.length b2.tc, .slice b2.fa s2.files.length b2.fc, .slice b2.ca s2.copies.length b2.cc, .slice b2.ha s2.held.length b2.hc, .slice b2.ba s2.bin.length b2.bc] rfl rfl 28 _ (HP1.out.keep hB9) infoSto rfl (by simp [Value.oneCell']) ?_))
   have hP2 := Blk.setRowAt (HP1.out.keep hB9) #[.int .i64 s2.least, .int .i64 s2.wait, .slice b2.ta s2.tiers.length b2.tc, .slice b2.fa s2.files.length b2.fc, .slice b2.ca s2.copies.length b2.cc, .slice b2.ha s2.held.length b2.hc, .slice b2.ba s2.bin.length b2.bc]
   have hQ2 := (HQ1.out.keep hB9).setRowOther (b' := w.heap.size) (by omega) #[.int .i64 s2.least, .int .i64 s2.wait, .slice b2.ta s2.tiers.length b2.tc, .slice b2.fa s2.files.length b2.fc, .slice b2.ca s2.copies.length b2.cc, .slice b2.ha s2.held.length b2.hc, .slice b2.ba s2.bin.length b2.bc]
   have hD2 := (HD1.out.keep hB9).setRowOther (b' := w.heap.size) (by omega) #[.int .i64 s2.least, .int .i64 s2.wait, .slice b2.ta s2.tiers.length b2.tc, .slice b2.fa s2.files.length b2.fc, .slice b2.ca s2.copies.length b2.cc, .slice b2.ha s2.held.length b2.hc, .slice b2.ba s2.bin.length b2.bc]
   have hB2 := below_setRow (below_up HB1.out hB9) (Nat.le_refl w.heap.size) #[.int .i64 s2.least, .int .i64 s2.wait, .slice b2.ta s2.tiers.length b2.tc, .slice b2.fa s2.files.length b2.fc, .slice b2.ca s2.copies.length b2.cc, .slice b2.ha s2.held.length b2.hc, .slice b2.ba s2.bin.length b2.bc]
   have hO2 := (hO9.down HV1.out).setRow (b := w.heap.size) (by have := HLT.out; omega) #[.int .i64 s2.least, .int .i64 s2.wait, .slice b2.ta s2.tiers.length b2.tc, .slice b2.fa s2.files.length b2.fc, .slice b2.ca s2.copies.length b2.cc, .slice b2.ha s2.held.length b2.hc, .slice b2.ba s2.bin.length b2.bc]
   have hz2 : W2.heap.size ≤ (w9.setRow w.heap.size #[.int .i64 s2.least, .int .i64 s2.wait, .slice b2.ta s2.tiers.length b2.tc, .slice b2.fa s2.files.length b2.fc, .slice b2.ca s2.copies.length b2.cc, .slice b2.ha s2.held.length b2.hc, .slice b2.ba s2.bin.length b2.bc]).heap.size := by have := hB9.size; have := HV1.out; simp; omega
   obtain ⟨V2, hV2⟩ : ∃ V2, w9.setRow w.heap.size #[.int .i64 s2.least, .int .i64 s2.wait, .slice b2.ta s2.tiers.length b2.tc, .slice b2.fa s2.files.length b2.fc, .slice b2.ca s2.copies.length b2.cc, .slice b2.ha s2.held.length b2.hc, .slice b2.ba s2.bin.length b2.bc] = V2 := ⟨_, rfl⟩
   rw [hV2] at hP2 hQ2 hD2 hB2 hO2 hz2 ⊢
   clear hV2 q0 q1 q2 q3 q4 q5 q6 d0 d1 d2 d3 hO9 hB9
   have HP2 := Lib.hid hP2; have HQ2 := Lib.hid hQ2; have HD2 := Lib.hid hD2; have HB2 := Lib.hid hB2; have HO2 := Lib.hid hO2; have HV2 := Lib.hid hz2
   obtain ⟨q0, q1, q2, q3, q4, q5, q6⟩ := hP2.seven
   obtain ⟨d0, d1, d2, d3⟩ := hD2.four
   clear hP2 hQ2 hD2 hB2 hO2 hz2
   obtain ⟨s3, b3, hs3, HP3, HO3⟩ : ∃ (s3 : Sto) (b3 : StA), s3 = s2 ∧ Hid (Blk _ w.heap.size #[.int .i64 s3.least, .int .i64 s3.wait, .slice b3.ta s3.tiers.length b3.tc, .slice b3.fa s3.files.length b3.fc, .slice b3.ca s3.copies.length b3.cc, .slice b3.ha s3.held.length b3.hc, .slice b3.ba s3.bin.length b3.bc] 28) ∧ Hid (StOwn _ W2.heap.size s3 b3) := ⟨s2, b2, rfl, HP2, HO2⟩
   have HS3 : Hid (s3 = if f.kind = 1 then St.hold s2 f.dig else s2) := Lib.hid (by rw [if_neg (by simpa using hke), hs3])
   have HQ3 := HQ2; have HB3 := HB2
   clear hs3
   go_upto_region 29 with fail
   clear q0 q1 q2 q3 q4 q5 q6 d0 d1 d2 d3
   have HRE : Hid (t = s3) := Lib.hid (by rw [← HT.out]; exact St.imp_split s s1 s2 s3 f tier now HS1.out HS2.out HS3.out)
   have hlt := HLT.out
   have HIZ := Lib.hid ((HO3.out.setRow (b := w.heap.size + 2) (by omega) #[.int .i64 s3.least, .int .i64 s3.wait, .slice b3.ta s3.tiers.length b3.tc, .slice b3.fa s3.files.length b3.fc, .slice b3.ca s3.copies.length b3.cc, .slice b3.ha s3.held.length b3.hc, .slice b3.ba s3.bin.length b3.bc]).in_ (HRE.out ▸ HZT.out))
   have HBZ := Lib.hid (below_setRow HB3.out (show w.heap.size ≤ w.heap.size + 2 by omega) #[.int .i64 s3.least, .int .i64 s3.wait, .slice b3.ta s3.tiers.length b3.tc, .slice b3.fa s3.files.length b3.fc, .slice b3.ca s3.copies.length b3.cc, .slice b3.ha s3.held.length b3.hc, .slice b3.ba s3.bin.length b3.bc])
   have hQ3 := HQ3.out
   obtain ⟨y0, y1, y2, y3, y4, y5, y6⟩ := HP3.out.seven
   go_wp2_with (refine wpList_store_row rfl 28 _ _ rfl (w.heap.size + 2) #[.int .i64 s3.least, .int .i64 s3.wait, .slice b3.ta s3.tiers.length b3.tc, .slice b3.fa s3.files.length b3.fc, .slice b3.ca s3.copies.length b3.cc, .slice b3.ha s3.held.length b3.hc, .slice b3.ba s3.bin.length b3.bc] rfl rfl 28 _ hQ3 infoSto rfl (by simp [Value.oneCell']) ?_)
   obtain ⟨g0, g1, g2, g3, g4, g5, g6⟩ := (Blk.setRowAt hQ3 #[.int .i64 s3.least, .int .i64 s3.wait, .slice b3.ta s3.tiers.length b3.tc, .slice b3.fa s3.files.length b3.fc, .slice b3.ca s3.copies.length b3.cc, .slice b3.ha s3.held.length b3.hc, .slice b3.ba s3.bin.length b3.bc]).seven
   refine bodyPost_ret (v := .tuple #[.agg #[.int .i64 s3.least, .int .i64 s3.wait, .slice b3.ta s3.tiers.length b3.tc, .slice b3.fa s3.files.length b3.fc, .slice b3.ca s3.copies.length b3.cc, .slice b3.ha s3.held.length b3.hc, .slice b3.ba s3.bin.length b3.bc], .int .i64 0]) (by simp [results, Tryz.results16, go_sem, g0, g1, g2, g3, g4, g5, g6]) rfl ?_
   rw [HRE.out]
   exact ⟨_, rfl, HIZ.out, HBZ.out⟩
theorem entersKF : ∀ args w, (callFunc 142 args).run Tryz.prog w = .ok (.enter 142 args) w := enters_of Tryz.func142 (by kernel_rfl) rfl
theorem entersPF : ∀ args w, (callFunc 190 args).run Tryz.prog w = .ok (.enter 190 args) w := enters_of Tryz.func190 (by kernel_rfl) rfl
theorem keyKF_is (x : Fil) (w : World) : Calls Tryz.prog 142 #[.agg #[.string x.dig, .int .i64 x.size, .int .i64 x.kind, .string x.frm]] w fun e w' => e = .returned (.string (St.fdig x)) ∧ Below w.heap.size w w' := by
 obtain ⟨W1, hW1, hX, hz1, hB1⟩ := box w #[.string x.dig, .int .i64 x.size, .int .i64 x.kind, .string x.frm] 30
 have HW1 := Lib.hid hW1; have HB1 := Lib.hid hB1
 have c0 : W1.cell? ⟨w.heap.size, 0, none⟩ = some (.string x.dig) := (hX.cell 0).trans rfl
 have c1 : W1.cell? ⟨w.heap.size, 1, none⟩ = some (.int .i64 x.size) := (hX.cell 1).trans rfl
 have c2 : W1.cell? ⟨w.heap.size, 2, none⟩ = some (.int .i64 x.kind) := (hX.cell 2).trans rfl
 have c3 : W1.cell? ⟨w.heap.size, 3, none⟩ = some (.string x.frm) := (hX.cell 3).trans rfl
 clear hW1 hX hz1 hB1
 go_enter Tryz.func142, Tryz.ntmps142
 go_wp2_with fail
 rw [HW1.out]
 go_wp2_with fail
 go_ret
 exact ⟨rfl, HB1.out⟩
theorem placeFK_is (x : Fil) (k : ByteArray) (a : Option Addr) (n ca bk : Nat) (t : TypeId) (w : World) (hs : Blk w bk #[.func (.func 142) #[] #[], .slice a n ca] t) :
  Calls Tryz.prog 190 #[.agg #[.string x.dig, .int .i64 x.size, .int .i64 x.kind, .string x.frm], .string k, .pointer (some ⟨bk, 0, none⟩)] w fun e w' => e = .returned (.int .i64 (St.cmpS (St.fdig x) k)) ∧ Below w.heap.size w w' := by
 obtain ⟨W1, hW1, hX, hz1, hB1⟩ := box w #[.string x.dig, .int .i64 x.size, .int .i64 x.kind, .string x.frm] 30
 have HW1 := Lib.hid hW1; have HB1 := Lib.hid hB1
 have c0 : W1.cell? ⟨w.heap.size, 0, none⟩ = some (.string x.dig) := (hX.cell 0).trans rfl
 have c1 : W1.cell? ⟨w.heap.size, 1, none⟩ = some (.int .i64 x.size) := (hX.cell 1).trans rfl
 have c2 : W1.cell? ⟨w.heap.size, 2, none⟩ = some (.int .i64 x.kind) := (hX.cell 2).trans rfl
 have c3 : W1.cell? ⟨w.heap.size, 3, none⟩ = some (.string x.frm) := (hX.cell 3).trans rfl
 have r0 : W1.cell? ⟨bk, 0, none⟩ = some (.func (.func 142) #[] #[]) := ((hs.keep hB1).cell 0).trans rfl
 have eg := entersKF
 have HK := Lib.hid (fun W => keyKF_is x W)
 have HC := Lib.hid (fun W => cmpStr_is (St.fdig x) k W)
 generalize St.fdig x = kx at *
 clear hs hW1 hX hz1 hB1
 go_enter Tryz.func190, Tryz.ntmps190
 go_upto_region 1 with fail
 rw [HW1.out]
 go_wp2_with (first | (go_at_fn 142; (with_reducible refine (HK.out _).mono ?_); rintro e w4 ⟨rfl, hB4⟩) | (go_at_call 147; (with_reducible refine (HC.out _).mono ?_); rintro e w5 ⟨rfl, rfl⟩))
 go_ret
 exact ⟨rfl, below_up HB1.out hB4⟩
theorem bsF_is (L : List Fil) (hu : St.Up St.fdig L) (h1m : L.length ≤ 1000000) (k : ByteArray) (a : Option Addr) (ca bk : Nat) (t : TypeId) (w : World) (hl : L.length ≤ ca ∧ ca ≤ 9223372036854775807) (hr : RowE St.eF w a L) (hs : Blk w bk #[.func (.func 142) #[] #[], .slice a L.length ca] t) :
  Calls Tryz.prog 189 #[.slice a L.length ca, .string k, .func (.func 190) #[] #[.pointer (some ⟨bk, 0, none⟩)]] w fun e w' => e = .returned (.tuple #[.int .i64 (St.pos St.fdig k L), .bool (St.hasK St.fdig L k)]) ∧ Below w.heap.size w w' := by
 have eg := entersPF
 have HR := Lib.hid hr; have HS := Lib.hid hs; have HU := Lib.hid hu
 obtain ⟨n, hn⟩ : ∃ n, L.length = n := ⟨_, rfl⟩
 have HN := Lib.hid hn
 have HC0 : Hid (∀ (i : Nat) (x : Fil), L[i]? = some x → ∀ V, Below w.heap.size w V → Calls Tryz.prog 190 #[.agg #[.string x.dig, .int .i64 x.size, .int .i64 x.kind, .string x.frm], .string k, .pointer (some ⟨bk, 0, none⟩)] V fun e w' => e = .returned (.int .i64 (St.cmpS (St.fdig x) k)) ∧ Below V.heap.size V w') := Lib.hid fun i x hx V hv => placeFK_is x k a L.length ca bk t V (hs.keep hv)
 rw [hn] at hl h1m ⊢
 clear hr hs hu hn
 go_enter Tryz.func189, Tryz.ntmps189
 go_wp2_with fail
 go_loopg [9, 10] n (fun g s7 s8 wr => ∃ lo hi : Nat, s7 = .int .i64 lo ∧ s8 = .int .i64 hi ∧ lo ≤ hi ∧ hi ≤ n ∧ g = 0 + (hi - lo) ∧ Below w.heap.size w wr ∧ (∀ i x, L[i]? = some x → i < lo → St.lt (St.fdig x) k = true) ∧ (∀ i x, L[i]? = some x → hi ≤ i → St.lt (St.fdig x) k = false))
 case atStart => exact ⟨0, n, rfl, rfl, Nat.zero_le _, Nat.le_refl _, by omega, Below.refl _ _, fun i x _ h => absurd h (Nat.not_lt_zero _), fun i x hx h => by have := (List.getElem?_eq_some_iff.1 hx).1; have := HN.out; omega⟩
 case round =>
  obtain ⟨lo, hi, rfl, rfl, hlh, hin, rfl, hB, h1, h2⟩ := hrel
  have I1 := Lib.hid h1; have I2 := Lib.hid h2
  clear h1 h2
  by_cases hlt : lo < hi
  ·obtain ⟨x, hx⟩ : ∃ x, L[(lo + hi) / 2]? = some x := ⟨_, List.getElem?_eq_getElem (by rw [HN.out]; omega)⟩
   obtain ⟨b, off, ha, hb, hcell⟩ := (HR.out.keep hB) (by rw [HN.out]; omega)
   have c0 : wr.cell? ⟨b, off + (lo + hi) / 2 * 4, none⟩ = some (.string x.dig) := hcell _ x hx 0 (.string x.dig) rfl
   have c1 : wr.cell? ⟨b, off + (lo + hi) / 2 * 4 + 1, none⟩ = some (.int .i64 x.size) := hcell _ x hx 1 (.int .i64 x.size) rfl
   have c2 : wr.cell? ⟨b, off + (lo + hi) / 2 * 4 + 2, none⟩ = some (.int .i64 x.kind) := hcell _ x hx 2 (.int .i64 x.kind) rfl
   have c3 : wr.cell? ⟨b, off + (lo + hi) / 2 * 4 + 3, none⟩ = some (.string x.frm) := hcell _ x hx 3 (.string x.frm) rfl
   clear hcell
   have HX := Lib.hid hx
   obtain ⟨s, hsg⟩ : ∃ s, St.cmpS (St.fdig x) k = s := ⟨_, rfl⟩
   have HC := Lib.hid (HC0.out _ x hx _ hB)
   rw [hsg] at HC
   have HSG : Hid (s < 0 ↔ St.lt (St.fdig x) k = true) := Lib.hid (by rw [← hsg]; exact St.cmpS_lt)
   rw [ha]
   have HB := Lib.hid hB
   clear hsg hx hB
   by_cases hyx : s < 0
   ·go_wp2_with (go_at_fn 190; (with_reducible refine HC.out.mono ?_); rintro e w4 ⟨rfl, hB4⟩)
    rw [← ha]
    go_roundg (hi - ((lo + hi) / 2 + 1))
    case measure => omega
    case rel =>
     refine ⟨(lo + hi) / 2 + 1, hi, by rw [show ((lo : Int) + (hi : Int)) / 2 + 1 = (((lo + hi) / 2 + 1 : Nat) : Int) by omega], rfl, by omega, hin, by omega, below_up HB.out hB4, fun i y hy hi2 => ?_, I2.out⟩
     by_cases e : i = (lo + hi) / 2
     ·subst e; rw [HX.out] at hy; obtain rfl := Option.some.inj hy; exact HSG.out.1 hyx
     ·exact St.lt_trans (HU.out.lt hy HX.out (by omega)) (HSG.out.1 hyx)
   ·go_wp2_with (go_at_fn 190; (with_reducible refine HC.out.mono ?_); rintro e w4 ⟨rfl, hB4⟩)
    rw [← ha]
    go_roundg ((lo + hi) / 2 - lo)
    case measure => omega
    case rel =>
     refine ⟨lo, (lo + hi) / 2, rfl, by rw [show ((lo : Int) + (hi : Int)) / 2 = (((lo + hi) / 2 : Nat) : Int) by omega], by omega, by omega, by omega, below_up HB.out hB4, I1.out, fun i y hy hi2 => ?_⟩
     have hxk : St.lt (St.fdig x) k = false := by
      cases h : St.lt (St.fdig x) k
      ·rfl
      ·exact absurd (HSG.out.2 h) (by omega)
     by_cases e : i = (lo + hi) / 2
     ·subst e; rw [HX.out] at hy; obtain rfl := Option.some.inj hy; exact hxk
     ·have h3 : St.lt (St.fdig x) (St.fdig y) = true := HU.out.lt HX.out hy (by omega)
      cases h : St.lt (St.fdig y) k
      ·rfl
      ·rw [St.lt_trans h3 h] at hxk; cases hxk
  ·have : hi = lo := by omega
   subst this
   have HP : Hid (St.pos St.fdig k L = hi) := Lib.hid (St.pos_is (by rw [HN.out]; exact hin) (fun i x h1 h2 => I1.out i x h1 h2) (fun x hx => I2.out hi x hx (Nat.le_refl _)))
   by_cases hnn : hi < n
   ·obtain ⟨x, hx⟩ : ∃ x, L[hi]? = some x := ⟨_, List.getElem?_eq_getElem (by rw [HN.out]; omega)⟩
    have HH : Hid (St.hasK St.fdig L k = St.eq (St.fdig x) k) := Lib.hid (by rw [St.has_pos HU.out, HP.out, hx])
    obtain ⟨b, off, ha, hb, hcell⟩ := (HR.out.keep hB) (by rw [HN.out]; omega)
    have c0 : wr.cell? ⟨b, off + hi * 4, none⟩ = some (.string x.dig) := hcell _ x hx 0 (.string x.dig) rfl
    have c1 : wr.cell? ⟨b, off + hi * 4 + 1, none⟩ = some (.int .i64 x.size) := hcell _ x hx 1 (.int .i64 x.size) rfl
    have c2 : wr.cell? ⟨b, off + hi * 4 + 2, none⟩ = some (.int .i64 x.kind) := hcell _ x hx 2 (.int .i64 x.kind) rfl
    have c3 : wr.cell? ⟨b, off + hi * 4 + 3, none⟩ = some (.string x.frm) := hcell _ x hx 3 (.string x.frm) rfl
    have HEQ : Hid ((St.cmpS (St.fdig x) k == 0) = St.eq (St.fdig x) k) := Lib.hid St.cmpS_eq
    have HC := Lib.hid (HC0.out _ x hx _ hB)
    have HV : Hid (St.hasK St.fdig L k = (St.cmpS (St.fdig x) k == 0)) := Lib.hid (HH.out.trans HEQ.out.symm)
    clear HEQ HH hcell hx
    generalize St.cmpS (St.fdig x) k = s at HC HV
    have HB := Lib.hid hB
    clear hB
    rw [ha]
    by_cases hs0 : s = 0
    ·subst hs0
     go_wp2_with (go_at_fn 190; (with_reducible refine HC.out.mono ?_); rintro e w4 ⟨rfl, hB4⟩)
     go_ret2
     exact ⟨by rw [HP.out, HV.out]; rfl, below_up HB.out hB4⟩
    ·have hs1 : (s == 0) = false := by simpa using hs0
     go_wp2_with (go_at_fn 190; (with_reducible refine HC.out.mono ?_); rintro e w4 ⟨rfl, hB4⟩)
     go_ret2
     exact ⟨by rw [HP.out, HV.out, hs1]; rfl, below_up HB.out hB4⟩
   ·obtain rfl : n = hi := by omega
    have HH : Hid (St.hasK St.fdig L k = false) := Lib.hid (by rw [St.has_pos HU.out, HP.out, List.getElem?_eq_none (by rw [HN.out]; exact Nat.le_refl _)])
    go_wp2_with fail
    go_ret2
    exact ⟨by rw [HP.out, HH.out]; rfl, hB⟩
theorem placeF_is (L : List Fil) (hu : St.Up St.fdig L) (h1m : L.length ≤ 1000000) (k : ByteArray) (a : Option Addr) (ca : Nat) (w : World) (hl : L.length ≤ ca ∧ ca ≤ 9223372036854775807) (hr : RowE St.eF w a L) :
  Calls Tryz.prog 143 #[.agg #[.func (.func 142) #[] #[], .slice a L.length ca], .string k] w fun e w' => e = .returned (.tuple #[.int .i64 (St.pos St.fdig k L), .bool (St.hasK St.fdig L k)]) ∧ Below w.heap.size w w' := by
 obtain ⟨W1, hW1, hP, hz1, hB1⟩ := box w #[.func (.func 142) #[] #[], .slice a L.length ca] 91
 have HW1 := Lib.hid hW1; have HB1 := Lib.hid hB1
 have r1 : W1.cell? ⟨w.heap.size, 1, none⟩ = some (.slice a L.length ca) := (hP.cell 1).trans rfl
 have HC := Lib.hid (bsF_is L hu h1m k a ca w.heap.size _ W1 hl (hr.keep hB1) hP)
 have hmf : ∀ (fn : Fn) (first cap : Array Value) (w : World), (Instr.makeFunc fn first cap).run Tryz.prog w = .ok (.func fn first cap) w := fun _ _ _ _ => rfl
 clear hW1 hP hz1 hB1 hr
 go_enter Tryz.func143, Tryz.ntmps143
 go_wp2_with fail
 rw [HW1.out]
 go_wp2_with (go_at_call 189; (with_reducible refine HC.out.mono ?_); rintro e w4 ⟨rfl, hB4⟩)
 go_ret2
 exact ⟨rfl, below_up HB1.out hB4⟩
theorem filesRow_is (s : Sto) (a : StA) (w : World) :
  Calls Tryz.prog 52 #[.agg #[.int .i64 s.least, .int .i64 s.wait, .slice a.ta s.tiers.length a.tc, .slice a.fa s.files.length a.fc, .slice a.ca s.copies.length a.cc, .slice a.ha s.held.length a.hc, .slice a.ba s.bin.length a.bc]] w fun e w' => e = .returned (.agg #[.func (.func 142) #[] #[], .slice a.fa s.files.length a.fc]) ∧ Below w.heap.size w w' := by
 obtain ⟨W1, hW1, hP, hz1, hB1⟩ := box w #[.int .i64 s.least, .int .i64 s.wait, .slice a.ta s.tiers.length a.tc, .slice a.fa s.files.length a.fc, .slice a.ca s.copies.length a.cc, .slice a.ha s.held.length a.hc, .slice a.ba s.bin.length a.bc] 28
 have HW1 := Lib.hid hW1; have HB1 := Lib.hid hB1
 have q5 : W1.cell? ⟨w.heap.size, 3, none⟩ = some (.slice a.fa s.files.length a.fc) := (hP.cell 3).trans rfl
 obtain ⟨W2, hW2, hX2, hz2, hB2⟩ := box W1 #[.func (.func 142) #[] #[], .slice a.fa s.files.length a.fc] 91
 have HW2 := Lib.hid hW2
 rw [hz1] at hX2
 have HX2 := Lib.hid hX2; have HBB := Lib.hid (below_up hB1 hB2)
 have hsf : ∀ (fn : Fn) (x y : Array Value) (p : Addr) (m : Mode) (W : World), (store p (.func fn x y) m).run Tryz.prog W = stored Tryz.prog W p (.func fn x y) m := fun fn x y p m W => run_store Tryz.prog W p _ m rfl
 clear hW1 hP hW2 hX2 hB1 hB2
 go_enter Tryz.func52, Tryz.ntmps52
 go_wp2_with fail
 rw [HW1.out]
 go_wp2_with fail
 rw [HW2.out]
 have g0 : W2.cell? ⟨w.heap.size + 1, 0, none⟩ = some (.func (.func 142) #[] #[]) := (HX2.out.cell 0).trans rfl
 have g1 : W2.cell? ⟨w.heap.size + 1, 1, none⟩ = some (.slice a.fa s.files.length a.fc) := (HX2.out.cell 1).trans rfl
 refine bodyPost_ret (v := .agg #[.func (.func 142) #[] #[], .slice a.fa s.files.length a.fc]) (by simp [results, Tryz.results52, go_sem, g0, g1]) rfl ⟨rfl, HBB.out⟩
theorem flat_insF (L : List Fil) (x : Fil) (p : Nat) : (St.eF.flat L).take (p * 4) ++ [.string x.dig, .int .i64 x.size, .int .i64 x.kind, .string x.frm] ++ (St.eF.flat L).drop (p * 4) = St.eF.flat (L.take p ++ x :: L.drop p) := by
 have h1 := Enc.flat_take St.eF L p
 have h2 := Enc.flat_drop St.eF L p
 have h3 : St.eF.k = 4 := rfl
 rw [h3] at h1 h2
 rw [h1, h2, Enc.flat_append, Enc.flat_cons, List.append_assoc]; rfl
theorem flat_putF (L : List Fil) (x : Fil) (p : Nat) (hp : p < L.length) : St.eF.flat (L.set p x) = (((((St.eF.flat L).set (p * 4) (.string x.dig)).set (p * 4 + 1) (.int .i64 x.size)).set (p * 4 + 2) (.int .i64 x.kind)).set (p * 4 + 3) (.string x.frm)) := by
 have h0 : L[p]? = some (L[p]'hp) := List.getElem?_eq_getElem _
 generalize (L[p]'hp) = y at h0
 have e0 : St.eF.flat ((L).set p (⟨x.dig, y.size, y.kind, y.frm⟩ : Fil)) = (St.eF.flat (L)).set (p * 4 + 0) (.string x.dig) := Enc.flat_set1 St.eF (.string x.dig) 0 (by decide) y (⟨x.dig, y.size, y.kind, y.frm⟩ : Fil) rfl _ p h0
 have e1 : St.eF.flat (((L).set p (⟨x.dig, y.size, y.kind, y.frm⟩ : Fil)).set p (⟨x.dig, x.size, y.kind, y.frm⟩ : Fil)) = (St.eF.flat ((L).set p (⟨x.dig, y.size, y.kind, y.frm⟩ : Fil))).set (p * 4 + 1) (.int .i64 x.size) := Enc.flat_set1 St.eF (.int .i64 x.size) 1 (by decide) (⟨x.dig, y.size, y.kind, y.frm⟩ : Fil) (⟨x.dig, x.size, y.kind, y.frm⟩ : Fil) rfl _ p (by rw [List.getElem?_set_self (by simpa using hp)])
 have e2 : St.eF.flat ((((L).set p (⟨x.dig, y.size, y.kind, y.frm⟩ : Fil)).set p (⟨x.dig, x.size, y.kind, y.frm⟩ : Fil)).set p (⟨x.dig, x.size, x.kind, y.frm⟩ : Fil)) = (St.eF.flat (((L).set p (⟨x.dig, y.size, y.kind, y.frm⟩ : Fil)).set p (⟨x.dig, x.size, y.kind, y.frm⟩ : Fil))).set (p * 4 + 2) (.int .i64 x.kind) := Enc.flat_set1 St.eF (.int .i64 x.kind) 2 (by decide) (⟨x.dig, x.size, y.kind, y.frm⟩ : Fil) (⟨x.dig, x.size, x.kind, y.frm⟩ : Fil) rfl _ p (by rw [List.getElem?_set_self (by simpa using hp)])
 have e3 : St.eF.flat (((((L).set p (⟨x.dig, y.size, y.kind, y.frm⟩ : Fil)).set p (⟨x.dig, x.size, y.kind, y.frm⟩ : Fil)).set p (⟨x.dig, x.size, x.kind, y.frm⟩ : Fil)).set p x) = (St.eF.flat ((((L).set p (⟨x.dig, y.size, y.kind, y.frm⟩ : Fil)).set p (⟨x.dig, x.size, y.kind, y.frm⟩ : Fil)).set p (⟨x.dig, x.size, x.kind, y.frm⟩ : Fil))).set (p * 4 + 3) (.string x.frm) := Enc.flat_set1 St.eF (.string x.frm) 3 (by decide) (⟨x.dig, x.size, x.kind, y.frm⟩ : Fil) x rfl _ p (by rw [List.getElem?_set_self (by simpa using hp)])
 simp only [List.set_set] at e0 e1 e2 e3
 rw [e3, e2, e1, e0]; rfl
theorem withF_is (L : List Fil) (hu : St.Up St.fdig L) (h1m : L.length ≤ 900000) (x : Fil) (a : Option Addr) (ca : Nat) (w : World) (hl : L.length ≤ ca ∧ ca ≤ 9223372036854775807) (hr : RowE St.eF w a L) :
  Calls Tryz.prog 53 #[.agg #[.func (.func 142) #[] #[], .slice a L.length ca], .agg #[.string x.dig, .int .i64 x.size, .int .i64 x.kind, .string x.frm]] w (ClnPost St.eF 30 w (St.wth St.fdig x L)) := by
 obtain ⟨W1, hW1, hP, hz1, hB1⟩ := box w #[.func (.func 142) #[] #[], .slice a L.length ca] 91
 obtain ⟨W2, hW2, hX, hz2, hB2⟩ := box W1 #[.string x.dig, .int .i64 x.size, .int .i64 x.kind, .string x.frm] 30
 rw [hz1] at hX
 have hP := hP.keep hB2
 have HW1 := Lib.hid hW1; have HW2 := Lib.hid hW2; have HBB := Lib.hid (below_up hB1 hB2); have HZS : Hid (w.heap.size ≤ W2.heap.size) := Lib.hid HBB.out.size
 have HCL : Hid (∀ V, Below W2.heap.size W2 V → V.cell? ⟨w.heap.size, 0, none⟩ = some (.func (.func 142) #[] #[]) ∧ V.cell? ⟨w.heap.size, 1, none⟩ = some (.slice a L.length ca) ∧ V.cell? ⟨w.heap.size + 1, 0, none⟩ = some (.string x.dig) ∧ V.cell? ⟨w.heap.size + 1, 1, none⟩ = some (.int .i64 x.size) ∧ V.cell? ⟨w.heap.size + 1, 2, none⟩ = some (.int .i64 x.kind) ∧ V.cell? ⟨w.heap.size + 1, 3, none⟩ = some (.string x.frm)) := Lib.hid fun V hv => ⟨((hP.keep hv).cell 0).trans rfl, ((hP.keep hv).cell 1).trans rfl, ((hX.keep hv).cell 0).trans rfl, ((hX.keep hv).cell 1).trans rfl, ((hX.keep hv).cell 2).trans rfl, ((hX.keep hv).cell 3).trans rfl⟩
 have HK := Lib.hid (fun V => keyKF_is x V)
 have HPL := Lib.hid (fun V (hv : Below W2.heap.size W2 V) => placeF_is L hu (by omega) (St.fdig x) a ca V hl ((hr.keep HBB.out).keep hv))
 have HCN := Lib.hid (fun V (hv : Below W2.heap.size W2 V) => clnF_is (L := L) a ca V ((hr.keep HBB.out).keep hv) (by omega))
 unfold ClnPost at HCN
 have HW : Hid (St.wth St.fdig x L = if St.hasK St.fdig L (St.fdig x) = true then L.set (St.pos St.fdig (St.fdig x) L) x else L.take (St.pos St.fdig (St.fdig x) L) ++ x :: L.drop (St.pos St.fdig (St.fdig x) L)) := Lib.hid rfl
 have hpl := St.pos_le St.fdig (St.fdig x) L
 have HPT := Lib.hid (fun h : St.hasK St.fdig L (St.fdig x) = true => St.hasK_at hu h)
 obtain ⟨p, hp⟩ : ∃ p, St.pos St.fdig (St.fdig x) L = p := ⟨_, rfl⟩
 obtain ⟨hb, hhb⟩ : ∃ hb, St.hasK St.fdig L (St.fdig x) = hb := ⟨_, rfl⟩
 rw [hp, hhb] at HPL HW HPT
 rw [hp] at hpl
 obtain ⟨n, hn⟩ : ∃ n, L.length = n := ⟨_, rfl⟩
 have HN := Lib.hid hn
 rw [hn] at hl hpl h1m HCL HPL HCN HW1 ⊢
 have eg := entersKF
 have hmf : ∀ (fn : Fn) (first cap : Array Value) (w : World), (Instr.makeFunc fn first cap).run Tryz.prog w = .ok (.func fn first cap) w := fun _ _ _ _ => rfl
 clear hr hW1 hP hz1 hB1 hu hW2 hX hz2 hB2 hp hhb hn
 go_enter Tryz.func53, Tryz.ntmps53
 go_upto_region 1 with fail
 rw [HW1.out, HW2.out]
 have hv : Below W2.heap.size W2 W2.drew := (Below.refl _ _).drew
 obtain ⟨r0, r1, x0, x1, x2, x3⟩ := HCL.out _ hv
 go_region_held3 (fun W => W.cell? ⟨w.heap.size, 0, none⟩ = some (.func (.func 142) #[] #[]) ∧ W.cell? ⟨w.heap.size, 1, none⟩ = some (.slice a n ca) ∧ W.cell? ⟨w.heap.size + 1, 0, none⟩ = some (.string x.dig) ∧ W.cell? ⟨w.heap.size + 1, 1, none⟩ = some (.int .i64 x.size) ∧ W.cell? ⟨w.heap.size + 1, 2, none⟩ = some (.int .i64 x.kind) ∧ W.cell? ⟨w.heap.size + 1, 3, none⟩ = some (.string x.frm))
  (first | (with_reducible exact ⟨r0, r1, x0, x1, x2, x3⟩) | go_keep)
  (first
   | (go_at_fn 142; (with_reducible refine (HK.out _).mono ?_); rintro e wq ⟨rfl, hq⟩; have hv := below_up hv hq; obtain ⟨r0, r1, x0, x1, x2, x3⟩ := HCL.out _ hv)
   | (go_at_call 143; (with_reducible refine (HPL.out _ hv).mono ?_); rintro e wp ⟨rfl, hq⟩; have hv := below_up hv hq; obtain ⟨r0, r1, x0, x1, x2, x3⟩ := HCL.out _ hv)
   | fail)
 have hp0 : (0 : Int) ≤ (p : Int) := by omega
 cases hb
 ·have hW := HW.out
  rw [if_neg (by decide)] at hW
  have HWL : Hid (St.wth St.fdig x L = L.take p ++ x :: L.drop p) := Lib.hid hW
  have HWN : Hid ((L.take p ++ x :: L.drop p).length = n + 1) := Lib.hid (by rw [List.length_append, List.length_cons, List.length_take, List.length_drop, HN.out]; omega)
  clear hW
  go_upto_region 6 with fail
  have hvB := (below_allocs hv (.cells #[.string x.dig, .int .i64 x.size, .int .i64 x.kind, .string x.frm] 30)).drew
  have HNB := Lib.hid (Blk.new wp #[.string x.dig, .int .i64 x.size, .int .i64 x.kind, .string x.frm] 30).drew
  have hsB : (wp.alloc (.cells #[.string x.dig, .int .i64 x.size, .int .i64 x.kind, .string x.frm] 30)).drew.heap.size = wp.heap.size + 1 := by simp
  have hv := hv.drew
  clear r0 r1 x0 x1 x2 x3
  obtain ⟨r0, r1, x0, x1, x2, x3⟩ := HCL.out _ hv
  have hvs := hv.size
  go_region_held3 (fun W => W.cell? ⟨w.heap.size, 0, none⟩ = some (.func (.func 142) #[] #[]) ∧ W.cell? ⟨w.heap.size, 1, none⟩ = some (.slice a n ca) ∧ W.cell? ⟨w.heap.size + 1, 0, none⟩ = some (.string x.dig) ∧ W.cell? ⟨w.heap.size + 1, 1, none⟩ = some (.int .i64 x.size) ∧ W.cell? ⟨w.heap.size + 1, 2, none⟩ = some (.int .i64 x.kind) ∧ W.cell? ⟨w.heap.size + 1, 3, none⟩ = some (.string x.frm))
   (first | (with_reducible exact ⟨r0, r1, x0, x1, x2, x3⟩) | go_keep)
   (first
    | (go_at_call 137; (with_reducible refine (HCN.out _ hv).mono ?_); rintro e w4 ⟨g4, c4, rfl, ho4, hq⟩; have hs4 := hv.size; have HO4 : Hid (OwnV w4 w.heap.size 30 4 (.slice g4 n c4) n (St.eF.flat L)) := Lib.hid (ho4.down (Nat.le_trans HZS.out hs4)); have hv := below_up hv hq; obtain ⟨r0, r1, x0, x1, x2, x3⟩ := HCL.out _ hv; have HV4 := Lib.hid hv; have HINS := Lib.hid (fun V (hb : Below w4.heap.size w4 V) (bv : Nat) (hbv : V.heap[bv]? = some (.cells #[.string x.dig, .int .i64 x.size, .int .i64 x.kind, .string x.frm] 30 (0, 0))) (hge : w4.heap.size ≤ bv) => fl_ins w.heap.size n p (.slice g4 n c4) (St.eF.flat L) [.string x.dig, .int .i64 x.size, .int .i64 x.kind, .string x.frm] V (HO4.out.keep hb) (by have := HZS.out; have := HV4.out.size; have := hb.size; omega) hpl (by omega) (Enc.flat_one St.eF L) bv _ _ hbv (fun e => by have := (HO4.out.lt bv e).2; omega) rfl rfl (by simp [Value.oneCell'])); rw [flat_insF] at HINS; have HO2 : Hid (OwnV w4 W2.heap.size 30 4 (.slice g4 n c4) n (St.eF.flat L)) := Lib.hid (ho4.down hs4); clear ho4 hq)
    | (go_at_call 137; (with_reducible refine (HCN.out _ hvB).mono ?_); rintro e w4 ⟨g4, c4, rfl, ho4, hq⟩; have hs4 := hvB.size; have HO4 : Hid (OwnV w4 w.heap.size 30 4 (.slice g4 n c4) n (St.eF.flat L)) := Lib.hid (ho4.down (Nat.le_trans HZS.out hs4)); have HO2 : Hid (OwnV w4 W2.heap.size 30 4 (.slice g4 n c4) n (St.eF.flat L)) := Lib.hid (ho4.down hs4); have hv := below_up hvB hq; obtain ⟨r0, r1, x0, x1, x2, x3⟩ := HCL.out _ hv; have HV4 := Lib.hid hv; have HINB := Lib.hid (fl_ins w.heap.size n p (.slice g4 n c4) (St.eF.flat L) [.string x.dig, .int .i64 x.size, .int .i64 x.kind, .string x.frm] w4 HO4.out (by have := HZS.out; have := HV4.out.size; omega) hpl (by omega) (Enc.flat_one St.eF L) wp.heap.size _ _ (HNB.out.keep hq) (fun e => by have := (ho4.lt wp.heap.size e).1; omega) rfl rfl (by simp [Value.oneCell'])); rw [flat_insF] at HINB; clear ho4 hq)
    | (go_at_call 82; (with_reducible refine (HINS.out _ (below_allocs (Below.refl _ _) _) _ (heap_alloc_new _ _) (Nat.le_refl _)).mono ?_); rintro e w8 ⟨g8, c8, rfl, hc8, hg8, hn8⟩; have HC8 := Lib.hid hc8; have l1 : n + 1 ≤ c8 := (by obtain ⟨_, _, _, h, _⟩ := HC8.out; exact h); have l2 : c8 ≤ 9223372036854775807 := (by obtain ⟨_, _, _, _, h, _⟩ := HC8.out; exact h); have HF := Lib.hid (below_ownI (below_allocs (below_up HBB.out HV4.out) (.cells #[.string x.dig, .int .i64 x.size, .int .i64 x.kind, .string x.frm] 30)) (HO4.out.keep (below_allocs (Below.refl _ w4) (.cells #[.string x.dig, .int .i64 x.size, .int .i64 x.kind, .string x.frm] 30))) hg8 (by have := HZS.out; have := HV4.out.size; simp; omega)); have hv := below_ownI (below_allocs HV4.out (.cells #[.string x.dig, .int .i64 x.size, .int .i64 x.kind, .string x.frm] 30)) (HO2.out.keep (below_allocs (Below.refl _ w4) (.cells #[.string x.dig, .int .i64 x.size, .int .i64 x.kind, .string x.frm] 30))) hg8 (by have := HV4.out.size; simp; omega); obtain ⟨r0, r1, x0, x1, x2, x3⟩ := HCL.out _ hv; clear hc8 hg8 hn8)
    | (go_at_call 82; (with_reducible refine HINB.out.mono ?_); rintro e w8 ⟨g8, c8, rfl, hc8, hg8, hn8⟩; have HC8 := Lib.hid hc8; have l1 : n + 1 ≤ c8 := (by obtain ⟨_, _, _, h, _⟩ := HC8.out; exact h); have l2 : c8 ≤ 9223372036854775807 := (by obtain ⟨_, _, _, _, h, _⟩ := HC8.out; exact h); have HF := Lib.hid (below_ownI (below_up HBB.out HV4.out) HO4.out hg8 (by have := HZS.out; have := HV4.out.size; omega)); have hv := below_ownI HV4.out HO2.out hg8 HV4.out.size; obtain ⟨r0, r1, x0, x1, x2, x3⟩ := HCL.out _ hv; clear hc8 hg8 hn8)
    | (go_at_call 136; (with_reducible refine (clnF_clip _ _ _ _ l1 l2).mono ?_); rintro e wc ⟨rfl, rfl⟩)
    | fail)
  all_goals (go_wp2_with fail; go_ret; refine ⟨some ⟨g8, 0, none⟩, n + 1, by rw [HWL.out, HWN.out]; rfl, ?_, HF.out⟩; rw [HWL.out, HWN.out]; exact .inr ⟨g8, n + 1, rfl, HC8.out.clip⟩)
 ·obtain ⟨y, hy, _⟩ := HPT.out rfl
  have hpn : p < n := by rw [← HN.out]; exact (List.getElem?_eq_some_iff.1 hy).1
  have hW := HW.out
  rw [if_pos rfl] at hW
  have HWL : Hid (St.wth St.fdig x L = L.set p x) := Lib.hid hW
  have HWN : Hid ((L.set p x).length = n) := Lib.hid (by rw [List.length_set, HN.out])
  have HPU := Lib.hid (flat_putF L x p (by rw [HN.out]; exact hpn))
  clear hW hy
  go_upto_region 4 with (go_at_call 137; (with_reducible refine (HCN.out _ hv).mono ?_); rintro e w4 ⟨g4, c4, rfl, ho4, hq⟩; have hs4 := hv.size; have ho : OwnV w4 w.heap.size 30 4 (.slice g4 n c4) n (St.eF.flat L) := ho4.down (Nat.le_trans HZS.out hs4); have HV4 := Lib.hid (below_up HBB.out (below_up hv hq)); have hv := below_up hv hq; obtain ⟨r0, r1, x0, x1, x2, x3⟩ := HCL.out _ hv; clear ho4 hq)
  rcases ho with ⟨_, h0, _⟩ | ⟨g, cap, h0, hc⟩
  ·omega
  ·cases h0
   have hcg := hc.lt
   obtain ⟨cur0, _, hcc0, _⟩ := id hc
   have hfz0 := frozen_of hcc0 (p * 4)
   have hce0 : ∃ v, (w4).cell? ⟨g, p * 4, none⟩ = some v := by
    have h := hc.cellAt (p * 4) (by omega)
    exact ⟨_, h.trans (List.getElem?_eq_getElem (by first | (rw [St.eF.flat_len, HN.out]; show _ < n * 4; omega) | (simp only [List.length_set]; rw [St.eF.flat_len, HN.out]; show _ < n * 4; omega)))⟩
   obtain ⟨v0, hv0⟩ := hce0
   have hc0 := hc.setCell (p := p * 4) (by omega) (.string x.dig)
   obtain ⟨cur1, _, hcc1, _⟩ := id hc0
   have hfz1 := frozen_of hcc1 (p * 4 + 1)
   have hce1 : ∃ v, ((w4).setCell ⟨g, p * 4, none⟩ (.string x.dig)).cell? ⟨g, p * 4 + 1, none⟩ = some v := by
    have h := hc0.cellAt (p * 4 + 1) (by omega)
    exact ⟨_, h.trans (List.getElem?_eq_getElem (by first | (rw [St.eF.flat_len, HN.out]; show _ < n * 4; omega) | (simp only [List.length_set]; rw [St.eF.flat_len, HN.out]; show _ < n * 4; omega)))⟩
   obtain ⟨v1, hv1⟩ := hce1
   have hc1 := hc0.setCell (p := p * 4 + 1) (by omega) (.int .i64 x.size)
   obtain ⟨cur2, _, hcc2, _⟩ := id hc1
   have hfz2 := frozen_of hcc2 (p * 4 + 2)
   have hce2 : ∃ v, (((w4).setCell ⟨g, p * 4, none⟩ (.string x.dig)).setCell ⟨g, p * 4 + 1, none⟩ (.int .i64 x.size)).cell? ⟨g, p * 4 + 2, none⟩ = some v := by
    have h := hc1.cellAt (p * 4 + 2) (by omega)
    exact ⟨_, h.trans (List.getElem?_eq_getElem (by first | (rw [St.eF.flat_len, HN.out]; show _ < n * 4; omega) | (simp only [List.length_set]; rw [St.eF.flat_len, HN.out]; show _ < n * 4; omega)))⟩
   obtain ⟨v2, hv2⟩ := hce2
   have hc2 := hc1.setCell (p := p * 4 + 2) (by omega) (.int .i64 x.kind)
   obtain ⟨cur3, _, hcc3, _⟩ := id hc2
   have hfz3 := frozen_of hcc3 (p * 4 + 3)
   have hce3 : ∃ v, ((((w4).setCell ⟨g, p * 4, none⟩ (.string x.dig)).setCell ⟨g, p * 4 + 1, none⟩ (.int .i64 x.size)).setCell ⟨g, p * 4 + 2, none⟩ (.int .i64 x.kind)).cell? ⟨g, p * 4 + 3, none⟩ = some v := by
    have h := hc2.cellAt (p * 4 + 3) (by omega)
    exact ⟨_, h.trans (List.getElem?_eq_getElem (by first | (rw [St.eF.flat_len, HN.out]; show _ < n * 4; omega) | (simp only [List.length_set]; rw [St.eF.flat_len, HN.out]; show _ < n * 4; omega)))⟩
   obtain ⟨v3, hv3⟩ := hce3
   have hc3 := hc2.setCell (p := p * 4 + 3) (by omega) (.string x.frm)
   rw [← HPU.out] at hc3
   have HCZ := Lib.hid hc3
   obtain ⟨_, _, _, l1, l2, _⟩ := id hc3
   have l2' : c4 ≤ 9223372036854775807 := l2
   have HBZ := Lib.hid ((((((((HV4.out).setCell (p := ⟨g, p * 4, none⟩) (by simpa using hcg.1) (.string x.dig))).setCell (p := ⟨g, p * 4 + 1, none⟩) (by simpa using hcg.1) (.int .i64 x.size))).setCell (p := ⟨g, p * 4 + 2, none⟩) (by simpa using hcg.1) (.int .i64 x.kind))).setCell (p := ⟨g, p * 4 + 3, none⟩) (by simpa using hcg.1) (.string x.frm))
   clear hc hc0 hc1 hc2 hc3
   go_wp2_with (go_at_call 136; (with_reducible refine (clnF_clip _ _ _ _ l1 l2').mono ?_); rintro e wc ⟨rfl, rfl⟩)
   go_ret
   refine ⟨some ⟨g, 0, none⟩, n, by rw [HWL.out, HWN.out]; rfl, ?_, HBZ.out⟩
   rw [HWL.out, HWN.out]
   exact .inr ⟨g, n, rfl, HCZ.out.clip⟩
end Go.Proofs.YthdiccdnggloiaaGreatDoor
