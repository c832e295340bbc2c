/- Parts of the proof, no condition: StIpY, StIpZ, StWkl, Row2. -/
import Derived.Test.YthdiccdnggloiaaGreatDoorKp23
import Derived.Test.YthdiccdnggloiaaGreatDoorKp18
import Derived.Test.YthdiccdnggloiaaGreatDoorKp22
import Derived.Test.YthdiccdnggloiaaGreatDoorKp17
import Derived.Test.YthdiccdnggloiaaGreatDoorKp4
set_option maxRecDepth 100000
set_option maxHeartbeats 16000000
set_option linter.unusedSimpArgs false
set_option linter.unusedVariables false
namespace Go.Proofs.YthdiccdnggloiaaGreatDoor
open Go.RowKit Go.Sort Go.Shelf Go.Maps
theorem importedR_kept (s : Sto) (a : StA) (f : Fil) (hfz : f.dig.size ≤ 9223372036854775807) (tier : ByteArray) (now : Int) (w : World) (hI : StIn w s a) (hq0 : St.faultE f = 0) (hd16 : f.dig.size = 16) (hf100 : f.frm.size ≤ 9223372036854775807) (hko : f.kind = 1 ∨ St.kindOf s.files f.frm = 1) (hyo : (St.fileOf s.files f.dig).isSome = true ∧ St.filD s.files f.dig = f) (r : St.Right s) (x : Tir) (hx : x.name = tier) (kk : Nat) (hkk : s.tiers[kk]? = some x) (hka : St.tierAt s.tiers tier = (kk : Int)) (hm : St.isMom now = true) (kc : Nat) (hk : St.copyAt s f.dig tier = (kc : Int)) : Calls Tryz.prog 16 #[.agg #[.int .i64 s.least, .int .i64 s.wait, .slice a.ta s.tiers.length a.tc, .slice a.fa s.files.length a.fc, .slice a.ca s.copies.length a.cc, .slice a.ha s.held.length a.hc, .slice a.ba s.bin.length a.bc], .agg #[.string f.dig, .int .i64 f.size, .int .i64 f.kind, .string f.frm], .string tier, .int .i64 now] w (StoOk w (St.imp s f tier now)) := by
 have HTH := Lib.hid (St.imp_there r hyo.1 hyo.2)
 obtain ⟨W0, hW0, hP, hz0, hB0⟩ := box w #[.int .i64 s.least, .int .i64 s.wait, .slice a.ta s.tiers.length a.tc, .slice a.fa s.files.length a.fc, .slice a.ca s.copies.length a.cc, .slice a.ha s.held.length a.hc, .slice a.ba s.bin.length a.bc] 28
 obtain ⟨W1, hW1, hD, hz1, hB1⟩ := box W0 #[.string f.dig, .int .i64 f.size, .int .i64 f.kind, .string f.frm] 30
 obtain ⟨W2, hW2, hQ, hz2, hB2⟩ := box W1 #[.int .i64 0, .int .i64 0, .slice none 0 0, .slice none 0 0, .slice none 0 0, .slice none 0 0, .slice none 0 0] 28
 rw [hz0] at hD hz1
 rw [hz1] at hQ hz2
 have hP := (hP.keep hB1).keep hB2
 have hD := hD.keep hB2
 have hBB := below_up hB0 (below_up hB1 hB2)
 have HW0 := Lib.hid hW0; have HW1 := Lib.hid hW1; have HW2 := Lib.hid hW2; have HP := Lib.hid hP; have HD := Lib.hid hD; have HQ := Lib.hid hQ; have HBB := Lib.hid hBB; have HZ2 : Hid (W2.heap.size = w.heap.size + 3) := Lib.hid (by omega)
 have HI2 := Lib.hid (hI.keep hBB)
 obtain ⟨q0, q1, q2, q3, q4, q5, q6⟩ := hP.seven
 obtain ⟨d0, d1, d2, d3⟩ := hD.four
 have HSZ := Lib.hid hI.sz
 have HFF := Lib.hid (fun V => fileFault_is f hfz V)
 clear hI hW0 hW1 hW2 hP hD hQ hz0 hz1 hz2 hB0 hB1 hB2 hBB
 have hv : Below W2.heap.size W2 W2 := Below.refl _ _
 rw [hq0] at HFF
 obtain ⟨y, hy⟩ : ∃ y, y = St.filD s.files f.dig := ⟨_, rfl⟩
 obtain ⟨yb, hyb⟩ : ∃ yb, yb = (St.fileOf s.files f.dig).isSome := ⟨_, rfl⟩
 have HFO := Lib.hid (fun V (hv : Below W2.heap.size W2 V) => filOf_is s a f.dig V (HI2.out.keep hv) y hy yb hyb)
 have HOR := Lib.hid (fun V (hv : Below W2.heap.size W2 V) => original_is s a f.frm V (HI2.out.keep hv))
 have HTA := Lib.hid (fun V (hv : Below W2.heap.size W2 V) => tierOf_is s a tier V (HI2.out.keep hv))
 have HMO := Lib.hid (fun V => momentS_is now V)
 obtain ⟨yq, hyq⟩ := St.bool_of (y = f)
 have hne := fun W => neqF y f W yq hyq
 have hgd := guardFil
 have hkr : (((f.kind != 1)) && !(decide (St.kindOf s.files f.frm = 1))) = false := by
  rcases hko with h | h
  ·rw [h]; rfl
  ·rw [decide_eq_true h]; simp
 rw [← hy] at hyo
 rw [← hyb] at hyo
 generalize decide (St.kindOf s.files f.frm = 1) = br at *
 obtain ⟨bk, hbk⟩ : ∃ bk, (f.kind != 1) = bk := ⟨_, rfl⟩
 rw [hbk] at hkr
 clear hq0 hko hy hyb
 rw [hm] at HMO
 obtain ⟨⟨cd, ct, cg, ca⟩, hck, h2, h3, hcw⟩ := St.imp_old_cop (now := now) r hd16 hk
 have h2 : f.dig = cd := h2.symm
 have h3 : tier = ct := h3.symm
 subst cd
 subst ct
 obtain ⟨_, y1, y2, y3, y4, y5⟩ := St.sizes_iff.1 r.sizes
 have HCP := Lib.hid (fun V (hv : Below W2.heap.size W2 V) => twin_is s a V (HI2.out.keep hv) ⟨y1, y2, y3, y4, y5⟩)
 unfold CpyPost at HCP
 have HLEN : Hid (StLen s) := Lib.hid ⟨y1, y2, y3, y4, y5⟩
 have HUP : Hid (St.Up St.gdig s.bin ∧ s.held.length ≤ 500 ∧ s.bin.length ≤ 500 ∧ St.Up id s.held) := Lib.hid ⟨r.bup, y4, y5, r.hup⟩
 have hd16 : f.dig.size = 16 := hd16
 have hf100 : f.frm.size ≤ 9223372036854775807 := hf100
 have HZT : Hid (StSz (St.imp s f tier now)) := Lib.hid (HSZ.out.imp r hfz hf100 (by rw [← hx]; exact HSZ.out.tz x (List.mem_of_getElem? hkk)))
 obtain ⟨t, ht⟩ : ∃ t, St.imp s f tier now = t := ⟨_, rfl⟩
 have HT := Lib.hid ht
 rw [ht] at HZT ⊢
 clear ht y1 y2 y3 y4 y5
 have HCO := Lib.hid (fun V (hv : Below W2.heap.size W2 V) => copyOf_is s a f.dig tier V (HI2.out.keep hv))
 rw [hka] at HTA
 rw [hk] at HCO
 have ht0 : ¬ ((kk : Int) < 0) := by omega
 have ht1 : decide ((kk : Int) < 0) = false := decide_eq_false ht0
 have HCW := Lib.hid hcw; have HCK := Lib.hid hck
 have hk0 : ¬ ((kc : Int) < 0) := by omega
 have hk1 : decide ((kc : Int) < 0) = false := decide_eq_false hk0
 have hk2 : ((kc : Int) < 0) = False := eq_false hk0
 clear r hx hkk hka hm hck hcw hd16 hf100 hk
 obtain ⟨rfl, hyo⟩ := hyo
 obtain rfl : yq = true := hyq.2 hyo
 clear hyq hyo
 cases bk
 ·have hke : (f.kind == 1) = true := by simpa using hbk
  go_enter Tryz.func16, Tryz.ntmps16
  go_upto_region 1 with fail
  rw [HW0.out, HW1.out, HW2.out]
  go_upto_region 5 with (first
   | (go_at_call 74; (with_reducible refine (HFF.out _).mono ?_); rintro e w6 ⟨rfl, hq⟩; have hv := below_up hv hq; obtain ⟨q0, q1, q2, q3, q4, q5, q6⟩ := (HP.out.keep hv).seven; obtain ⟨d0, d1, d2, d3⟩ := (HD.out.keep hv).four)
   | (go_at_call 76; (with_reducible refine (HFO.out _ hv).mono ?_); rintro e w7 ⟨rfl, hq⟩; have hv := below_up hv hq; obtain ⟨q0, q1, q2, q3, q4, q5, q6⟩ := (HP.out.keep hv).seven; obtain ⟨d0, d1, d2, d3⟩ := (HD.out.keep hv).four)
   | (refine wpList_store_row rfl 30 _ _ rfl w7.heap.size #[.string y.dig, .int .i64 y.size, .int .i64 y.kind, .string y.frm] rfl rfl 30 #[.string ⟨#[]⟩, .int .i64 0, .int .i64 0, .string ⟨#[]⟩] (heap_alloc_new w7 _) infoFilS rfl (by simp [Value.oneCell']) ?_))
  obtain ⟨X, hX, hXB, hXz, hXW⟩ := fillNew w7 #[.string ⟨#[]⟩, .int .i64 0, .int .i64 0, .string ⟨#[]⟩] #[.string y.dig, .int .i64 y.size, .int .i64 y.kind, .string y.frm] 30
  rw [hX]
  have hv := below_up hv hXW
  clear q0 q1 q2 q3 q4 q5 q6 d0 d1 d2 d3 hX hXz hXW
  obtain ⟨q0, q1, q2, q3, q4, q5, q6⟩ := (HP.out.keep hv).seven
  obtain ⟨d0, d1, d2, d3⟩ := (HD.out.keep hv).four
  have HXB := Lib.hid hXB
  obtain ⟨x0, x1, x2, x3⟩ := hXB.four
  clear hXB
  go_upto_region 14 with (first | (go_at_call 75; (with_reducible refine (HOR.out _ hv).mono ?_); rintro e w8 ⟨rfl, hq⟩; have hv := below_up hv hq; obtain ⟨q0, q1, q2, q3, q4, q5, q6⟩ := (HP.out.keep hv).seven; obtain ⟨d0, d1, d2, d3⟩ := (HD.out.keep hv).four; obtain ⟨x0, x1, x2, x3⟩ := (HXB.out.keep hq).four) | (go_at_call 72; (with_reducible refine (HTA.out _ hv).mono ?_); rintro e w9 ⟨rfl, hq⟩; have hv := below_up hv hq; obtain ⟨q0, q1, q2, q3, q4, q5, q6⟩ := (HP.out.keep hv).seven; obtain ⟨d0, d1, d2, d3⟩ := (HD.out.keep hv).four) | (go_at_call 78; (with_reducible refine (HMO.out _).mono ?_); rintro e w10 ⟨rfl, rfl⟩) | (go_at_call 80; (with_reducible refine (HCO.out _ hv).mono ?_); rintro e w11 ⟨rfl, hq⟩; have hv := below_up hv hq; obtain ⟨q0, q1, q2, q3, q4, q5, q6⟩ := (HP.out.keep hv).seven; obtain ⟨d0, d1, d2, d3⟩ := (HD.out.keep hv).four))
  go_quiet (fail)
  have hv := below_drewN hv nq
  generalize World.drewN w11 nq = U at *
  clear q0 q1 q2 q3 q4 q5 q6 d0 d1 d2 d3 x0 x1 x2 x3
  obtain ⟨q0, q1, q2, q3, q4, q5, q6⟩ := (HP.out.keep hv).seven
  obtain ⟨d0, d1, d2, d3⟩ := (HD.out.keep hv).four
  obtain ⟨x0, x1, x2, x3⟩ : True ∧ True ∧ True ∧ True := ⟨trivial, trivial, trivial, trivial⟩
  go_upto_region 18 with fail
  go_upto_region 19 with (first
   | (go_at_call 81; (with_reducible refine (HCP.out _ hv).mono ?_); rintro e w8 ⟨b, rfl, hOwn, hB8⟩)
   | (refine wpList_store_row rfl 28 _ _ rfl w.heap.size #[.int .i64 s.least, .int .i64 s.wait, .slice b.ta s.tiers.length b.tc, .slice b.fa s.files.length b.fc, .slice b.ca s.copies.length b.cc, .slice b.ha s.held.length b.hc, .slice b.ba s.bin.length b.bc] rfl rfl 28 _ (HP.out.keep (below_up hv hB8)) infoSto rfl (by simp [Value.oneCell']) ?_))
  have hlt4 : w.heap.size + 2 < W2.heap.size := by have := HZ2.out; omega
  have hv8 := below_up hv hB8
  have hPv := Blk.setRowAt (HP.out.keep hv8) #[.int .i64 s.least, .int .i64 s.wait, .slice b.ta s.tiers.length b.tc, .slice b.fa s.files.length b.fc, .slice b.ca s.copies.length b.cc, .slice b.ha s.held.length b.hc, .slice b.ba s.bin.length b.bc]
  have hQv := (HQ.out.keep hv8).setRowOther (b' := w.heap.size) (by omega) #[.int .i64 s.least, .int .i64 s.wait, .slice b.ta s.tiers.length b.tc, .slice b.fa s.files.length b.fc, .slice b.ca s.copies.length b.cc, .slice b.ha s.held.length b.hc, .slice b.ba s.bin.length b.bc]
  have hDv := (HD.out.keep hv8).setRowOther (b' := w.heap.size) (by omega) #[.int .i64 s.least, .int .i64 s.wait, .slice b.ta s.tiers.length b.tc, .slice b.fa s.files.length b.fc, .slice b.ca s.copies.length b.cc, .slice b.ha s.held.length b.hc, .slice b.ba s.bin.length b.bc]
  have hBv := below_setRow (below_up HBB.out hv8) (Nat.le_refl w.heap.size) #[.int .i64 s.least, .int .i64 s.wait, .slice b.ta s.tiers.length b.tc, .slice b.fa s.files.length b.fc, .slice b.ca s.copies.length b.cc, .slice b.ha s.held.length b.hc, .slice b.ba s.bin.length b.bc]
  have hOv := (hOwn.down hv.size).setRow (b := w.heap.size) (by omega) #[.int .i64 s.least, .int .i64 s.wait, .slice b.ta s.tiers.length b.tc, .slice b.fa s.files.length b.fc, .slice b.ca s.copies.length b.cc, .slice b.ha s.held.length b.hc, .slice b.ba s.bin.length b.bc]
  have hVz : W2.heap.size ≤ (w8.setRow w.heap.size #[.int .i64 s.least, .int .i64 s.wait, .slice b.ta s.tiers.length b.tc, .slice b.fa s.files.length b.fc, .slice b.ca s.copies.length b.cc, .slice b.ha s.held.length b.hc, .slice b.ba s.bin.length b.bc]).heap.size := by have := hv8.size; simp; omega
  obtain ⟨V, hV⟩ : ∃ V, w8.setRow w.heap.size #[.int .i64 s.least, .int .i64 s.wait, .slice b.ta s.tiers.length b.tc, .slice b.fa s.files.length b.fc, .slice b.ca s.copies.length b.cc, .slice b.ha s.held.length b.hc, .slice b.ba s.bin.length b.bc] = V := ⟨_, rfl⟩
  rw [hV] at hPv hQv hDv hBv hOv hVz ⊢
  clear hV q0 q1 q2 q3 q4 q5 q6 d0 d1 d2 d3 x0 x1 x2 x3 hOwn hB8 hv8 hv
  have HLT := Lib.hid hlt4
  clear hlt4
  obtain ⟨s1, b1, hs1, hP1, hO1⟩ : ∃ (s1 : Sto) (b1 : StA), s1 = s ∧ Blk V w.heap.size #[.int .i64 s1.least, .int .i64 s1.wait, .slice b1.ta s1.tiers.length b1.tc, .slice b1.fa s1.files.length b1.fc, .slice b1.ca s1.copies.length b1.cc, .slice b1.ha s1.held.length b1.hc, .slice b1.ba s1.bin.length b1.bc] 28 ∧ StOwn V W2.heap.size s1 b1 := ⟨s, b, rfl, hPv, hOv⟩
  have HS1 : Hid (s1 = { s with files := St.wth St.fdig f s.files }) := Lib.hid (by rw [hs1, HTH.out])
  have HC1 : Hid (s1.copies = s.copies) := Lib.hid (by rw [hs1])
  have HL1 : Hid (StLen s1) := Lib.hid (by rw [hs1]; exact HLEN.out)
  have HZ1 : Hid (StSz s1) := Lib.hid (by rw [hs1]; exact HSZ.out)
  have HH1 : Hid (s1.held = s.held ∧ s1.bin = s.bin) := Lib.hid (by rw [hs1]; exact ⟨rfl, rfl⟩)
  clear hs1 hPv hOv
  have HP1 := Lib.hid hP1; have HQ1 := Lib.hid hQv; have HD1 := Lib.hid hDv; have HB1 := Lib.hid hBv; have HO1 := Lib.hid hO1; have HV1 := Lib.hid hVz
  obtain ⟨q0, q1, q2, q3, q4, q5, q6⟩ := hP1.seven
  obtain ⟨d0, d1, d2, d3⟩ := hDv.four
  clear hP1 hQv hDv hBv hO1 hVz
  have hcs : s1.copies[kc]? = some (⟨f.dig, tier, cg, ca⟩ : Cop) := by rw [HC1.out]; exact HCK.out
  obtain ⟨g, hga, hgB, hgl, hgc, hgset⟩ := HO1.out.copAt hcs
  have hset := hgset ⟨f.dig, tier, true, ca⟩ 2 (.bool true) (by decide) rfl
  obtain ⟨s2, hs2⟩ : ∃ s2 : Sto, { s1 with copies := s1.copies.set kc (⟨f.dig, tier, true, ca⟩ : Cop) } = s2 := ⟨_, rfl⟩
  rw [hs2] at hset
  have f2 : V.cell? ⟨g, kc * 4 + 2, none⟩ = some (.bool cg) := (hgc 2 (by decide)).1
  have ff := (hgc 2 (by decide)).2
  have HS2 : Hid (s2 = { s1 with copies := St.wth St.ckey ⟨f.dig, tier, true, St.askedOf s f.dig tier now⟩ s.copies }) := Lib.hid (by rw [← hs2, HC1.out, HCW.out])
  have HH2 : Hid (s2.held = s.held ∧ s2.bin = s.bin) := Lib.hid (by rw [← hs2]; exact HH1.out)
  have hj0 : (0 : Int) ≤ (kc : Int) := by omega
  have hj1 : (kc : Int) < (s1.copies.length : Int) := by have := (List.getElem?_eq_some_iff.1 hcs).1; omega
  have hj4 : s1.copies.length ≤ 4000 := HL1.out.2.2.1
  have hlt := HLT.out
  have hV1 := HV1.out
  have hPg : Blk (V.setCell ⟨g, kc * 4 + 2, none⟩ (.bool true)) w.heap.size #[.int .i64 s2.least, .int .i64 s2.wait, .slice b1.ta s2.tiers.length b1.tc, .slice b1.fa s2.files.length b1.fc, .slice b1.ca s2.copies.length b1.cc, .slice b1.ha s2.held.length b1.hc, .slice b1.ba s2.bin.length b1.bc] 28 := by
   have h := HP1.out.setOther (a := ⟨g, kc * 4 + 2, none⟩) (by simp <;> omega) (.bool true)
   rw [← hs2]
   simp only [List.length_set]
   exact h
  have hQ2 := HQ1.out.setOther (a := ⟨g, kc * 4 + 2, none⟩) (by simp <;> omega) (.bool true)
  have hD2 := HD1.out.setOther (a := ⟨g, kc * 4 + 2, none⟩) (by simp <;> omega) (.bool true)
  have hB2 := HB1.out.setCell (p := ⟨g, kc * 4 + 2, none⟩) (show w.heap.size ≤ g by omega) (.bool true)
  have hz2 : W2.heap.size ≤ (V.setCell ⟨g, kc * 4 + 2, none⟩ (.bool true)).heap.size := by simp; omega
  have HPg := Lib.hid hPg; have HQ2 := Lib.hid hQ2; have HD2 := Lib.hid hD2; have HB2 := Lib.hid hB2; have HSET := Lib.hid hset; have HV2 := Lib.hid hz2
  rw [hga] at q4
  clear hcs hs2 hgc hgset hset hPg hQ2 hD2 hB2 hz2 hlt hV1 hgl hgB
  go_upto_region 27 with fail
  obtain ⟨V2, hV2⟩ : ∃ V2, V.setCell ⟨g, kc * 4 + 2, none⟩ (.bool true) = V2 := ⟨_, rfl⟩
  rw [hV2] at HPg HQ2 HD2 HB2 HSET HV2 ⊢
  clear hV2 q0 q1 q2 q3 q4 q5 q6 d0 d1 d2 d3 f2 ff hga
  obtain ⟨b2, HP2, HO2⟩ : ∃ b2 : StA, Hid (Blk V2 w.heap.size #[.int .i64 s2.least, .int .i64 s2.wait, .slice b2.ta s2.tiers.length b2.tc, .slice b2.fa s2.files.length b2.fc, .slice b2.ca s2.copies.length b2.cc, .slice b2.ha s2.held.length b2.hc, .slice b2.ba s2.bin.length b2.bc] 28) ∧ Hid (StOwn V2 W2.heap.size s2 b2) := ⟨b1, HPg, HSET⟩
  clear HPg HSET
  obtain ⟨q0, q1, q2, q3, q4, q5, q6⟩ := HP2.out.seven
  obtain ⟨d0, d1, d2, d3⟩ := HD2.out.four
  obtain ⟨s3, hs3⟩ : ∃ s3, St.hold s2 f.dig = s3 := ⟨_, rfl⟩
  have HS3 : Hid (s3 = if f.kind = 1 then St.hold s2 f.dig else s2) := Lib.hid (by rw [if_pos (by simpa using hke), hs3])
  have HAG := Lib.hid (fun U b (hO : StOwn U W2.heap.size s2 b) (hz : W2.heap.size ≤ U.heap.size) => show Calls Tryz.prog 84 #[.agg #[.int .i64 s2.least, .int .i64 s2.wait, .slice b.ta s2.tiers.length b.tc, .slice b.fa s2.files.length b.fc, .slice b.ca s2.copies.length b.cc, .slice b.ha s2.held.length b.hc, .slice b.ba s2.bin.length b.bc], .string f.dig] U (AgainPost U W2.heap.size s3) from by
   rw [← hs3]
   exact heldAgainR_any s2 b f.dig W2.heap.size U hO hz (by rw [HH2.out.2]; exact HUP.out.1) (by rw [HH2.out.1]; exact HUP.out.2.1) (by rw [HH2.out.2]; exact HUP.out.2.2.1) (by rw [HH2.out.1]; exact HUP.out.2.2.2))
  unfold AgainPost at HAG
  clear hs3
  go_upto_region 29 with (first
   | (go_at_call 84; (with_reducible refine (HAG.out _ _ HO2.out HV2.out).mono ?_); rintro e w10 ⟨b3, rfl, hO10, hB10⟩; have hP10 := HP2.out.of_block (hB10.block _ (show w.heap.size < W2.heap.size by have := HLT.out; omega)))
   | (refine wpList_store_row rfl 28 _ _ rfl w.heap.size #[.int .i64 s3.least, .int .i64 s3.wait, .slice b3.ta s3.tiers.length b3.tc, .slice b3.fa s3.files.length b3.fc, .slice b3.ca s3.copies.length b3.cc, .slice b3.ha s3.held.length b3.hc, .slice b3.ba s3.bin.length b3.bc] rfl rfl 28 _ (hP10) infoSto rfl (by simp [Value.oneCell']) ?_))
  have hlt := HLT.out
  have hQ10 := HQ2.out.of_block (hB10.block (w.heap.size + 2) hlt)
  have HP3 := Lib.hid (Blk.setRowAt hP10 #[.int .i64 s3.least, .int .i64 s3.wait, .slice b3.ta s3.tiers.length b3.tc, .slice b3.fa s3.files.length b3.fc, .slice b3.ca s3.copies.length b3.cc, .slice b3.ha s3.held.length b3.hc, .slice b3.ba s3.bin.length b3.bc])
  have HQ3 := Lib.hid (hQ10.setRowOther (b' := w.heap.size) (by omega) #[.int .i64 s3.least, .int .i64 s3.wait, .slice b3.ta s3.tiers.length b3.tc, .slice b3.fa s3.files.length b3.fc, .slice b3.ca s3.copies.length b3.cc, .slice b3.ha s3.held.length b3.hc, .slice b3.ba s3.bin.length b3.bc])
  have HB3 := Lib.hid (below_setRow (HB2.out.trans (hB10.mono (by omega))) (Nat.le_refl w.heap.size) #[.int .i64 s3.least, .int .i64 s3.wait, .slice b3.ta s3.tiers.length b3.tc, .slice b3.fa s3.files.length b3.fc, .slice b3.ca s3.copies.length b3.cc, .slice b3.ha s3.held.length b3.hc, .slice b3.ba s3.bin.length b3.bc])
  have HO3 := Lib.hid (hO10.setRow (b := w.heap.size) (by omega) #[.int .i64 s3.least, .int .i64 s3.wait, .slice b3.ta s3.tiers.length b3.tc, .slice b3.fa s3.files.length b3.fc, .slice b3.ca s3.copies.length b3.cc, .slice b3.ha s3.held.length b3.hc, .slice b3.ba s3.bin.length b3.bc])
  obtain ⟨V3, hV3⟩ : ∃ V3, w10.setRow w.heap.size #[.int .i64 s3.least, .int .i64 s3.wait, .slice b3.ta s3.tiers.length b3.tc, .slice b3.fa s3.files.length b3.fc, .slice b3.ca s3.copies.length b3.cc, .slice b3.ha s3.held.length b3.hc, .slice b3.ba s3.bin.length b3.bc] = V3 := ⟨_, rfl⟩
  rw [hV3] at HP3 HQ3 HB3 HO3 ⊢
  clear hV3 q0 q1 q2 q3 q4 q5 q6 d0 d1 d2 d3 hO10 hB10 hP10 hQ10 hlt
  have HRE : Hid (t = s3) := Lib.hid (by rw [← HT.out]; exact St.imp_split s s1 s2 s3 f tier now HS1.out HS2.out HS3.out)
  have hlt := HLT.out
  have HIZ := Lib.hid ((HO3.out.setRow (b := w.heap.size + 2) (by omega) #[.int .i64 s3.least, .int .i64 s3.wait, .slice b3.ta s3.tiers.length b3.tc, .slice b3.fa s3.files.length b3.fc, .slice b3.ca s3.copies.length b3.cc, .slice b3.ha s3.held.length b3.hc, .slice b3.ba s3.bin.length b3.bc]).in_ (HRE.out ▸ HZT.out))
  have HBZ := Lib.hid (below_setRow HB3.out (show w.heap.size ≤ w.heap.size + 2 by omega) #[.int .i64 s3.least, .int .i64 s3.wait, .slice b3.ta s3.tiers.length b3.tc, .slice b3.fa s3.files.length b3.fc, .slice b3.ca s3.copies.length b3.cc, .slice b3.ha s3.held.length b3.hc, .slice b3.ba s3.bin.length b3.bc])
  have hQ3 := HQ3.out
  obtain ⟨y0, y1, y2, y3, y4, y5, y6⟩ := HP3.out.seven
  go_wp2_with (refine wpList_store_row rfl 28 _ _ rfl (w.heap.size + 2) #[.int .i64 s3.least, .int .i64 s3.wait, .slice b3.ta s3.tiers.length b3.tc, .slice b3.fa s3.files.length b3.fc, .slice b3.ca s3.copies.length b3.cc, .slice b3.ha s3.held.length b3.hc, .slice b3.ba s3.bin.length b3.bc] rfl rfl 28 _ hQ3 infoSto rfl (by simp [Value.oneCell']) ?_)
  obtain ⟨g0, g1, g2, g3, g4, g5, g6⟩ := (Blk.setRowAt hQ3 #[.int .i64 s3.least, .int .i64 s3.wait, .slice b3.ta s3.tiers.length b3.tc, .slice b3.fa s3.files.length b3.fc, .slice b3.ca s3.copies.length b3.cc, .slice b3.ha s3.held.length b3.hc, .slice b3.ba s3.bin.length b3.bc]).seven
  refine bodyPost_ret (v := .tuple #[.agg #[.int .i64 s3.least, .int .i64 s3.wait, .slice b3.ta s3.tiers.length b3.tc, .slice b3.fa s3.files.length b3.fc, .slice b3.ca s3.copies.length b3.cc, .slice b3.ha s3.held.length b3.hc, .slice b3.ba s3.bin.length b3.bc], .int .i64 0]) (by simp [results, Tryz.results16, go_sem, g0, g1, g2, g3, g4, g5, g6]) rfl ?_
  rw [HRE.out]
  exact ⟨_, rfl, HIZ.out, HBZ.out⟩
 ·cases br
  ·cases hkr
  ·have hke : (f.kind == 1) = false := by simpa using hbk
   go_enter Tryz.func16, Tryz.ntmps16
   go_upto_region 1 with fail
   rw [HW0.out, HW1.out, HW2.out]
   go_upto_region 5 with (first
    | (go_at_call 74; (with_reducible refine (HFF.out _).mono ?_); rintro e w6 ⟨rfl, hq⟩; have hv := below_up hv hq; obtain ⟨q0, q1, q2, q3, q4, q5, q6⟩ := (HP.out.keep hv).seven; obtain ⟨d0, d1, d2, d3⟩ := (HD.out.keep hv).four)
    | (go_at_call 76; (with_reducible refine (HFO.out _ hv).mono ?_); rintro e w7 ⟨rfl, hq⟩; have hv := below_up hv hq; obtain ⟨q0, q1, q2, q3, q4, q5, q6⟩ := (HP.out.keep hv).seven; obtain ⟨d0, d1, d2, d3⟩ := (HD.out.keep hv).four)
    | (refine wpList_store_row rfl 30 _ _ rfl w7.heap.size #[.string y.dig, .int .i64 y.size, .int .i64 y.kind, .string y.frm] rfl rfl 30 #[.string ⟨#[]⟩, .int .i64 0, .int .i64 0, .string ⟨#[]⟩] (heap_alloc_new w7 _) infoFilS rfl (by simp [Value.oneCell']) ?_))
   obtain ⟨X, hX, hXB, hXz, hXW⟩ := fillNew w7 #[.string ⟨#[]⟩, .int .i64 0, .int .i64 0, .string ⟨#[]⟩] #[.string y.dig, .int .i64 y.size, .int .i64 y.kind, .string y.frm] 30
   rw [hX]
   have hv := below_up hv hXW
   clear q0 q1 q2 q3 q4 q5 q6 d0 d1 d2 d3 hX hXz hXW
   obtain ⟨q0, q1, q2, q3, q4, q5, q6⟩ := (HP.out.keep hv).seven
   obtain ⟨d0, d1, d2, d3⟩ := (HD.out.keep hv).four
   have HXB := Lib.hid hXB
   obtain ⟨x0, x1, x2, x3⟩ := hXB.four
   clear hXB
   go_upto_region 14 with (first | (go_at_call 75; (with_reducible refine (HOR.out _ hv).mono ?_); rintro e w8 ⟨rfl, hq⟩; have hv := below_up hv hq; obtain ⟨q0, q1, q2, q3, q4, q5, q6⟩ := (HP.out.keep hv).seven; obtain ⟨d0, d1, d2, d3⟩ := (HD.out.keep hv).four; obtain ⟨x0, x1, x2, x3⟩ := (HXB.out.keep hq).four) | (go_at_call 72; (with_reducible refine (HTA.out _ hv).mono ?_); rintro e w9 ⟨rfl, hq⟩; have hv := below_up hv hq; obtain ⟨q0, q1, q2, q3, q4, q5, q6⟩ := (HP.out.keep hv).seven; obtain ⟨d0, d1, d2, d3⟩ := (HD.out.keep hv).four) | (go_at_call 78; (with_reducible refine (HMO.out _).mono ?_); rintro e w10 ⟨rfl, rfl⟩) | (go_at_call 80; (with_reducible refine (HCO.out _ hv).mono ?_); rintro e w11 ⟨rfl, hq⟩; have hv := below_up hv hq; obtain ⟨q0, q1, q2, q3, q4, q5, q6⟩ := (HP.out.keep hv).seven; obtain ⟨d0, d1, d2, d3⟩ := (HD.out.keep hv).four))
   go_quiet (fail)
   have hv := below_drewN hv nq
   generalize World.drewN w11 nq = U at *
   clear q0 q1 q2 q3 q4 q5 q6 d0 d1 d2 d3 x0 x1 x2 x3
   obtain ⟨q0, q1, q2, q3, q4, q5, q6⟩ := (HP.out.keep hv).seven
   obtain ⟨d0, d1, d2, d3⟩ := (HD.out.keep hv).four
   obtain ⟨x0, x1, x2, x3⟩ : True ∧ True ∧ True ∧ True := ⟨trivial, trivial, trivial, trivial⟩
   go_upto_region 18 with fail
   go_upto_region 19 with (first
    | (go_at_call 81; (with_reducible refine (HCP.out _ hv).mono ?_); rintro e w8 ⟨b, rfl, hOwn, hB8⟩)
    | (refine wpList_store_row rfl 28 _ _ rfl w.heap.size #[.int .i64 s.least, .int .i64 s.wait, .slice b.ta s.tiers.length b.tc, .slice b.fa s.files.length b.fc, .slice b.ca s.copies.length b.cc, .slice b.ha s.held.length b.hc, .slice b.ba s.bin.length b.bc] rfl rfl 28 _ (HP.out.keep (below_up hv hB8)) infoSto rfl (by simp [Value.oneCell']) ?_))
   have hlt4 : w.heap.size + 2 < W2.heap.size := by have := HZ2.out; omega
   have hv8 := below_up hv hB8
   have hPv := Blk.setRowAt (HP.out.keep hv8) #[.int .i64 s.least, .int .i64 s.wait, .slice b.ta s.tiers.length b.tc, .slice b.fa s.files.length b.fc, .slice b.ca s.copies.length b.cc, .slice b.ha s.held.length b.hc, .slice b.ba s.bin.length b.bc]
   have hQv := (HQ.out.keep hv8).setRowOther (b' := w.heap.size) (by omega) #[.int .i64 s.least, .int .i64 s.wait, .slice b.ta s.tiers.length b.tc, .slice b.fa s.files.length b.fc, .slice b.ca s.copies.length b.cc, .slice b.ha s.held.length b.hc, .slice b.ba s.bin.length b.bc]
   have hDv := (HD.out.keep hv8).setRowOther (b' := w.heap.size) (by omega) #[.int .i64 s.least, .int .i64 s.wait, .slice b.ta s.tiers.length b.tc, .slice b.fa s.files.length b.fc, .slice b.ca s.copies.length b.cc, .slice b.ha s.held.length b.hc, .slice b.ba s.bin.length b.bc]
   have hBv := below_setRow (below_up HBB.out hv8) (Nat.le_refl w.heap.size) #[.int .i64 s.least, .int .i64 s.wait, .slice b.ta s.tiers.length b.tc, .slice b.fa s.files.length b.fc, .slice b.ca s.copies.length b.cc, .slice b.ha s.held.length b.hc, .slice b.ba s.bin.length b.bc]
   have hOv := (hOwn.down hv.size).setRow (b := w.heap.size) (by omega) #[.int .i64 s.least, .int .i64 s.wait, .slice b.ta s.tiers.length b.tc, .slice b.fa s.files.length b.fc, .slice b.ca s.copies.length b.cc, .slice b.ha s.held.length b.hc, .slice b.ba s.bin.length b.bc]
   have hVz : W2.heap.size ≤ (w8.setRow w.heap.size #[.int .i64 s.least, .int .i64 s.wait, .slice b.ta s.tiers.length b.tc, .slice b.fa s.files.length b.fc, .slice b.ca s.copies.length b.cc, .slice b.ha s.held.length b.hc, .slice b.ba s.bin.length b.bc]).heap.size := by have := hv8.size; simp; omega
   obtain ⟨V, hV⟩ : ∃ V, w8.setRow w.heap.size #[.int .i64 s.least, .int .i64 s.wait, .slice b.ta s.tiers.length b.tc, .slice b.fa s.files.length b.fc, .slice b.ca s.copies.length b.cc, .slice b.ha s.held.length b.hc, .slice b.ba s.bin.length b.bc] = V := ⟨_, rfl⟩
   rw [hV] at hPv hQv hDv hBv hOv hVz ⊢
   clear hV q0 q1 q2 q3 q4 q5 q6 d0 d1 d2 d3 x0 x1 x2 x3 hOwn hB8 hv8 hv
   have HLT := Lib.hid hlt4
   clear hlt4
   obtain ⟨s1, b1, hs1, hP1, hO1⟩ : ∃ (s1 : Sto) (b1 : StA), s1 = s ∧ Blk V w.heap.size #[.int .i64 s1.least, .int .i64 s1.wait, .slice b1.ta s1.tiers.length b1.tc, .slice b1.fa s1.files.length b1.fc, .slice b1.ca s1.copies.length b1.cc, .slice b1.ha s1.held.length b1.hc, .slice b1.ba s1.bin.length b1.bc] 28 ∧ StOwn V W2.heap.size s1 b1 := ⟨s, b, rfl, hPv, hOv⟩
   have HS1 : Hid (s1 = { s with files := St.wth St.fdig f s.files }) := Lib.hid (by rw [hs1, HTH.out])
   have HC1 : Hid (s1.copies = s.copies) := Lib.hid (by rw [hs1])
   have HL1 : Hid (StLen s1) := Lib.hid (by rw [hs1]; exact HLEN.out)
   have HZ1 : Hid (StSz s1) := Lib.hid (by rw [hs1]; exact HSZ.out)
   have HH1 : Hid (s1.held = s.held ∧ s1.bin = s.bin) := Lib.hid (by rw [hs1]; exact ⟨rfl, rfl⟩)
   clear hs1 hPv hOv
   have HP1 := Lib.hid hP1; have HQ1 := Lib.hid hQv; have HD1 := Lib.hid hDv; have HB1 := Lib.hid hBv; have HO1 := Lib.hid hO1; have HV1 := Lib.hid hVz
   obtain ⟨q0, q1, q2, q3, q4, q5, q6⟩ := hP1.seven
   obtain ⟨d0, d1, d2, d3⟩ := hDv.four
   clear hP1 hQv hDv hBv hO1 hVz
   have hcs : s1.copies[kc]? = some (⟨f.dig, tier, cg, ca⟩ : Cop) := by rw [HC1.out]; exact HCK.out
   obtain ⟨g, hga, hgB, hgl, hgc, hgset⟩ := HO1.out.copAt hcs
   have hset := hgset ⟨f.dig, tier, true, ca⟩ 2 (.bool true) (by decide) rfl
   obtain ⟨s2, hs2⟩ : ∃ s2 : Sto, { s1 with copies := s1.copies.set kc (⟨f.dig, tier, true, ca⟩ : Cop) } = s2 := ⟨_, rfl⟩
   rw [hs2] at hset
   have f2 : V.cell? ⟨g, kc * 4 + 2, none⟩ = some (.bool cg) := (hgc 2 (by decide)).1
   have ff := (hgc 2 (by decide)).2
   have HS2 : Hid (s2 = { s1 with copies := St.wth St.ckey ⟨f.dig, tier, true, St.askedOf s f.dig tier now⟩ s.copies }) := Lib.hid (by rw [← hs2, HC1.out, HCW.out])
   have HH2 : Hid (s2.held = s.held ∧ s2.bin = s.bin) := Lib.hid (by rw [← hs2]; exact HH1.out)
   have hj0 : (0 : Int) ≤ (kc : Int) := by omega
   have hj1 : (kc : Int) < (s1.copies.length : Int) := by have := (List.getElem?_eq_some_iff.1 hcs).1; omega
   have hj4 : s1.copies.length ≤ 4000 := HL1.out.2.2.1
   have hlt := HLT.out
   have hV1 := HV1.out
   have hPg : Blk (V.setCell ⟨g, kc * 4 + 2, none⟩ (.bool true)) w.heap.size #[.int .i64 s2.least, .int .i64 s2.wait, .slice b1.ta s2.tiers.length b1.tc, .slice b1.fa s2.files.length b1.fc, .slice b1.ca s2.copies.length b1.cc, .slice b1.ha s2.held.length b1.hc, .slice b1.ba s2.bin.length b1.bc] 28 := by
    have h := HP1.out.setOther (a := ⟨g, kc * 4 + 2, none⟩) (by simp <;> omega) (.bool true)
    rw [← hs2]
    simp only [List.length_set]
    exact h
   have hQ2 := HQ1.out.setOther (a := ⟨g, kc * 4 + 2, none⟩) (by simp <;> omega) (.bool true)
   have hD2 := HD1.out.setOther (a := ⟨g, kc * 4 + 2, none⟩) (by simp <;> omega) (.bool true)
   have hB2 := HB1.out.setCell (p := ⟨g, kc * 4 + 2, none⟩) (show w.heap.size ≤ g by omega) (.bool true)
   have hz2 : W2.heap.size ≤ (V.setCell ⟨g, kc * 4 + 2, none⟩ (.bool true)).heap.size := by simp; omega
   have HPg := Lib.hid hPg; have HQ2 := Lib.hid hQ2; have HD2 := Lib.hid hD2; have HB2 := Lib.hid hB2; have HSET := Lib.hid hset; have HV2 := Lib.hid hz2
   rw [hga] at q4
   clear hcs hs2 hgc hgset hset hPg hQ2 hD2 hB2 hz2 hlt hV1 hgl hgB
   go_upto_region 27 with fail
   obtain ⟨V2, hV2⟩ : ∃ V2, V.setCell ⟨g, kc * 4 + 2, none⟩ (.bool true) = V2 := ⟨_, rfl⟩
   rw [hV2] at HPg HQ2 HD2 HB2 HSET HV2 ⊢
   clear hV2 q0 q1 q2 q3 q4 q5 q6 d0 d1 d2 d3 f2 ff hga
   obtain ⟨b2, HP2, HO2⟩ : ∃ b2 : StA, Hid (Blk V2 w.heap.size #[.int .i64 s2.least, .int .i64 s2.wait, .slice b2.ta s2.tiers.length b2.tc, .slice b2.fa s2.files.length b2.fc, .slice b2.ca s2.copies.length b2.cc, .slice b2.ha s2.held.length b2.hc, .slice b2.ba s2.bin.length b2.bc] 28) ∧ Hid (StOwn V2 W2.heap.size s2 b2) := ⟨b1, HPg, HSET⟩
   clear HPg HSET
   obtain ⟨q0, q1, q2, q3, q4, q5, q6⟩ := HP2.out.seven
   obtain ⟨d0, d1, d2, d3⟩ := HD2.out.four
   obtain ⟨s3, b3, hs3, HP3, HO3⟩ : ∃ (s3 : Sto) (b3 : StA), s3 = s2 ∧ Hid (Blk _ w.heap.size #[.int .i64 s3.least, .int .i64 s3.wait, .slice b3.ta s3.tiers.length b3.tc, .slice b3.fa s3.files.length b3.fc, .slice b3.ca s3.copies.length b3.cc, .slice b3.ha s3.held.length b3.hc, .slice b3.ba s3.bin.length b3.bc] 28) ∧ Hid (StOwn _ W2.heap.size s3 b3) := ⟨s2, b2, rfl, HP2, HO2⟩
   have HS3 : Hid (s3 = if f.kind = 1 then St.hold s2 f.dig else s2) := Lib.hid (by rw [if_neg (by simpa using hke), hs3])
   have HQ3 := HQ2; have HB3 := HB2
   clear hs3
   go_upto_region 29 with fail
   clear q0 q1 q2 q3 q4 q5 q6 d0 d1 d2 d3
   have HRE : Hid (t = s3) := Lib.hid (by rw [← HT.out]; exact St.imp_split s s1 s2 s3 f tier now HS1.out HS2.out HS3.out)
   have hlt := HLT.out
   have HIZ := Lib.hid ((HO3.out.setRow (b := w.heap.size + 2) (by omega) #[.int .i64 s3.least, .int .i64 s3.wait, .slice b3.ta s3.tiers.length b3.tc, .slice b3.fa s3.files.length b3.fc, .slice b3.ca s3.copies.length b3.cc, .slice b3.ha s3.held.length b3.hc, .slice b3.ba s3.bin.length b3.bc]).in_ (HRE.out ▸ HZT.out))
   have HBZ := Lib.hid (below_setRow HB3.out (show w.heap.size ≤ w.heap.size + 2 by omega) #[.int .i64 s3.least, .int .i64 s3.wait, .slice b3.ta s3.tiers.length b3.tc, .slice b3.fa s3.files.length b3.fc, .slice b3.ca s3.copies.length b3.cc, .slice b3.ha s3.held.length b3.hc, .slice b3.ba s3.bin.length b3.bc])
   have hQ3 := HQ3.out
   obtain ⟨y0, y1, y2, y3, y4, y5, y6⟩ := HP3.out.seven
   go_wp2_with (refine wpList_store_row rfl 28 _ _ rfl (w.heap.size + 2) #[.int .i64 s3.least, .int .i64 s3.wait, .slice b3.ta s3.tiers.length b3.tc, .slice b3.fa s3.files.length b3.fc, .slice b3.ca s3.copies.length b3.cc, .slice b3.ha s3.held.length b3.hc, .slice b3.ba s3.bin.length b3.bc] rfl rfl 28 _ hQ3 infoSto rfl (by simp [Value.oneCell']) ?_)
   obtain ⟨g0, g1, g2, g3, g4, g5, g6⟩ := (Blk.setRowAt hQ3 #[.int .i64 s3.least, .int .i64 s3.wait, .slice b3.ta s3.tiers.length b3.tc, .slice b3.fa s3.files.length b3.fc, .slice b3.ca s3.copies.length b3.cc, .slice b3.ha s3.held.length b3.hc, .slice b3.ba s3.bin.length b3.bc]).seven
   refine bodyPost_ret (v := .tuple #[.agg #[.int .i64 s3.least, .int .i64 s3.wait, .slice b3.ta s3.tiers.length b3.tc, .slice b3.fa s3.files.length b3.fc, .slice b3.ca s3.copies.length b3.cc, .slice b3.ha s3.held.length b3.hc, .slice b3.ba s3.bin.length b3.bc], .int .i64 0]) (by simp [results, Tryz.results16, go_sem, g0, g1, g2, g3, g4, g5, g6]) rfl ?_
   rw [HRE.out]
   exact ⟨_, rfl, HIZ.out, HBZ.out⟩
theorem importedR_ok (s : Sto) (a : StA) (f : Fil) (hfz : f.dig.size ≤ 9223372036854775807) (hf100 : f.frm.size ≤ 9223372036854775807) (tier : ByteArray) (now : Int) (w : World) (hI : StIn w s a) (r : St.Right s) (hq : St.impE s f tier now = 0) : Calls Tryz.prog 16 #[.agg #[.int .i64 s.least, .int .i64 s.wait, .slice a.ta s.tiers.length a.tc, .slice a.fa s.files.length a.fc, .slice a.ca s.copies.length a.cc, .slice a.ha s.held.length a.hc, .slice a.ba s.bin.length a.bc], .agg #[.string f.dig, .int .i64 f.size, .int .i64 f.kind, .string f.frm], .string tier, .int .i64 now] w (StoOk w (St.imp s f tier now)) := by
 obtain ⟨h0, hko, hm, hw⟩ := St.imp_way r hq
 have h16 := St.fault16 h0
 cases hw with
 | new h hk x hx kk hkk hka hfr hnl => exact importedR_new s a f hfz tier now w hI h0 h16 hf100 hko h r x hx kk hkk hka hm hk hfr hnl
 | there h hk x hx kk hkk hka hfr => exact importedR_there s a f hfz tier now w hI h0 h16 hf100 hko h r x hx kk hkk hka hm hk hfr
 | kept h kc hk x hx kk hkk hka => exact importedR_kept s a f hfz tier now w hI h0 h16 hf100 hko h r x hx kk hkk hka hm kc hk
def StoAny (w : World) (q : Int) (t : Sto) (e : Ending) (w' : World) : Prop := ∃ a' : StA, e = .returned (.tuple #[.agg #[.int .i64 t.least, .int .i64 t.wait, .slice a'.ta t.tiers.length a'.tc, .slice a'.fa t.files.length a'.fc, .slice a'.ca t.copies.length a'.cc, .slice a'.ha t.held.length a'.hc, .slice a'.ba t.bin.length a'.bc], .int .i64 q]) ∧ StIn w' t a' ∧ Below w.heap.size w w'
def EmpAny (w : World) (q n : Int) (t : Sto) (e : Ending) (w' : World) : Prop := ∃ a' : StA, e = .returned (.tuple #[.agg #[.int .i64 t.least, .int .i64 t.wait, .slice a'.ta t.tiers.length a'.tc, .slice a'.fa t.files.length a'.fc, .slice a'.ca t.copies.length a'.cc, .slice a'.ha t.held.length a'.hc, .slice a'.ba t.bin.length a'.bc], .int .i64 n, .int .i64 q]) ∧ StIn w' t a' ∧ Below w.heap.size w w'
theorem StoErr.any {w w' : World} {q : Int} {e : Ending} (h : StoErr w q e w') : StoAny w q Sto.zero e w' := ⟨StA.zero, h.1, StIn.zero _, h.2⟩
theorem StoOk.any {w w' : World} {t : Sto} {e : Ending} (h : StoOk w t e w') : StoAny w 0 t e w' := h
theorem EmpErr.any {w w' : World} {q : Int} {e : Ending} (h : EmpErr w q e w') : EmpAny w q 0 Sto.zero e w' := ⟨StA.zero, h.1, StIn.zero _, h.2⟩
theorem EmpOk.any {w w' : World} {t : Sto} {n : Int} {e : Ending} (h : EmpOk w t n e w') : EmpAny w 0 n t e w' := h
theorem becameZ (a b : StA) (t : Sto) (q : Int) (hq : q ≠ 0) (w : World) (hA : StIn w Sto.zero a) : Calls Tryz.prog 15 #[.agg #[.int .i64 Sto.zero.least, .int .i64 Sto.zero.wait, .slice a.ta Sto.zero.tiers.length a.tc, .slice a.fa Sto.zero.files.length a.fc, .slice a.ca Sto.zero.copies.length a.cc, .slice a.ha Sto.zero.held.length a.hc, .slice a.ba Sto.zero.bin.length a.bc], .int .i64 q, .agg #[.int .i64 t.least, .int .i64 t.wait, .slice b.ta t.tiers.length b.tc, .slice b.fa t.files.length b.fc, .slice b.ca t.copies.length b.cc, .slice b.ha t.held.length b.hc, .slice b.ba t.bin.length b.bc], .int .i64 q] w fun e w' => e = .returned (.bool true) ∧ Below w.heap.size w w' := by
 obtain ⟨W1, hW1, hP, hz1, hB1⟩ := box w #[.int .i64 Sto.zero.least, .int .i64 Sto.zero.wait, .slice a.ta Sto.zero.tiers.length a.tc, .slice a.fa Sto.zero.files.length a.fc, .slice a.ca Sto.zero.copies.length a.cc, .slice a.ha Sto.zero.held.length a.hc, .slice a.ba Sto.zero.bin.length a.bc] 28
 obtain ⟨W2, hW2, hQ, hz2, hB2⟩ := box W1 #[.int .i64 0, .int .i64 0, .slice none 0 0, .slice none 0 0, .slice none 0 0, .slice none 0 0, .slice none 0 0] 28
 have HW1 := Lib.hid hW1; have HW2 := Lib.hid hW2
 have hBB := below_up hB1 hB2
 have hq1 : (q != 0) = true := by simpa using hq
 have hq2 : (q == q) = true := by simp
 obtain ⟨p0, p1, p2, p3, p4, p5, p6⟩ := hP.seven
 have HBB := Lib.hid hBB
 have HSS := Lib.hid (sameStore_is Sto.zero a StA.zero W2 (hA.keep hBB) (StIn.zero _))
 clear hA hW1 hW2 hP hQ hz2 hB1 hB2 hBB hq
 go_enter Tryz.func15, Tryz.ntmps15
 go_upto_region 1 with fail
 rw [HW1.out]
 go_wp2_with fail
 rw [HW2.out]
 go_at_call 34
 refine HSS.out.mono ?_
 rintro e wq ⟨rfl, hq⟩
 go_wp2_with fail
 go_ret
 exact ⟨rfl, below_up HBB.out hq⟩
theorem became_any (t : Sto) (a b : StA) (q : Int) (h : q = 0 ∨ t = Sto.zero) (w : World) (hA : StIn w t a) (hB : StIn w t b) : Calls Tryz.prog 15 #[.agg #[.int .i64 t.least, .int .i64 t.wait, .slice a.ta t.tiers.length a.tc, .slice a.fa t.files.length a.fc, .slice a.ca t.copies.length a.cc, .slice a.ha t.held.length a.hc, .slice a.ba t.bin.length a.bc], .int .i64 q, .agg #[.int .i64 t.least, .int .i64 t.wait, .slice b.ta t.tiers.length b.tc, .slice b.fa t.files.length b.fc, .slice b.ca t.copies.length b.cc, .slice b.ha t.held.length b.hc, .slice b.ba t.bin.length b.bc], .int .i64 q] w fun e w' => e = .returned (.bool true) ∧ Below w.heap.size w w' := by
 by_cases hq : q = 0
 ·subst hq; exact became_ok t a b w hA hB
 ·obtain rfl := h.resolve_left hq
  exact becameZ a b Sto.zero q hq w hA
theorem storeKeeps_gen (s : Sto) (a : StA) (f : Fil) (tier d : ByteArray) (now day : Int) (w : World) (hI : StIn w s a) (r : St.Right s) (p1 p2 p3 p4 n : Int) (t1 t2 t3 t4 : Sto)
  (h1 : p1 = 0 ∨ t1 = Sto.zero) (h2 : p2 = 0 ∨ t2 = Sto.zero) (h3 : p3 = 0 ∨ t3 = Sto.zero) (h4 : p4 = 0 ∨ t4 = Sto.zero)
  (k1 : ∀ V, StIn V s a → Calls Tryz.prog 10 #[.agg #[.int .i64 s.least, .int .i64 s.wait, .slice a.ta s.tiers.length a.tc, .slice a.fa s.files.length a.fc, .slice a.ca s.copies.length a.cc, .slice a.ha s.held.length a.hc, .slice a.ba s.bin.length a.bc], .agg #[.string f.dig, .int .i64 f.size, .int .i64 f.kind, .string f.frm], .string tier, .int .i64 now] V (StoAny V p1 t1))
  (k2 : ∀ V, StIn V s a → Calls Tryz.prog 11 #[.agg #[.int .i64 s.least, .int .i64 s.wait, .slice a.ta s.tiers.length a.tc, .slice a.fa s.files.length a.fc, .slice a.ca s.copies.length a.cc, .slice a.ha s.held.length a.hc, .slice a.ba s.bin.length a.bc], .string d] V (StoAny V p2 t2))
  (k3 : ∀ V, StIn V s a → Calls Tryz.prog 12 #[.agg #[.int .i64 s.least, .int .i64 s.wait, .slice a.ta s.tiers.length a.tc, .slice a.fa s.files.length a.fc, .slice a.ca s.copies.length a.cc, .slice a.ha s.held.length a.hc, .slice a.ba s.bin.length a.bc], .string d, .int .i64 day] V (StoAny V p3 t3))
  (k4 : ∀ V, StIn V s a → Calls Tryz.prog 13 #[.agg #[.int .i64 s.least, .int .i64 s.wait, .slice a.ta s.tiers.length a.tc, .slice a.fa s.files.length a.fc, .slice a.ca s.copies.length a.cc, .slice a.ha s.held.length a.hc, .slice a.ba s.bin.length a.bc], .int .i64 day] V (EmpAny V p4 n t4))
  (r1 : ∀ V, StIn V s a → Calls Tryz.prog 16 #[.agg #[.int .i64 s.least, .int .i64 s.wait, .slice a.ta s.tiers.length a.tc, .slice a.fa s.files.length a.fc, .slice a.ca s.copies.length a.cc, .slice a.ha s.held.length a.hc, .slice a.ba s.bin.length a.bc], .agg #[.string f.dig, .int .i64 f.size, .int .i64 f.kind, .string f.frm], .string tier, .int .i64 now] V (StoAny V p1 t1))
  (r2 : ∀ V, StIn V s a → Calls Tryz.prog 17 #[.agg #[.int .i64 s.least, .int .i64 s.wait, .slice a.ta s.tiers.length a.tc, .slice a.fa s.files.length a.fc, .slice a.ca s.copies.length a.cc, .slice a.ha s.held.length a.hc, .slice a.ba s.bin.length a.bc], .string d] V (StoAny V p2 t2))
  (r3 : ∀ V, StIn V s a → Calls Tryz.prog 18 #[.agg #[.int .i64 s.least, .int .i64 s.wait, .slice a.ta s.tiers.length a.tc, .slice a.fa s.files.length a.fc, .slice a.ca s.copies.length a.cc, .slice a.ha s.held.length a.hc, .slice a.ba s.bin.length a.bc], .string d, .int .i64 day] V (StoAny V p3 t3))
  (r4 : ∀ V, StIn V s a → Calls Tryz.prog 19 #[.agg #[.int .i64 s.least, .int .i64 s.wait, .slice a.ta s.tiers.length a.tc, .slice a.fa s.files.length a.fc, .slice a.ca s.copies.length a.cc, .slice a.ha s.held.length a.hc, .slice a.ba s.bin.length a.bc], .int .i64 day] V (EmpAny V p4 n t4)) :
  Calls Tryz.prog 3 #[.agg #[.int .i64 s.least, .int .i64 s.wait, .slice a.ta s.tiers.length a.tc, .slice a.fa s.files.length a.fc, .slice a.ca s.copies.length a.cc, .slice a.ha s.held.length a.hc, .slice a.ba s.bin.length a.bc], .agg #[.string f.dig, .int .i64 f.size, .int .i64 f.kind, .string f.frm], .string tier, .string d, .int .i64 now, .int .i64 day] w fun e w' => e = .returned (.bool true) ∧ Below w.heap.size w w' := by
 obtain ⟨W0, hW0, hP, hz0, hB0⟩ := box w #[.int .i64 s.least, .int .i64 s.wait, .slice a.ta s.tiers.length a.tc, .slice a.fa s.files.length a.fc, .slice a.ca s.copies.length a.cc, .slice a.ha s.held.length a.hc, .slice a.ba s.bin.length a.bc] 28
 obtain ⟨W1, hW1, hD, hz1, hB1⟩ := box W0 #[.string f.dig, .int .i64 f.size, .int .i64 f.kind, .string f.frm] 30
 rw [hz0] at hD hz1
 have hP := hP.keep hB1
 have hBB := below_up hB0 hB1
 have HW0 := Lib.hid hW0; have HW1 := Lib.hid hW1; have HP := Lib.hid hP; have HD := Lib.hid hD; have HBB := Lib.hid hBB
 have HI1 := Lib.hid (hI.keep hBB)
 obtain ⟨q0, q1, q2, q3, q4, q5, q6⟩ := hP.seven
 obtain ⟨d0, d1, d2, d3⟩ := hD.four
 have HSE := Lib.hid (fun V (hv : Below W1.heap.size W1 V) => storeError_is s a V (HI1.out.keep hv))
 clear hI hW0 hW1 hP hD hz0 hz1 hB0 hB1 hBB
 have hv : Below W1.heap.size W1 W1 := Below.refl _ _
 rw [St.err_iff.2 r] at HSE
 have HK1 := Lib.hid (fun V (hv : Below W1.heap.size W1 V) => k1 V (HI1.out.keep hv))
 have HK2 := Lib.hid (fun V (hv : Below W1.heap.size W1 V) => k2 V (HI1.out.keep hv))
 have HK3 := Lib.hid (fun V (hv : Below W1.heap.size W1 V) => k3 V (HI1.out.keep hv))
 have HK4 := Lib.hid (fun V (hv : Below W1.heap.size W1 V) => k4 V (HI1.out.keep hv))
 have HR1 := Lib.hid (fun V (hv : Below W1.heap.size W1 V) => r1 V (HI1.out.keep hv))
 have HR2 := Lib.hid (fun V (hv : Below W1.heap.size W1 V) => r2 V (HI1.out.keep hv))
 have HR3 := Lib.hid (fun V (hv : Below W1.heap.size W1 V) => r3 V (HI1.out.keep hv))
 have HR4 := Lib.hid (fun V (hv : Below W1.heap.size W1 V) => r4 V (HI1.out.keep hv))
 unfold StoAny at HK1 HK2 HK3 HR1 HR2 HR3
 unfold EmpAny at HK4 HR4
 have HA1 := Lib.hid (fun V a b => became_any t1 a b p1 h1 V)
 have HA2 := Lib.hid (fun V a b => became_any t2 a b p2 h2 V)
 have HA3 := Lib.hid (fun V a b => became_any t3 a b p3 h3 V)
 have HA4 := Lib.hid (fun V a b => became_any t4 a b p4 h4 V)
 clear r k1 k2 k3 k4 r1 r2 r3 r4 h1 h2 h3 h4
 go_enter Tryz.func3, Tryz.ntmps3
 go_upto_region 1 with fail
 rw [HW0.out, HW1.out]
 go_upto_region 2 with (first
  | (go_at_call 10; (with_reducible refine (HK1.out _ hv).mono ?_); rintro e w2 ⟨a1, rfl, hJ1, hq⟩; have HJ1 := Lib.hid hJ1; clear hJ1; have hv := below_up hv hq; obtain ⟨q0, q1, q2, q3, q4, q5, q6⟩ := (HP.out.keep hv).seven; obtain ⟨d0, d1, d2, d3⟩ := (HD.out.keep hv).four)
  | (refine wpList_store_row rfl 28 _ _ rfl w2.heap.size #[.int .i64 t1.least, .int .i64 t1.wait, .slice a1.ta t1.tiers.length a1.tc, .slice a1.fa t1.files.length a1.fc, .slice a1.ca t1.copies.length a1.cc, .slice a1.ha t1.held.length a1.hc, .slice a1.ba t1.bin.length a1.bc] rfl rfl 28 #[.int .i64 0, .int .i64 0, .slice none 0 0, .slice none 0 0, .slice none 0 0, .slice none 0 0, .slice none 0 0] (heap_alloc_new w2 _) infoSto rfl (by simp [Value.oneCell']) ?_))
 obtain ⟨X2, hX, hX2, hXz, hY2⟩ := fillNew w2 #[.int .i64 0, .int .i64 0, .slice none 0 0, .slice none 0 0, .slice none 0 0, .slice none 0 0, .slice none 0 0] #[.int .i64 t1.least, .int .i64 t1.wait, .slice a1.ta t1.tiers.length a1.tc, .slice a1.fa t1.files.length a1.fc, .slice a1.ca t1.copies.length a1.cc, .slice a1.ha t1.held.length a1.hc, .slice a1.ba t1.bin.length a1.bc] 28
 rw [hX]
 have hv := below_up hv hY2
 have HJ1 := Lib.hid (HJ1.out.keep hY2)
 have hX2 := Lib.hid hX2
 clear q0 q1 q2 q3 q4 q5 q6 d0 d1 d2 d3 hX hXz
 obtain ⟨q0, q1, q2, q3, q4, q5, q6⟩ := (HP.out.keep hv).seven; obtain ⟨d0, d1, d2, d3⟩ := (HD.out.keep hv).four
 go_upto_region 3 with (first
  | (go_at_call 11; (with_reducible refine (HK2.out _ hv).mono ?_); rintro e w3 ⟨a2, rfl, hJ2, hq⟩; have HJ2 := Lib.hid hJ2; clear hJ2; have HJ1 := Lib.hid (HJ1.out.keep hq); have hX2 := Lib.hid (hX2.out.keep hq); have hv := below_up hv hq; obtain ⟨q0, q1, q2, q3, q4, q5, q6⟩ := (HP.out.keep hv).seven; obtain ⟨d0, d1, d2, d3⟩ := (HD.out.keep hv).four)
  | (refine wpList_store_row rfl 28 _ _ rfl w3.heap.size #[.int .i64 t2.least, .int .i64 t2.wait, .slice a2.ta t2.tiers.length a2.tc, .slice a2.fa t2.files.length a2.fc, .slice a2.ca t2.copies.length a2.cc, .slice a2.ha t2.held.length a2.hc, .slice a2.ba t2.bin.length a2.bc] rfl rfl 28 #[.int .i64 0, .int .i64 0, .slice none 0 0, .slice none 0 0, .slice none 0 0, .slice none 0 0, .slice none 0 0] (heap_alloc_new w3 _) infoSto rfl (by simp [Value.oneCell']) ?_))
 obtain ⟨X3, hX, hX3, hXz, hY3⟩ := fillNew w3 #[.int .i64 0, .int .i64 0, .slice none 0 0, .slice none 0 0, .slice none 0 0, .slice none 0 0, .slice none 0 0] #[.int .i64 t2.least, .int .i64 t2.wait, .slice a2.ta t2.tiers.length a2.tc, .slice a2.fa t2.files.length a2.fc, .slice a2.ca t2.copies.length a2.cc, .slice a2.ha t2.held.length a2.hc, .slice a2.ba t2.bin.length a2.bc] 28
 rw [hX]
 have hv := below_up hv hY3
 have HJ2 := Lib.hid (HJ2.out.keep hY3)
 have hX3 := Lib.hid hX3
 clear q0 q1 q2 q3 q4 q5 q6 d0 d1 d2 d3 hX hXz
 obtain ⟨q0, q1, q2, q3, q4, q5, q6⟩ := (HP.out.keep hv).seven; obtain ⟨d0, d1, d2, d3⟩ := (HD.out.keep hv).four
 have hX2 := Lib.hid (hX2.out.keep hY3); have HJ1 := Lib.hid (HJ1.out.keep hY3)
 go_upto_region 4 with (first
  | (go_at_call 12; (with_reducible refine (HK3.out _ hv).mono ?_); rintro e w4 ⟨a3, rfl, hJ3, hq⟩; have HJ3 := Lib.hid hJ3; clear hJ3; have HJ1 := Lib.hid (HJ1.out.keep hq); have HJ2 := Lib.hid (HJ2.out.keep hq); have hX2 := Lib.hid (hX2.out.keep hq); have hX3 := Lib.hid (hX3.out.keep hq); have hv := below_up hv hq; obtain ⟨q0, q1, q2, q3, q4, q5, q6⟩ := (HP.out.keep hv).seven; obtain ⟨d0, d1, d2, d3⟩ := (HD.out.keep hv).four)
  | (refine wpList_store_row rfl 28 _ _ rfl w4.heap.size #[.int .i64 t3.least, .int .i64 t3.wait, .slice a3.ta t3.tiers.length a3.tc, .slice a3.fa t3.files.length a3.fc, .slice a3.ca t3.copies.length a3.cc, .slice a3.ha t3.held.length a3.hc, .slice a3.ba t3.bin.length a3.bc] rfl rfl 28 #[.int .i64 0, .int .i64 0, .slice none 0 0, .slice none 0 0, .slice none 0 0, .slice none 0 0, .slice none 0 0] (heap_alloc_new w4 _) infoSto rfl (by simp [Value.oneCell']) ?_))
 obtain ⟨X4, hX, hX4, hXz, hY4⟩ := fillNew w4 #[.int .i64 0, .int .i64 0, .slice none 0 0, .slice none 0 0, .slice none 0 0, .slice none 0 0, .slice none 0 0] #[.int .i64 t3.least, .int .i64 t3.wait, .slice a3.ta t3.tiers.length a3.tc, .slice a3.fa t3.files.length a3.fc, .slice a3.ca t3.copies.length a3.cc, .slice a3.ha t3.held.length a3.hc, .slice a3.ba t3.bin.length a3.bc] 28
 rw [hX]
 have hv := below_up hv hY4
 have HJ3 := Lib.hid (HJ3.out.keep hY4)
 have hX4 := Lib.hid hX4
 clear q0 q1 q2 q3 q4 q5 q6 d0 d1 d2 d3 hX hXz
 obtain ⟨q0, q1, q2, q3, q4, q5, q6⟩ := (HP.out.keep hv).seven; obtain ⟨d0, d1, d2, d3⟩ := (HD.out.keep hv).four
 have hX2 := Lib.hid (hX2.out.keep hY4); have hX3 := Lib.hid (hX3.out.keep hY4); have HJ1 := Lib.hid (HJ1.out.keep hY4); have HJ2 := Lib.hid (HJ2.out.keep hY4)
 go_upto_region 5 with (first
  | (go_at_call 13; (with_reducible refine (HK4.out _ hv).mono ?_); rintro e w5 ⟨a4, rfl, hJ4, hq⟩; have HJ4 := Lib.hid hJ4; clear hJ4; have HJ1 := Lib.hid (HJ1.out.keep hq); have HJ2 := Lib.hid (HJ2.out.keep hq); have HJ3 := Lib.hid (HJ3.out.keep hq); have hX2 := Lib.hid (hX2.out.keep hq); have hX3 := Lib.hid (hX3.out.keep hq); have hX4 := Lib.hid (hX4.out.keep hq); have hv := below_up hv hq; obtain ⟨q0, q1, q2, q3, q4, q5, q6⟩ := (HP.out.keep hv).seven; obtain ⟨d0, d1, d2, d3⟩ := (HD.out.keep hv).four)
  | (refine wpList_store_row rfl 28 _ _ rfl w5.heap.size #[.int .i64 t4.least, .int .i64 t4.wait, .slice a4.ta t4.tiers.length a4.tc, .slice a4.fa t4.files.length a4.fc, .slice a4.ca t4.copies.length a4.cc, .slice a4.ha t4.held.length a4.hc, .slice a4.ba t4.bin.length a4.bc] rfl rfl 28 #[.int .i64 0, .int .i64 0, .slice none 0 0, .slice none 0 0, .slice none 0 0, .slice none 0 0, .slice none 0 0] (heap_alloc_new w5 _) infoSto rfl (by simp [Value.oneCell']) ?_))
 obtain ⟨X5, hX, hX5, hXz, hY5⟩ := fillNew w5 #[.int .i64 0, .int .i64 0, .slice none 0 0, .slice none 0 0, .slice none 0 0, .slice none 0 0, .slice none 0 0] #[.int .i64 t4.least, .int .i64 t4.wait, .slice a4.ta t4.tiers.length a4.tc, .slice a4.fa t4.files.length a4.fc, .slice a4.ca t4.copies.length a4.cc, .slice a4.ha t4.held.length a4.hc, .slice a4.ba t4.bin.length a4.bc] 28
 rw [hX]
 have hv := below_up hv hY5
 have HJ4 := Lib.hid (HJ4.out.keep hY5)
 have hX5 := Lib.hid hX5
 clear q0 q1 q2 q3 q4 q5 q6 d0 d1 d2 d3 hX hXz
 obtain ⟨q0, q1, q2, q3, q4, q5, q6⟩ := (HP.out.keep hv).seven; obtain ⟨d0, d1, d2, d3⟩ := (HD.out.keep hv).four
 have hX2 := Lib.hid (hX2.out.keep hY5); have hX3 := Lib.hid (hX3.out.keep hY5); have hX4 := Lib.hid (hX4.out.keep hY5); have HJ1 := Lib.hid (HJ1.out.keep hY5); have HJ2 := Lib.hid (HJ2.out.keep hY5); have HJ3 := Lib.hid (HJ3.out.keep hY5)
 have HPX : Hid (Blk X5 w.heap.size #[.int .i64 s.least, .int .i64 s.wait, .slice a.ta s.tiers.length a.tc, .slice a.fa s.files.length a.fc, .slice a.ca s.copies.length a.cc, .slice a.ha s.held.length a.hc, .slice a.ba s.bin.length a.bc] 28) := Lib.hid (HP.out.keep hv)
 have HDX : Hid (Blk X5 (w.heap.size + 1) #[.string f.dig, .int .i64 f.size, .int .i64 f.kind, .string f.frm] 30) := Lib.hid (HD.out.keep hv)
 have HIX := Lib.hid (fun V (h : Below X5.heap.size X5 V) => below_up hv h)
 have HBX := Lib.hid (below_up HBB.out hv)
 clear hY2 hY3 hY4 hY5 hq
 have hu : Below X5.heap.size X5 X5 := Below.refl _ _
 go_upto_region 9 with (go_at_call 14; (with_reducible refine (HSE.out _ hv).mono ?_); rintro e w6 ⟨rfl, hq⟩; have hu := below_up hu hq; have hv := HIX.out _ hu; obtain ⟨q0, q1, q2, q3, q4, q5, q6⟩ := (HP.out.keep hv).seven; obtain ⟨d0, d1, d2, d3⟩ := (HD.out.keep hv).four)
 go_upto_region 10 with (first
  | (go_at_call 16; (with_reducible refine (HR1.out _ hv).mono ?_); rintro e w7 ⟨c1, rfl, hL1, hq⟩; have HL1 := Lib.hid hL1; clear hL1; have hu := below_up hu hq; have hv := HIX.out _ hu; obtain ⟨q0, q1, q2, q3, q4, q5, q6⟩ := (HP.out.keep hv).seven; obtain ⟨d0, d1, d2, d3⟩ := (HD.out.keep hv).four)
  | (refine wpList_store_row rfl 28 _ _ rfl w7.heap.size #[.int .i64 t1.least, .int .i64 t1.wait, .slice c1.ta t1.tiers.length c1.tc, .slice c1.fa t1.files.length c1.fc, .slice c1.ca t1.copies.length c1.cc, .slice c1.ha t1.held.length c1.hc, .slice c1.ba t1.bin.length c1.bc] rfl rfl 28 #[.int .i64 0, .int .i64 0, .slice none 0 0, .slice none 0 0, .slice none 0 0, .slice none 0 0, .slice none 0 0] (heap_alloc_new w7 _) infoSto rfl (by simp [Value.oneCell']) ?_))
 obtain ⟨Y1, hX, hZ1, hXz, hY2⟩ := fillNew w7 #[.int .i64 0, .int .i64 0, .slice none 0 0, .slice none 0 0, .slice none 0 0, .slice none 0 0, .slice none 0 0] #[.int .i64 t1.least, .int .i64 t1.wait, .slice c1.ta t1.tiers.length c1.tc, .slice c1.fa t1.files.length c1.fc, .slice c1.ca t1.copies.length c1.cc, .slice c1.ha t1.held.length c1.hc, .slice c1.ba t1.bin.length c1.bc] 28
 rw [hX]
 have hv := below_up hv hY2
 have HL1 := Lib.hid (HL1.out.keep hY2)
 have hZ1 := Lib.hid hZ1
 clear q0 q1 q2 q3 q4 q5 q6 d0 d1 d2 d3 hX hXz
 obtain ⟨q0, q1, q2, q3, q4, q5, q6⟩ := (HP.out.keep hv).seven; obtain ⟨d0, d1, d2, d3⟩ := (HD.out.keep hv).four
 have hu := below_up hu hY2
 go_upto_region 11 with (first
  | (go_at_call 17; (with_reducible refine (HR2.out _ hv).mono ?_); rintro e w8 ⟨c2, rfl, hL2, hq⟩; have HL2 := Lib.hid hL2; clear hL2; have HL1 := Lib.hid (HL1.out.keep hq); have hZ1 := Lib.hid (hZ1.out.keep hq); have hu := below_up hu hq; have hv := HIX.out _ hu; obtain ⟨q0, q1, q2, q3, q4, q5, q6⟩ := (HP.out.keep hv).seven; obtain ⟨d0, d1, d2, d3⟩ := (HD.out.keep hv).four)
  | (refine wpList_store_row rfl 28 _ _ rfl w8.heap.size #[.int .i64 t2.least, .int .i64 t2.wait, .slice c2.ta t2.tiers.length c2.tc, .slice c2.fa t2.files.length c2.fc, .slice c2.ca t2.copies.length c2.cc, .slice c2.ha t2.held.length c2.hc, .slice c2.ba t2.bin.length c2.bc] rfl rfl 28 #[.int .i64 0, .int .i64 0, .slice none 0 0, .slice none 0 0, .slice none 0 0, .slice none 0 0, .slice none 0 0] (heap_alloc_new w8 _) infoSto rfl (by simp [Value.oneCell']) ?_))
 obtain ⟨Y2, hX, hZ2, hXz, hY3⟩ := fillNew w8 #[.int .i64 0, .int .i64 0, .slice none 0 0, .slice none 0 0, .slice none 0 0, .slice none 0 0, .slice none 0 0] #[.int .i64 t2.least, .int .i64 t2.wait, .slice c2.ta t2.tiers.length c2.tc, .slice c2.fa t2.files.length c2.fc, .slice c2.ca t2.copies.length c2.cc, .slice c2.ha t2.held.length c2.hc, .slice c2.ba t2.bin.length c2.bc] 28
 rw [hX]
 have hv := below_up hv hY3
 have HL2 := Lib.hid (HL2.out.keep hY3)
 have hZ2 := Lib.hid hZ2
 clear q0 q1 q2 q3 q4 q5 q6 d0 d1 d2 d3 hX hXz
 obtain ⟨q0, q1, q2, q3, q4, q5, q6⟩ := (HP.out.keep hv).seven; obtain ⟨d0, d1, d2, d3⟩ := (HD.out.keep hv).four
 have hu := below_up hu hY3; have HL1 := Lib.hid (HL1.out.keep hY3); have hZ1 := Lib.hid (hZ1.out.keep hY3)
 go_upto_region 12 with (first
  | (go_at_call 18; (with_reducible refine (HR3.out _ hv).mono ?_); rintro e w9 ⟨c3, rfl, hL3, hq⟩; have HL3 := Lib.hid hL3; clear hL3; have HL1 := Lib.hid (HL1.out.keep hq); have HL2 := Lib.hid (HL2.out.keep hq); have hZ1 := Lib.hid (hZ1.out.keep hq); have hZ2 := Lib.hid (hZ2.out.keep hq); have hu := below_up hu hq; have hv := HIX.out _ hu; obtain ⟨q0, q1, q2, q3, q4, q5, q6⟩ := (HP.out.keep hv).seven; obtain ⟨d0, d1, d2, d3⟩ := (HD.out.keep hv).four)
  | (refine wpList_store_row rfl 28 _ _ rfl w9.heap.size #[.int .i64 t3.least, .int .i64 t3.wait, .slice c3.ta t3.tiers.length c3.tc, .slice c3.fa t3.files.length c3.fc, .slice c3.ca t3.copies.length c3.cc, .slice c3.ha t3.held.length c3.hc, .slice c3.ba t3.bin.length c3.bc] rfl rfl 28 #[.int .i64 0, .int .i64 0, .slice none 0 0, .slice none 0 0, .slice none 0 0, .slice none 0 0, .slice none 0 0] (heap_alloc_new w9 _) infoSto rfl (by simp [Value.oneCell']) ?_))
 obtain ⟨Y3, hX, hZ3, hXz, hY4⟩ := fillNew w9 #[.int .i64 0, .int .i64 0, .slice none 0 0, .slice none 0 0, .slice none 0 0, .slice none 0 0, .slice none 0 0] #[.int .i64 t3.least, .int .i64 t3.wait, .slice c3.ta t3.tiers.length c3.tc, .slice c3.fa t3.files.length c3.fc, .slice c3.ca t3.copies.length c3.cc, .slice c3.ha t3.held.length c3.hc, .slice c3.ba t3.bin.length c3.bc] 28
 rw [hX]
 have hv := below_up hv hY4
 have HL3 := Lib.hid (HL3.out.keep hY4)
 have hZ3 := Lib.hid hZ3
 clear q0 q1 q2 q3 q4 q5 q6 d0 d1 d2 d3 hX hXz
 obtain ⟨q0, q1, q2, q3, q4, q5, q6⟩ := (HP.out.keep hv).seven; obtain ⟨d0, d1, d2, d3⟩ := (HD.out.keep hv).four
 have hu := below_up hu hY4; have HL1 := Lib.hid (HL1.out.keep hY4); have HL2 := Lib.hid (HL2.out.keep hY4); have hZ1 := Lib.hid (hZ1.out.keep hY4); have hZ2 := Lib.hid (hZ2.out.keep hY4)
 go_upto_region 13 with (first
  | (go_at_call 19; (with_reducible refine (HR4.out _ hv).mono ?_); rintro e w10 ⟨c4, rfl, hL4, hq⟩; have HL4 := Lib.hid hL4; clear hL4; have HL1 := Lib.hid (HL1.out.keep hq); have HL2 := Lib.hid (HL2.out.keep hq); have HL3 := Lib.hid (HL3.out.keep hq); have hZ1 := Lib.hid (hZ1.out.keep hq); have hZ2 := Lib.hid (hZ2.out.keep hq); have hZ3 := Lib.hid (hZ3.out.keep hq); have hu := below_up hu hq; have hv := HIX.out _ hu; obtain ⟨q0, q1, q2, q3, q4, q5, q6⟩ := (HP.out.keep hv).seven; obtain ⟨d0, d1, d2, d3⟩ := (HD.out.keep hv).four)
  | (refine wpList_store_row rfl 28 _ _ rfl w10.heap.size #[.int .i64 t4.least, .int .i64 t4.wait, .slice c4.ta t4.tiers.length c4.tc, .slice c4.fa t4.files.length c4.fc, .slice c4.ca t4.copies.length c4.cc, .slice c4.ha t4.held.length c4.hc, .slice c4.ba t4.bin.length c4.bc] rfl rfl 28 #[.int .i64 0, .int .i64 0, .slice none 0 0, .slice none 0 0, .slice none 0 0, .slice none 0 0, .slice none 0 0] (heap_alloc_new w10 _) infoSto rfl (by simp [Value.oneCell']) ?_))
 obtain ⟨Y4, hX, hZ4, hXz, hY5⟩ := fillNew w10 #[.int .i64 0, .int .i64 0, .slice none 0 0, .slice none 0 0, .slice none 0 0, .slice none 0 0, .slice none 0 0] #[.int .i64 t4.least, .int .i64 t4.wait, .slice c4.ta t4.tiers.length c4.tc, .slice c4.fa t4.files.length c4.fc, .slice c4.ca t4.copies.length c4.cc, .slice c4.ha t4.held.length c4.hc, .slice c4.ba t4.bin.length c4.bc] 28
 rw [hX]
 have hv := below_up hv hY5
 have HL4 := Lib.hid (HL4.out.keep hY5)
 have hZ4 := Lib.hid hZ4
 clear q0 q1 q2 q3 q4 q5 q6 d0 d1 d2 d3 hX hXz
 obtain ⟨q0, q1, q2, q3, q4, q5, q6⟩ := (HP.out.keep hv).seven; obtain ⟨d0, d1, d2, d3⟩ := (HD.out.keep hv).four
 have hu := below_up hu hY5; have HL1 := Lib.hid (HL1.out.keep hY5); have HL2 := Lib.hid (HL2.out.keep hY5); have HL3 := Lib.hid (HL3.out.keep hY5); have hZ1 := Lib.hid (hZ1.out.keep hY5); have hZ2 := Lib.hid (hZ2.out.keep hY5); have hZ3 := Lib.hid (hZ3.out.keep hY5)
 have HBV := Lib.hid (below_up HBB.out hv)
 have HM : Hid (∀ V, Below Y4.heap.size Y4 V → ((StIn V t1 a1 ∧ StIn V t1 c1) ∧ (StIn V t2 a2 ∧ StIn V t2 c2)) ∧ (StIn V t3 a3 ∧ StIn V t3 c3) ∧ (StIn V t4 a4 ∧ StIn V t4 c4)) := Lib.hid fun V h => by
  have g := below_up hu h
  exact ⟨⟨⟨HJ1.out.keep g, HL1.out.keep h⟩, ⟨HJ2.out.keep g, HL2.out.keep h⟩⟩, ⟨HJ3.out.keep g, HL3.out.keep h⟩, ⟨HJ4.out.keep g, HL4.out.keep h⟩⟩
 have HCL : Hid (∀ V, Below Y4.heap.size Y4 V → ((Blk V w2.heap.size #[.int .i64 t1.least, .int .i64 t1.wait, .slice a1.ta t1.tiers.length a1.tc, .slice a1.fa t1.files.length a1.fc, .slice a1.ca t1.copies.length a1.cc, .slice a1.ha t1.held.length a1.hc, .slice a1.ba t1.bin.length a1.bc] 28 ∧ Blk V w7.heap.size #[.int .i64 t1.least, .int .i64 t1.wait, .slice c1.ta t1.tiers.length c1.tc, .slice c1.fa t1.files.length c1.fc, .slice c1.ca t1.copies.length c1.cc, .slice c1.ha t1.held.length c1.hc, .slice c1.ba t1.bin.length c1.bc] 28) ∧ (Blk V w3.heap.size #[.int .i64 t2.least, .int .i64 t2.wait, .slice a2.ta t2.tiers.length a2.tc, .slice a2.fa t2.files.length a2.fc, .slice a2.ca t2.copies.length a2.cc, .slice a2.ha t2.held.length a2.hc, .slice a2.ba t2.bin.length a2.bc] 28 ∧ Blk V w8.heap.size #[.int .i64 t2.least, .int .i64 t2.wait, .slice c2.ta t2.tiers.length c2.tc, .slice c2.fa t2.files.length c2.fc, .slice c2.ca t2.copies.length c2.cc, .slice c2.ha t2.held.length c2.hc, .slice c2.ba t2.bin.length c2.bc] 28)) ∧ (Blk V w4.heap.size #[.int .i64 t3.least, .int .i64 t3.wait, .slice a3.ta t3.tiers.length a3.tc, .slice a3.fa t3.files.length a3.fc, .slice a3.ca t3.copies.length a3.cc, .slice a3.ha t3.held.length a3.hc, .slice a3.ba t3.bin.length a3.bc] 28 ∧ Blk V w9.heap.size #[.int .i64 t3.least, .int .i64 t3.wait, .slice c3.ta t3.tiers.length c3.tc, .slice c3.fa t3.files.length c3.fc, .slice c3.ca t3.copies.length c3.cc, .slice c3.ha t3.held.length c3.hc, .slice c3.ba t3.bin.length c3.bc] 28) ∧ (Blk V w5.heap.size #[.int .i64 t4.least, .int .i64 t4.wait, .slice a4.ta t4.tiers.length a4.tc, .slice a4.fa t4.files.length a4.fc, .slice a4.ca t4.copies.length a4.cc, .slice a4.ha t4.held.length a4.hc, .slice a4.ba t4.bin.length a4.bc] 28 ∧ Blk V w10.heap.size #[.int .i64 t4.least, .int .i64 t4.wait, .slice c4.ta t4.tiers.length c4.tc, .slice c4.fa t4.files.length c4.fc, .slice c4.ca t4.copies.length c4.cc, .slice c4.ha t4.held.length c4.hc, .slice c4.ba t4.bin.length c4.bc] 28)) := Lib.hid fun V h => by
  have g := below_up hu h
  exact ⟨⟨⟨hX2.out.keep g, hZ1.out.keep h⟩, ⟨hX3.out.keep g, hZ2.out.keep h⟩⟩, ⟨hX4.out.keep g, hZ3.out.keep h⟩, ⟨hX5.out.keep g, hZ4.out.keep h⟩⟩
 clear hY2 hY3 hY4 hY5 hv hu hq q0 q1 q2 q3 q4 q5 q6 d0 d1 d2 d3
 have hv : Below Y4.heap.size Y4 Y4 := Below.refl _ _
 have hnn : (n == n) = true := by simp
 obtain ⟨⟨⟨m1, m2⟩, ⟨m3, m4⟩⟩, ⟨m5, m6⟩, ⟨m7, m8⟩⟩ := HCL.out _ hv
 obtain ⟨a10, a11, a12, a13, a14, a15, a16⟩ := m1.seven
 obtain ⟨b10, b11, b12, b13, b14, b15, b16⟩ := m2.seven
 clear m1 m2 m3 m4 m5 m6 m7 m8
 go_wp2_with (go_at_call 15; first
  | ((with_reducible refine (HA1.out _ a1 c1 (HM.out _ hv).1.1.1 (HM.out _ hv).1.1.2).mono ?_); rintro e u1 ⟨rfl, hq⟩; have hv := below_up hv hq; obtain ⟨⟨⟨m1, m2⟩, ⟨m3, m4⟩⟩, ⟨m5, m6⟩, ⟨m7, m8⟩⟩ := HCL.out _ hv; clear a10 a11 a12 a13 a14 a15 a16 b10 b11 b12 b13 b14 b15 b16; obtain ⟨a10, a11, a12, a13, a14, a15, a16⟩ := m3.seven; obtain ⟨b10, b11, b12, b13, b14, b15, b16⟩ := m4.seven; clear m1 m2 m3 m4 m5 m6 m7 m8)
  | ((with_reducible refine (HA2.out _ a2 c2 (HM.out _ hv).1.2.1 (HM.out _ hv).1.2.2).mono ?_); rintro e u2 ⟨rfl, hq⟩; have hv := below_up hv hq; obtain ⟨⟨⟨m1, m2⟩, ⟨m3, m4⟩⟩, ⟨m5, m6⟩, ⟨m7, m8⟩⟩ := HCL.out _ hv; clear a10 a11 a12 a13 a14 a15 a16 b10 b11 b12 b13 b14 b15 b16; obtain ⟨a10, a11, a12, a13, a14, a15, a16⟩ := m5.seven; obtain ⟨b10, b11, b12, b13, b14, b15, b16⟩ := m6.seven; clear m1 m2 m3 m4 m5 m6 m7 m8)
  | ((with_reducible refine (HA3.out _ a3 c3 (HM.out _ hv).2.1.1 (HM.out _ hv).2.1.2).mono ?_); rintro e u3 ⟨rfl, hq⟩; have hv := below_up hv hq; obtain ⟨⟨⟨m1, m2⟩, ⟨m3, m4⟩⟩, ⟨m5, m6⟩, ⟨m7, m8⟩⟩ := HCL.out _ hv; clear a10 a11 a12 a13 a14 a15 a16 b10 b11 b12 b13 b14 b15 b16; obtain ⟨a10, a11, a12, a13, a14, a15, a16⟩ := m7.seven; obtain ⟨b10, b11, b12, b13, b14, b15, b16⟩ := m8.seven; clear m1 m2 m3 m4 m5 m6 m7 m8)
  | ((with_reducible refine (HA4.out _ a4 c4 (HM.out _ hv).2.2.1 (HM.out _ hv).2.2.2).mono ?_); rintro e u4 ⟨rfl, hq⟩; have hv := below_up hv hq))
 have HBZ := Lib.hid (below_up HBV.out hv)
 go_ret
 exact ⟨ret_bool (by simp), HBZ.out⟩
theorem storeKeeps_walk (s : Sto) (a : StA) (f : Fil) (hfz : f.dig.size ≤ 9223372036854775807) (hf100 : f.frm.size ≤ 9223372036854775807) (tier d : ByteArray) (now day : Int) (w : World) (hI : StIn w s a) :
  Calls Tryz.prog 3 #[.agg #[.int .i64 s.least, .int .i64 s.wait, .slice a.ta s.tiers.length a.tc, .slice a.fa s.files.length a.fc, .slice a.ca s.copies.length a.cc, .slice a.ha s.held.length a.hc, .slice a.ba s.bin.length a.bc], .agg #[.string f.dig, .int .i64 f.size, .int .i64 f.kind, .string f.frm], .string tier, .string d, .int .i64 now, .int .i64 day] w fun e w' => e = .returned (.bool true) ∧ Below w.heap.size w w' := by
 by_cases he : St.err s = 0
 ·have r := St.err_iff.1 he
  have A : ∃ p t, (p = 0 ∨ t = Sto.zero) ∧ (∀ V, StIn V s a → Calls Tryz.prog 10 #[.agg #[.int .i64 s.least, .int .i64 s.wait, .slice a.ta s.tiers.length a.tc, .slice a.fa s.files.length a.fc, .slice a.ca s.copies.length a.cc, .slice a.ha s.held.length a.hc, .slice a.ba s.bin.length a.bc], .agg #[.string f.dig, .int .i64 f.size, .int .i64 f.kind, .string f.frm], .string tier, .int .i64 now] V (StoAny V p t)) ∧ (∀ V, StIn V s a → Calls Tryz.prog 16 #[.agg #[.int .i64 s.least, .int .i64 s.wait, .slice a.ta s.tiers.length a.tc, .slice a.fa s.files.length a.fc, .slice a.ca s.copies.length a.cc, .slice a.ha s.held.length a.hc, .slice a.ba s.bin.length a.bc], .agg #[.string f.dig, .int .i64 f.size, .int .i64 f.kind, .string f.frm], .string tier, .int .i64 now] V (StoAny V p t)) := by
   by_cases hq : St.impE s f tier now = 0
   ·exact ⟨0, _, .inl rfl, fun V h => (importS_ok s a f hfz hf100 tier now V h r hq).mono fun _ _ h => h.any, fun V h => (importedR_ok s a f hfz hf100 tier now V h r hq).mono fun _ _ h => h.any⟩
   ·exact ⟨_, Sto.zero, .inr rfl, fun V h => (importS_err s a f tier now V h he _ hq fun V' h' => checkImportS_is s a f hfz hf100 tier now V' h' r _ rfl).mono fun _ _ h => h.any, fun V h => (importedR_err s a f hfz tier now V h r _ rfl hq).mono fun _ _ h => h.any⟩
  have B : ∃ p t, (p = 0 ∨ t = Sto.zero) ∧ (∀ V, StIn V s a → Calls Tryz.prog 11 #[.agg #[.int .i64 s.least, .int .i64 s.wait, .slice a.ta s.tiers.length a.tc, .slice a.fa s.files.length a.fc, .slice a.ca s.copies.length a.cc, .slice a.ha s.held.length a.hc, .slice a.ba s.bin.length a.bc], .string d] V (StoAny V p t)) ∧ (∀ V, StIn V s a → Calls Tryz.prog 17 #[.agg #[.int .i64 s.least, .int .i64 s.wait, .slice a.ta s.tiers.length a.tc, .slice a.fa s.files.length a.fc, .slice a.ca s.copies.length a.cc, .slice a.ha s.held.length a.hc, .slice a.ba s.bin.length a.bc], .string d] V (StoAny V p t)) := by
   cases hd : St.hasK St.gdig s.bin d with
   | true => exact ⟨0, _, .inl rfl, fun V h => (holdS_ok s a d V h r hd).mono fun _ _ h => h.any, fun V h => (heldOfR_ok s a d V h r hd).mono fun _ _ h => h.any⟩
   | false => exact ⟨7, Sto.zero, .inr rfl, fun V h => (holdS_none s a d V h r hd).mono fun _ _ h => h.any, fun V h => (heldOfR_none s a d V h hd).mono fun _ _ h => h.any⟩
  have C' : ∃ p t, (p = 0 ∨ t = Sto.zero) ∧ (∀ V, StIn V s a → Calls Tryz.prog 12 #[.agg #[.int .i64 s.least, .int .i64 s.wait, .slice a.ta s.tiers.length a.tc, .slice a.fa s.files.length a.fc, .slice a.ca s.copies.length a.cc, .slice a.ha s.held.length a.hc, .slice a.ba s.bin.length a.bc], .string d, .int .i64 day] V (StoAny V p t)) ∧ (∀ V, StIn V s a → Calls Tryz.prog 18 #[.agg #[.int .i64 s.least, .int .i64 s.wait, .slice a.ta s.tiers.length a.tc, .slice a.fa s.files.length a.fc, .slice a.ca s.copies.length a.cc, .slice a.ha s.held.length a.hc, .slice a.ba s.bin.length a.bc], .string d, .int .i64 day] V (StoAny V p t)) := by
   cases hd : St.hasK id s.held d with
   | true =>
     cases hday : St.inB day 0 73048 with
     | true => exact ⟨0, _, .inl rfl, fun V h => (releaseS_ok s a d day V h r hd hday).mono fun _ _ h => h.any, fun V h => (releasedR_ok s a d day V h r hd hday).mono fun _ _ h => h.any⟩
     | false => exact ⟨2, Sto.zero, .inr rfl, fun V h => (releaseS_range s a d day V h r hd hday).mono fun _ _ h => h.any, fun V h => (releasedR_range s a d day V h hd hday).mono fun _ _ h => h.any⟩
   | false => exact ⟨7, Sto.zero, .inr rfl, fun V h => (releaseS_none s a d day V h r hd).mono fun _ _ h => h.any, fun V h => (releasedR_none s a d day V h hd).mono fun _ _ h => h.any⟩
  have D : ∃ p t n, (p = 0 ∨ t = Sto.zero) ∧ (∀ V, StIn V s a → Calls Tryz.prog 13 #[.agg #[.int .i64 s.least, .int .i64 s.wait, .slice a.ta s.tiers.length a.tc, .slice a.fa s.files.length a.fc, .slice a.ca s.copies.length a.cc, .slice a.ha s.held.length a.hc, .slice a.ba s.bin.length a.bc], .int .i64 day] V (EmpAny V p n t)) ∧ (∀ V, StIn V s a → Calls Tryz.prog 19 #[.agg #[.int .i64 s.least, .int .i64 s.wait, .slice a.ta s.tiers.length a.tc, .slice a.fa s.files.length a.fc, .slice a.ca s.copies.length a.cc, .slice a.ha s.held.length a.hc, .slice a.ba s.bin.length a.bc], .int .i64 day] V (EmpAny V p n t)) := by
   cases hday : St.inB day 0 73048 with
   | true => exact ⟨0, _, _, .inl rfl, fun V h => (emptyS_ok s a day V h r hday).mono fun _ _ h => h.any, fun V h => (emptiedR_ok s a day V h r hday).mono fun _ _ h => h.any⟩
   | false => exact ⟨2, Sto.zero, 0, .inr rfl, fun V h => (emptyS_range s a day V h r hday).mono fun _ _ h => h.any, fun V h => (emptiedR_range s a day V h hday).mono fun _ _ h => h.any⟩
  obtain ⟨p1, t1, h1, k1, r1⟩ := A
  obtain ⟨p2, t2, h2, k2, r2⟩ := B
  obtain ⟨p3, t3, h3, k3, r3⟩ := C'
  obtain ⟨p4, t4, n, h4, k4, r4⟩ := D
  exact storeKeeps_gen s a f tier d now day w hI r p1 p2 p3 p4 n t1 t2 t3 t4 h1 h2 h3 h4 k1 k2 k3 k4 r1 r2 r3 r4
 ·exact storeKeeps_err s a f tier d now day w hI he
end Go.Proofs.YthdiccdnggloiaaGreatDoor
namespace Go.Proofs.YthdiccdnggloiaaGreatDoor
open Go.RowKit Go.Sort
def Row2 (w : World) (a : Option Addr) (len : Nat) (f g : Nat → Value) : Prop :=
 0 < len → ∃ b off, a = some ⟨b, off, none⟩ ∧ b < w.heap.size ∧ ∀ i, i < len → w.cell? ⟨b, off + i * 2, none⟩ = some (f i) ∧ w.cell? ⟨b, off + i * 2 + 1, none⟩ = some (g i)
theorem Row2.keep {w w' : World} {a : Option Addr} {len : Nat} {f g : Nat → Value} (h : Row2 w a len f g) (hb : Below w.heap.size w w') : Row2 w' a len f g := by
 intro hl
 obtain ⟨b, off, rfl, hlt, hc⟩ := h hl
 exact ⟨b, off, rfl, Nat.lt_of_lt_of_le hlt hb.size, fun i hi => ⟨(hb.cell (p := ⟨b, off + i * 2, none⟩) hlt).trans (hc i hi).1, (hb.cell (p := ⟨b, off + i * 2 + 1, none⟩) hlt).trans (hc i hi).2⟩⟩
end Go.Proofs.YthdiccdnggloiaaGreatDoor
