/- Parts of the proof, no condition: StIpX. -/
import Derived.Test.YthdiccdnggloiaaGreatDoorKp19
set_option maxRecDepth 100000
set_option maxHeartbeats 16000000
set_option linter.unusedSimpArgs false
set_option linter.unusedVariables false
namespace Go.Proofs.YthdiccdnggloiaaGreatDoor
open Go.RowKit Go.Sort Go.Shelf Go.Maps
theorem StOwn.filPut {V x1 : World} {B : Nat} {s : Sto} {b : StA} (h : StOwn V B s b) {FS : List Fil} {ga : Option Addr} {gc : Nat} (ho : OwnV x1 B 30 4 (.slice ga FS.length gc) FS.length (St.eF.flat FS)) (hg : V.grownBy x1 (Value.slice b.fa s.files.length b.fc).ownBlock) :
  StOwn x1 B { s with files := FS } ⟨b.ta, b.tc, ga, gc, b.ca, b.cc, b.ha, b.hc, b.ba, b.bc⟩ :=
 ⟨h.ti.beside h.fi (by decide) hg, ho, h.co.beside h.fi (by decide) hg, h.he.beside h.fi (by decide) hg, h.bi.beside h.fi (by decide) hg⟩
theorem importedR_new (s : Sto) (a : StA) (f : Fil) (hfz : f.dig.size ≤ 9223372036854775807) (tier : ByteArray) (now : Int) (w : World) (hI : StIn w s a) (hq0 : St.faultE f = 0) (hd16 : f.dig.size = 16) (hf100 : f.frm.size ≤ 9223372036854775807) (hko : f.kind = 1 ∨ St.kindOf s.files f.frm = 1) (hyo : (St.fileOf s.files f.dig).isSome = false) (r : St.Right s) (x : Tir) (hx : x.name = tier) (kk : Nat) (hkk : s.tiers[kk]? = some x) (hka : St.tierAt s.tiers tier = (kk : Int)) (hm : St.isMom now = true) (hk : St.copyAt s f.dig tier < 0) (hfr : f.size ≤ x.room - St.used s.files tier s.copies) (hnl : s.files.length < 500) : Calls Tryz.prog 16 #[.agg #[.int .i64 s.least, .int .i64 s.wait, .slice a.ta s.tiers.length a.tc, .slice a.fa s.files.length a.fc, .slice a.ca s.copies.length a.cc, .slice a.ha s.held.length a.hc, .slice a.ba s.bin.length a.bc], .agg #[.string f.dig, .int .i64 f.size, .int .i64 f.kind, .string f.frm], .string tier, .int .i64 now] w (StoOk w (St.imp s f tier now)) := by
 have hhk : St.hasK St.fdig s.files f.dig = false := by rw [← St.file_has]; exact hyo
 have hfw := St.wth_new (key := St.fdig) (x := f) hhk
 have hpf := St.pos_le St.fdig f.dig s.files
 have HPFB := Lib.hid (fun i x (h : s.files[i]? = some x) (hi : i < St.pos St.fdig f.dig s.files) => St.pos_before h hi)
 have HPFA := Lib.hid (fun x (h : s.files[St.pos St.fdig f.dig s.files]? = some x) => St.pos_at h)
 rw [show St.fdig f = f.dig from rfl] at hfw
 generalize St.pos St.fdig f.dig s.files = pf at *
 have HPF := Lib.hid hpf
 have hyo : (St.fileOf s.files f.dig).isSome = false ∧ (St.filD s.files f.dig = f ∨ True) := ⟨hyo, .inr trivial⟩
 obtain ⟨W0, hW0, hP, hz0, hB0⟩ := box w #[.int .i64 s.least, .int .i64 s.wait, .slice a.ta s.tiers.length a.tc, .slice a.fa s.files.length a.fc, .slice a.ca s.copies.length a.cc, .slice a.ha s.held.length a.hc, .slice a.ba s.bin.length a.bc] 28
 obtain ⟨W1, hW1, hD, hz1, hB1⟩ := box W0 #[.string f.dig, .int .i64 f.size, .int .i64 f.kind, .string f.frm] 30
 obtain ⟨W2, hW2, hQ, hz2, hB2⟩ := box W1 #[.int .i64 0, .int .i64 0, .slice none 0 0, .slice none 0 0, .slice none 0 0, .slice none 0 0, .slice none 0 0] 28
 rw [hz0] at hD hz1
 rw [hz1] at hQ hz2
 have hP := (hP.keep hB1).keep hB2
 have hD := hD.keep hB2
 have hBB := below_up hB0 (below_up hB1 hB2)
 have HW0 := Lib.hid hW0; have HW1 := Lib.hid hW1; have HW2 := Lib.hid hW2; have HP := Lib.hid hP; have HD := Lib.hid hD; have HQ := Lib.hid hQ; have HBB := Lib.hid hBB; have HZ2 : Hid (W2.heap.size = w.heap.size + 3) := Lib.hid (by omega)
 have HI2 := Lib.hid (hI.keep hBB)
 obtain ⟨q0, q1, q2, q3, q4, q5, q6⟩ := hP.seven
 obtain ⟨d0, d1, d2, d3⟩ := hD.four
 have HSZ := Lib.hid hI.sz
 have HFF := Lib.hid (fun V => fileFault_is f hfz V)
 clear hI hW0 hW1 hW2 hP hD hQ hz0 hz1 hz2 hB0 hB1 hB2 hBB
 have hv : Below W2.heap.size W2 W2 := Below.refl _ _
 rw [hq0] at HFF
 obtain ⟨y, hy⟩ : ∃ y, y = St.filD s.files f.dig := ⟨_, rfl⟩
 obtain ⟨yb, hyb⟩ : ∃ yb, yb = (St.fileOf s.files f.dig).isSome := ⟨_, rfl⟩
 have HFO := Lib.hid (fun V (hv : Below W2.heap.size W2 V) => filOf_is s a f.dig V (HI2.out.keep hv) y hy yb hyb)
 have HOR := Lib.hid (fun V (hv : Below W2.heap.size W2 V) => original_is s a f.frm V (HI2.out.keep hv))
 have HTA := Lib.hid (fun V (hv : Below W2.heap.size W2 V) => tierOf_is s a tier V (HI2.out.keep hv))
 have HMO := Lib.hid (fun V => momentS_is now V)
 obtain ⟨yq, hyq⟩ := St.bool_of (y = f)
 have hne := fun W => neqF y f W yq hyq
 have hgd := guardFil
 have hkr : (((f.kind != 1)) && !(decide (St.kindOf s.files f.frm = 1))) = false := by
  rcases hko with h | h
  ·rw [h]; rfl
  ·rw [decide_eq_true h]; simp
 rw [← hy] at hyo
 rw [← hyb] at hyo
 generalize decide (St.kindOf s.files f.frm = 1) = br at *
 obtain ⟨bk, hbk⟩ : ∃ bk, (f.kind != 1) = bk := ⟨_, rfl⟩
 rw [hbk] at hkr
 clear hq0 hko hy hyb
 rw [hm] at HMO
 obtain ⟨hcw, hpb, hpa⟩ := St.imp_new_cop (now := now) r hd16 hk
 have HK0 := Lib.hid hk
 have HZF : Hid (∀ g ∈ s.files.take pf ++ f :: s.files.drop pf, g.dig.size ≤ 9223372036854775807 ∧ g.frm.size ≤ 9223372036854775807) := Lib.hid fun g hg => by
  rcases List.mem_append.1 hg with h | h
  ·exact HSZ.out.fz g (List.mem_of_mem_take h)
  ·rcases List.mem_cons.1 h with rfl | h
   ·exact ⟨hfz, hf100⟩
   ·exact HSZ.out.fz g (List.mem_of_mem_drop h)
 obtain ⟨FS, hFS⟩ : ∃ FS, s.files.take pf ++ f :: s.files.drop pf = FS := ⟨_, rfl⟩
 have HFW := Lib.hid hFS
 have HFL : Hid (FS.length = s.files.length + 1) := Lib.hid (by rw [← hFS, List.length_append, List.length_cons, List.length_take, List.length_drop]; omega)
 have HFB : Hid (FS.length ≤ 500) := Lib.hid (by rw [HFL.out]; omega)
 have HTH : Hid (St.wth St.fdig f s.files = FS) := Lib.hid (by rw [hfw, hFS])
 rw [hFS] at HZF
 obtain ⟨_, y1, y2, y3, y4, y5⟩ := St.sizes_iff.1 r.sizes
 have HCP := Lib.hid (fun V (hv : Below W2.heap.size W2 V) => twin_is s a V (HI2.out.keep hv) ⟨y1, y2, y3, y4, y5⟩)
 unfold CpyPost at HCP
 have HLEN : Hid (StLen s) := Lib.hid ⟨y1, y2, y3, y4, y5⟩
 have HUP : Hid (St.Up St.gdig s.bin ∧ s.held.length ≤ 500 ∧ s.bin.length ≤ 500 ∧ St.Up id s.held) := Lib.hid ⟨r.bup, y4, y5, r.hup⟩
 have hd16 : f.dig.size = 16 := hd16
 have hf100 : f.frm.size ≤ 9223372036854775807 := hf100
 have HZT : Hid (StSz (St.imp s f tier now)) := Lib.hid (HSZ.out.imp r hfz hf100 (by rw [← hx]; exact HSZ.out.tz x (List.mem_of_getElem? hkk)))
 obtain ⟨t, ht⟩ : ∃ t, St.imp s f tier now = t := ⟨_, rfl⟩
 have HT := Lib.hid ht
 rw [ht] at HZT ⊢
 clear ht y1 y2 y3 y4 y5
 have hkx : St.tierAt s.tiers x.name = (kk : Int) := by rw [hx]; exact hka
 have HFI := Lib.hid (fun V (hv : Below W2.heap.size W2 V) => freeIn_is s a x kk hkk hkx V (HI2.out.keep hv) (St.szs_of (F := s.files) (fun f hf => (r.dig f hf).2)) (St.sizes_iff.1 r.sizes).2.2.2.1 (St.tier_good r (List.mem_of_getElem? hkk)).2.1)
 rw [hx] at HFI
 have HCO := Lib.hid (fun V (hv : Below W2.heap.size W2 V) => copyOf_is s a f.dig tier V (HI2.out.keep hv))
 rw [hka] at HTA
 have ht0 : ¬ ((kk : Int) < 0) := by omega
 have ht1 : decide ((kk : Int) < 0) = false := decide_eq_false ht0
 generalize x.room - St.used s.files tier s.copies = fq at *
 have hpl := St.pos_le St.ckey (St.key f.dig tier) s.copies
 generalize St.pos St.ckey (St.key f.dig tier) s.copies = p at *
 have HCW := Lib.hid hcw; have HPB := Lib.hid hpb; have HPA := Lib.hid hpa; have HPL := Lib.hid hpl
 obtain ⟨ck, hck⟩ : ∃ ck, St.copyAt s f.dig tier = ck := ⟨_, rfl⟩
 rw [hck] at HCO hk
 have hk1 : decide (ck < 0) = true := decide_eq_true hk
 have hf0 : ¬ (fq < f.size) := by omega
 have hf1 : decide (fq < f.size) = false := decide_eq_false hf0
 have hn1 : ¬ ((500 : Int) ≤ (s.files.length : Int)) := by omega
 have hn2 : decide ((500 : Int) ≤ (s.files.length : Int)) = false := decide_eq_false hn1
 clear r hx hkk hka hkx hm hck hcw hpb hpa hpl hd16 hf100 hFS hfw hhk hpf
 obtain ⟨rfl, _⟩ := hyo
 clear hyq
 cases bk
 ·have hke : (f.kind == 1) = true := by simpa using hbk
  go_enter Tryz.func16, Tryz.ntmps16
  go_upto_region 1 with fail
  rw [HW0.out, HW1.out, HW2.out]
  go_upto_region 5 with (first
   | (go_at_call 74; (with_reducible refine (HFF.out _).mono ?_); rintro e w6 ⟨rfl, hq⟩; have hv := below_up hv hq; obtain ⟨q0, q1, q2, q3, q4, q5, q6⟩ := (HP.out.keep hv).seven; obtain ⟨d0, d1, d2, d3⟩ := (HD.out.keep hv).four)
   | (go_at_call 76; (with_reducible refine (HFO.out _ hv).mono ?_); rintro e w7 ⟨rfl, hq⟩; have hv := below_up hv hq; obtain ⟨q0, q1, q2, q3, q4, q5, q6⟩ := (HP.out.keep hv).seven; obtain ⟨d0, d1, d2, d3⟩ := (HD.out.keep hv).four)
   | (refine wpList_store_row rfl 30 _ _ rfl w7.heap.size #[.string y.dig, .int .i64 y.size, .int .i64 y.kind, .string y.frm] rfl rfl 30 #[.string ⟨#[]⟩, .int .i64 0, .int .i64 0, .string ⟨#[]⟩] (heap_alloc_new w7 _) infoFilS rfl (by simp [Value.oneCell']) ?_))
  obtain ⟨X, hX, hXB, hXz, hXW⟩ := fillNew w7 #[.string ⟨#[]⟩, .int .i64 0, .int .i64 0, .string ⟨#[]⟩] #[.string y.dig, .int .i64 y.size, .int .i64 y.kind, .string y.frm] 30
  rw [hX]
  have hv := below_up hv hXW
  clear q0 q1 q2 q3 q4 q5 q6 d0 d1 d2 d3 hX hXz hXW
  obtain ⟨q0, q1, q2, q3, q4, q5, q6⟩ := (HP.out.keep hv).seven
  obtain ⟨d0, d1, d2, d3⟩ := (HD.out.keep hv).four
  have HXB := Lib.hid hXB
  obtain ⟨x0, x1, x2, x3⟩ := hXB.four
  clear hXB
  go_upto_region 14 with (first | (go_at_call 75; (with_reducible refine (HOR.out _ hv).mono ?_); rintro e w8 ⟨rfl, hq⟩; have hv := below_up hv hq; obtain ⟨q0, q1, q2, q3, q4, q5, q6⟩ := (HP.out.keep hv).seven; obtain ⟨d0, d1, d2, d3⟩ := (HD.out.keep hv).four; obtain ⟨x0, x1, x2, x3⟩ := (HXB.out.keep hq).four) | (go_at_call 72; (with_reducible refine (HTA.out _ hv).mono ?_); rintro e w9 ⟨rfl, hq⟩; have hv := below_up hv hq; obtain ⟨q0, q1, q2, q3, q4, q5, q6⟩ := (HP.out.keep hv).seven; obtain ⟨d0, d1, d2, d3⟩ := (HD.out.keep hv).four) | (go_at_call 78; (with_reducible refine (HMO.out _).mono ?_); rintro e w10 ⟨rfl, rfl⟩) | (go_at_call 80; (with_reducible refine (HCO.out _ hv).mono ?_); rintro e w11 ⟨rfl, hq⟩; have hv := below_up hv hq; obtain ⟨q0, q1, q2, q3, q4, q5, q6⟩ := (HP.out.keep hv).seven; obtain ⟨d0, d1, d2, d3⟩ := (HD.out.keep hv).four))
  have hv := hv.drew
  obtain ⟨q0, q1, q2, q3, q4, q5, q6⟩ := (HP.out.keep hv).seven
  obtain ⟨d0, d1, d2, d3⟩ := (HD.out.keep hv).four
  go_region_held3 (fun W => W.cell? ⟨w.heap.size, 0, none⟩ = some (.int .i64 s.least) ∧ W.cell? ⟨w.heap.size, 1, none⟩ = some (.int .i64 s.wait) ∧ W.cell? ⟨w.heap.size, 2, none⟩ = some (.slice a.ta s.tiers.length a.tc) ∧ W.cell? ⟨w.heap.size, 3, none⟩ = some (.slice a.fa s.files.length a.fc) ∧ W.cell? ⟨w.heap.size, 4, none⟩ = some (.slice a.ca s.copies.length a.cc) ∧ W.cell? ⟨w.heap.size, 5, none⟩ = some (.slice a.ha s.held.length a.hc) ∧ W.cell? ⟨w.heap.size, 6, none⟩ = some (.slice a.ba s.bin.length a.bc) ∧ W.cell? ⟨w.heap.size + 1, 1, none⟩ = some (.int .i64 f.size))
   (first | (with_reducible exact ⟨q0, q1, q2, q3, q4, q5, q6, d1⟩) | go_keep)
   (first
    | (go_at_call 36; (with_reducible refine (HFI.out _ hv).mono ?_); rintro e w12 ⟨rfl, hq⟩; have hv := below_up hv hq; obtain ⟨q0, q1, q2, q3, q4, q5, q6⟩ := (HP.out.keep hv).seven; obtain ⟨d0, d1, d2, d3⟩ := (HD.out.keep hv).four)
    | fail)
  rename_i hHeld
  clear hHeld
  go_upto_region 18 with fail
  go_upto_region 19 with (first
   | (go_at_call 81; (with_reducible refine (HCP.out _ hv).mono ?_); rintro e w8 ⟨b, rfl, hOwn, hB8⟩)
   | (refine wpList_store_row rfl 28 _ _ rfl w.heap.size #[.int .i64 s.least, .int .i64 s.wait, .slice b.ta s.tiers.length b.tc, .slice b.fa s.files.length b.fc, .slice b.ca s.copies.length b.cc, .slice b.ha s.held.length b.hc, .slice b.ba s.bin.length b.bc] rfl rfl 28 _ (HP.out.keep (below_up hv hB8)) infoSto rfl (by simp [Value.oneCell']) ?_))
  have hlt4 : w.heap.size + 2 < W2.heap.size := by have := HZ2.out; omega
  have hv8 := below_up hv hB8
  have hPv := Blk.setRowAt (HP.out.keep hv8) #[.int .i64 s.least, .int .i64 s.wait, .slice b.ta s.tiers.length b.tc, .slice b.fa s.files.length b.fc, .slice b.ca s.copies.length b.cc, .slice b.ha s.held.length b.hc, .slice b.ba s.bin.length b.bc]
  have hQv := (HQ.out.keep hv8).setRowOther (b' := w.heap.size) (by omega) #[.int .i64 s.least, .int .i64 s.wait, .slice b.ta s.tiers.length b.tc, .slice b.fa s.files.length b.fc, .slice b.ca s.copies.length b.cc, .slice b.ha s.held.length b.hc, .slice b.ba s.bin.length b.bc]
  have hDv := (HD.out.keep hv8).setRowOther (b' := w.heap.size) (by omega) #[.int .i64 s.least, .int .i64 s.wait, .slice b.ta s.tiers.length b.tc, .slice b.fa s.files.length b.fc, .slice b.ca s.copies.length b.cc, .slice b.ha s.held.length b.hc, .slice b.ba s.bin.length b.bc]
  have hBv := below_setRow (below_up HBB.out hv8) (Nat.le_refl w.heap.size) #[.int .i64 s.least, .int .i64 s.wait, .slice b.ta s.tiers.length b.tc, .slice b.fa s.files.length b.fc, .slice b.ca s.copies.length b.cc, .slice b.ha s.held.length b.hc, .slice b.ba s.bin.length b.bc]
  have hOv := (hOwn.down hv.size).setRow (b := w.heap.size) (by omega) #[.int .i64 s.least, .int .i64 s.wait, .slice b.ta s.tiers.length b.tc, .slice b.fa s.files.length b.fc, .slice b.ca s.copies.length b.cc, .slice b.ha s.held.length b.hc, .slice b.ba s.bin.length b.bc]
  have hVz : W2.heap.size ≤ (w8.setRow w.heap.size #[.int .i64 s.least, .int .i64 s.wait, .slice b.ta s.tiers.length b.tc, .slice b.fa s.files.length b.fc, .slice b.ca s.copies.length b.cc, .slice b.ha s.held.length b.hc, .slice b.ba s.bin.length b.bc]).heap.size := by have := hv8.size; simp; omega
  obtain ⟨V, hV⟩ : ∃ V, w8.setRow w.heap.size #[.int .i64 s.least, .int .i64 s.wait, .slice b.ta s.tiers.length b.tc, .slice b.fa s.files.length b.fc, .slice b.ca s.copies.length b.cc, .slice b.ha s.held.length b.hc, .slice b.ba s.bin.length b.bc] = V := ⟨_, rfl⟩
  rw [hV] at hPv hQv hDv hBv hOv hVz ⊢
  clear hV q0 q1 q2 q3 q4 q5 q6 d0 d1 d2 d3 x0 x1 x2 x3 hOwn hB8 hv8 hv
  have HLT := Lib.hid hlt4
  clear hlt4
  have HPv := Lib.hid hPv; have HQv := Lib.hid hQv; have HDv := Lib.hid hDv; have HBv := Lib.hid hBv; have HOv := Lib.hid hOv; have HVz := Lib.hid hVz
  have HFO2 : Hid (OwnV V W2.heap.size 30 4 (.slice b.fa s.files.length b.fc) s.files.length (St.eF.flat s.files)) := Lib.hid hOv.fi
  have HRB := Lib.hid (RowE.ofV (E := St.eF) (ca := b.fc) hOv.fi)
  have HINS := Lib.hid (fun U (hb : Below V.heap.size V U) (bv : Nat) (hbv : U.heap[bv]? = some (.cells #[.string f.dig, .int .i64 f.size, .int .i64 f.kind, .string f.frm] 30 (0, 0))) (hge : V.heap.size ≤ bv) => show Calls Tryz.prog 82 #[.slice b.fa s.files.length b.fc, .int .i64 pf, .slice (some ⟨bv, 0, none⟩) 1 1] U (OwnPost U W2.heap.size 30 4 (.slice b.fa s.files.length b.fc) FS.length (St.eF.flat FS)) from by
   have h := fl_ins W2.heap.size s.files.length pf (.slice b.fa s.files.length b.fc) (St.eF.flat s.files) [.string f.dig, .int .i64 f.size, .int .i64 f.kind, .string f.frm] U (HFO2.out.keep hb) (by have := HVz.out; have := hb.size; omega) HPF.out (by have := HLEN.out.2.1; omega) (Enc.flat_one St.eF _) bv _ _ hbv (fun e => by have := (HFO2.out.lt bv e).2; omega) rfl rfl (by simp [Value.oneCell'])
   rw [flat_insF s.files f pf, HFW.out, ← HFL.out] at h
   exact h)
  unfold OwnPost at HINS
  clear hPv hQv hDv hBv hOv hVz
  obtain ⟨q0, q1, q2, q3, q4, q5, q6⟩ := HPv.out.seven
  obtain ⟨d0, d1, d2, d3⟩ := HDv.out.four
  go_upto_region 21 with fail
  clear q0 q1 q2 q3 q4 q5 q6 d0 d1 d2 d3
  go_loopg [14] pf (fun gk i wr => ∃ j : Nat, j ≤ pf ∧ gk = pf - j ∧ i = .int .i64 j ∧ Below V.heap.size V wr)
  case atStart => exact ⟨0, by omega, rfl, rfl, Below.refl _ _⟩
  case round =>
   obtain ⟨j, hj, rfl, rfl, hB⟩ := hrel
   obtain ⟨q0, q1, q2, q3, q4, q5, q6⟩ := (HPv.out.keep hB).seven
   obtain ⟨d0, d1, d2, d3⟩ := (HDv.out.keep hB).four
   by_cases hjn : j < s.files.length
   ·obtain ⟨z, hz⟩ : ∃ z, s.files[j]? = some z := ⟨_, List.getElem?_eq_getElem hjn⟩
    obtain ⟨bb, off, ha, hb, hc⟩ := (HRB.out.keep hB) (by omega)
    have c0 : wr.cell? ⟨bb, off + j * 4, none⟩ = some (.string z.dig) := hc j z hz 0 (.string z.dig) rfl
    have hj0 : (0 : Int) ≤ (j : Int) := by omega
    have hj1 : (j : Int) < (s.files.length : Int) := by omega
    have hj500 : s.files.length ≤ 500 := HLEN.out.2.1
    have hd1 : decide ((j : Int) < (s.files.length : Int)) = true := decide_eq_true hj1
    rw [ha] at q3
    have HXX := Lib.hid hz
    clear hc hz
    cases hl : St.lt z.dig f.dig with
    | true =>
      have hlt : Op.bytesLess z.dig.toList f.dig.toList = true := hl
      have hjp : j < pf := by
       rcases Nat.lt_or_ge j pf with h | h
       ·exact h
       ·have he : j = pf := by omega
        have := HPFA.out z (by rw [← he]; exact HXX.out)
        rw [show St.fdig z = z.dig from rfl, hl] at this; cases this
      go_wp2_with fail
      go_quiet (fail)
      go_wp2_with fail
      go_roundg (pf - (j + 1))
      case rel => exact ⟨j + 1, by omega, rfl, by go_num, below_drewN hB _⟩
      case measure => omega
    | false =>
      have hlt : Op.bytesLess z.dig.toList f.dig.toList = false := hl
      obtain rfl : j = pf := by
       rcases Nat.lt_or_ge j pf with h | h
       ·have := HPFB.out j z HXX.out h
        rw [show St.fdig z = z.dig from rfl, hl] at this; cases this
       ·omega
      go_wp2_with fail
      go_quiet (fail)
      rw [← ha] at q3
      clear c0 hb ha
      have hB9 := below_drewN hB nq
      generalize World.drewN wr nq = U at *
      clear q0 q1 q2 q3 q4 q5 q6 d0 d1 d2 d3 hB
      have HB9 := Lib.hid hB9
      have hal : Below U.heap.size U (U.alloc (.cells #[.string f.dig, .int .i64 f.size, .int .i64 f.kind, .string f.frm] 30)) := (Below.refl _ _).alloc (Nat.le_refl _) _
      have hPA := (HPv.out.keep hB9).keep hal
      have hQA := (HQv.out.keep hB9).keep hal
      have hDA := (HDv.out.keep hB9).keep hal
      have hOA := (HOv.out.keep hB9).keep hal
      have HBA := Lib.hid (below_up HBv.out (below_up hB9 hal))
      have HZA : Hid (W2.heap.size ≤ (U.alloc (.cells #[.string f.dig, .int .i64 f.size, .int .i64 f.kind, .string f.frm] 30)).heap.size) := Lib.hid (by have := HVz.out; have := hB9.size; have := hal.size; omega)
      have HPA2 := Lib.hid hPA; have HQA := Lib.hid hQA; have HDA := Lib.hid hDA; have HOA := Lib.hid hOA
      have HNV : Hid (∀ o, ((U).alloc o).heap[(U).heap.size]? = some o) := Lib.hid (fun o => heap_alloc_new U o)
      have HGE : Hid (V.heap.size ≤ U.heap.size) := Lib.hid hB9.size
      obtain ⟨q0, q1, q2, q3, q4, q5, q6⟩ := (HPv.out.keep hB9).seven
      obtain ⟨d0, d1, d2, d3⟩ := (HDv.out.keep hB9).four
      clear hPA hQA hDA hOA hal hB9
      go_upto_region 25 with (go_at_call 82; (with_reducible refine (HINS.out _ (below_allocs HB9.out _) U.heap.size (HNV.out _) HGE.out).mono ?_); rintro e w8 ⟨g8, c8, rfl, hc8, hg8, hn8⟩; have HC8 := Lib.hid hc8; have HG8 := Lib.hid hg8; have hlt := HLT.out; have hP8 := HPA2.out.besideV HOA.out.fi hg8 (show w.heap.size < W2.heap.size by omega); obtain ⟨q0, q1, q2, q3, q4, q5, q6⟩ := hP8.seven; have qf := hP8.free; clear hc8 hg8 hn8)
      have hPy : Blk (w8.setCell ⟨w.heap.size, 3, none⟩ (.slice (some ⟨g8, 0, none⟩) FS.length c8)) w.heap.size #[.int .i64 s.least, .int .i64 s.wait, .slice b.ta s.tiers.length b.tc, .slice (some ⟨g8, 0, none⟩) FS.length c8, .slice b.ca s.copies.length b.cc, .slice b.ha s.held.length b.hc, .slice b.ba s.bin.length b.bc] 28 := hP8.set 3 (.slice (some ⟨g8, 0, none⟩) FS.length c8)
      have hQv := (HQA.out.besideV HOA.out.fi HG8.out (by omega)).setOther (a := ⟨w.heap.size, 3, none⟩) (by simp <;> omega) (.slice (some ⟨g8, 0, none⟩) FS.length c8)
      have hDv := (HDA.out.besideV HOA.out.fi HG8.out (by omega)).setOther (a := ⟨w.heap.size, 3, none⟩) (by simp <;> omega) (.slice (some ⟨g8, 0, none⟩) FS.length c8)
      have hOy := (HOA.out.filPut (FS := FS) (.inr ⟨g8, c8, rfl, HC8.out⟩) HG8.out).cellB (show w.heap.size < W2.heap.size by omega) 3 (.slice (some ⟨g8, 0, none⟩) FS.length c8)
      have hBv := (below_ownE HBA.out (HOA.out.fi.down (show w.heap.size ≤ W2.heap.size by omega)) HG8.out (by have := HZA.out; omega)).setCell (p := ⟨w.heap.size, 3, none⟩) (Nat.le_refl _) (.slice (some ⟨g8, 0, none⟩) FS.length c8)
      have hVz : W2.heap.size ≤ (w8.setCell ⟨w.heap.size, 3, none⟩ (.slice (some ⟨g8, 0, none⟩) FS.length c8)).heap.size := by have := HZA.out; have := HG8.out.size; simp; omega
      generalize w8.setCell ⟨w.heap.size, 3, none⟩ (.slice (some ⟨g8, 0, none⟩) FS.length c8) = Y at *
      clear q0 q1 q2 q3 q4 q5 q6 d0 d1 d2 d3 qf hP8
      obtain ⟨s1, b1, hs1, hP1, hO1⟩ : ∃ (s1 : Sto) (b1 : StA), s1 = { s with files := FS } ∧ Blk Y w.heap.size #[.int .i64 s1.least, .int .i64 s1.wait, .slice b1.ta s1.tiers.length b1.tc, .slice b1.fa s1.files.length b1.fc, .slice b1.ca s1.copies.length b1.cc, .slice b1.ha s1.held.length b1.hc, .slice b1.ba s1.bin.length b1.bc] 28 ∧ StOwn Y W2.heap.size s1 b1 := ⟨{ s with files := FS }, ⟨b.ta, b.tc, some ⟨g8, 0, none⟩, c8, b.ca, b.cc, b.ha, b.hc, b.ba, b.bc⟩, rfl, hPy, hOy⟩
      have HS1 : Hid (s1 = { s with files := St.wth St.fdig f s.files }) := Lib.hid (by rw [hs1, HTH.out])
      have HC1 : Hid (s1.copies = s.copies) := Lib.hid (by rw [hs1])
      have HL1 : Hid (StLen s1) := Lib.hid (by rw [hs1]; exact ⟨HLEN.out.1, HFB.out, HLEN.out.2.2⟩)
      have HZ1 : Hid (StSz s1) := Lib.hid (by rw [hs1]; exact ⟨HSZ.out.tz, HZF.out, HSZ.out.cz, HSZ.out.hz, HSZ.out.bz⟩)
      have HH1 : Hid (s1.held = s.held ∧ s1.bin = s.bin) := Lib.hid (by rw [hs1]; exact ⟨rfl, rfl⟩)
      clear hs1 hPy hOy
      have HP1 := Lib.hid hP1; have HQ1 := Lib.hid hQv; have HD1 := Lib.hid hDv; have HB1 := Lib.hid hBv; have HO1 := Lib.hid hO1; have HV1 := Lib.hid hVz
      obtain ⟨q0, q1, q2, q3, q4, q5, q6⟩ := hP1.seven
      obtain ⟨d0, d1, d2, d3⟩ := hDv.four
      clear hP1 hQv hDv hBv hO1 hVz
      obtain ⟨s2, hs2⟩ : ∃ s2 : Sto, { s1 with copies := s1.copies.take p ++ (⟨f.dig, tier, true, now⟩ : Cop) :: s1.copies.drop p } = s2 := ⟨_, rfl⟩
      have HWC := Lib.hid (fun U (hI : StIn U s1 b1) => show Calls Tryz.prog 83 #[.agg #[.int .i64 s1.least, .int .i64 s1.wait, .slice b1.ta s1.tiers.length b1.tc, .slice b1.fa s1.files.length b1.fc, .slice b1.ca s1.copies.length b1.cc, .slice b1.ha s1.held.length b1.hc, .slice b1.ba s1.bin.length b1.bc], .agg #[.string f.dig, .string tier, .bool true, .int .i64 now]] U (OwnPut U s2) from by
       rw [← hs2]
       exact withCopyR_is s1 b1 ⟨f.dig, tier, true, now⟩ p U hI HL1.out (by unfold St.copyAt; rw [HC1.out]; exact HK0.out) (by rw [HC1.out]; exact HPL.out) (by rw [HC1.out]; exact HPB.out) (by rw [HC1.out]; exact HPA.out))
      unfold OwnPut at HWC
      have HS2 : Hid (s2 = { s1 with copies := St.wth St.ckey ⟨f.dig, tier, true, St.askedOf s f.dig tier now⟩ s.copies }) := Lib.hid (by rw [← hs2, HC1.out, HCW.out])
      have HH2 : Hid (s2.held = s.held ∧ s2.bin = s.bin) := Lib.hid (by rw [← hs2]; exact HH1.out)
      have HI1 := Lib.hid (HO1.out.in_ HZ1.out)
      clear hs2
      go_upto_region 27 with (first
       | (go_at_call 83; (with_reducible refine (HWC.out _ HI1.out).mono ?_); rintro e w9 ⟨b2, rfl, hO9, hB9⟩)
       | (refine wpList_store_row rfl 28 _ _ rfl w.heap.size #[.int .i64 s2.least, .int .i64 s2.wait, .slice b2.ta s2.tiers.length b2.tc, .slice b2.fa s2.files.length b2.fc, .slice b2.ca s2.copies.length b2.cc, .slice b2.ha s2.held.length b2.hc, .slice b2.ba s2.bin.length b2.bc] rfl rfl 28 _ (HP1.out.keep hB9) infoSto rfl (by simp [Value.oneCell']) ?_))
      have hP2 := Blk.setRowAt (HP1.out.keep hB9) #[.int .i64 s2.least, .int .i64 s2.wait, .slice b2.ta s2.tiers.length b2.tc, .slice b2.fa s2.files.length b2.fc, .slice b2.ca s2.copies.length b2.cc, .slice b2.ha s2.held.length b2.hc, .slice b2.ba s2.bin.length b2.bc]
      have hQ2 := (HQ1.out.keep hB9).setRowOther (b' := w.heap.size) (by omega) #[.int .i64 s2.least, .int .i64 s2.wait, .slice b2.ta s2.tiers.length b2.tc, .slice b2.fa s2.files.length b2.fc, .slice b2.ca s2.copies.length b2.cc, .slice b2.ha s2.held.length b2.hc, .slice b2.ba s2.bin.length b2.bc]
      have hD2 := (HD1.out.keep hB9).setRowOther (b' := w.heap.size) (by omega) #[.int .i64 s2.least, .int .i64 s2.wait, .slice b2.ta s2.tiers.length b2.tc, .slice b2.fa s2.files.length b2.fc, .slice b2.ca s2.copies.length b2.cc, .slice b2.ha s2.held.length b2.hc, .slice b2.ba s2.bin.length b2.bc]
      have hB2 := below_setRow (below_up HB1.out hB9) (Nat.le_refl w.heap.size) #[.int .i64 s2.least, .int .i64 s2.wait, .slice b2.ta s2.tiers.length b2.tc, .slice b2.fa s2.files.length b2.fc, .slice b2.ca s2.copies.length b2.cc, .slice b2.ha s2.held.length b2.hc, .slice b2.ba s2.bin.length b2.bc]
      have hO2 := (hO9.down HV1.out).setRow (b := w.heap.size) (by have := HLT.out; omega) #[.int .i64 s2.least, .int .i64 s2.wait, .slice b2.ta s2.tiers.length b2.tc, .slice b2.fa s2.files.length b2.fc, .slice b2.ca s2.copies.length b2.cc, .slice b2.ha s2.held.length b2.hc, .slice b2.ba s2.bin.length b2.bc]
      have hz2 : W2.heap.size ≤ (w9.setRow w.heap.size #[.int .i64 s2.least, .int .i64 s2.wait, .slice b2.ta s2.tiers.length b2.tc, .slice b2.fa s2.files.length b2.fc, .slice b2.ca s2.copies.length b2.cc, .slice b2.ha s2.held.length b2.hc, .slice b2.ba s2.bin.length b2.bc]).heap.size := by have := hB9.size; have := HV1.out; simp; omega
      obtain ⟨V2, hV2⟩ : ∃ V2, w9.setRow w.heap.size #[.int .i64 s2.least, .int .i64 s2.wait, .slice b2.ta s2.tiers.length b2.tc, .slice b2.fa s2.files.length b2.fc, .slice b2.ca s2.copies.length b2.cc, .slice b2.ha s2.held.length b2.hc, .slice b2.ba s2.bin.length b2.bc] = V2 := ⟨_, rfl⟩
      rw [hV2] at hP2 hQ2 hD2 hB2 hO2 hz2 ⊢
      clear hV2 q0 q1 q2 q3 q4 q5 q6 d0 d1 d2 d3 hO9 hB9
      have HP2 := Lib.hid hP2; have HQ2 := Lib.hid hQ2; have HD2 := Lib.hid hD2; have HB2 := Lib.hid hB2; have HO2 := Lib.hid hO2; have HV2 := Lib.hid hz2
      obtain ⟨q0, q1, q2, q3, q4, q5, q6⟩ := hP2.seven
      obtain ⟨d0, d1, d2, d3⟩ := hD2.four
      clear hP2 hQ2 hD2 hB2 hO2 hz2
      obtain ⟨s3, hs3⟩ : ∃ s3, St.hold s2 f.dig = s3 := ⟨_, rfl⟩
      have HS3 : Hid (s3 = if f.kind = 1 then St.hold s2 f.dig else s2) := Lib.hid (by rw [if_pos (by simpa using hke), hs3])
      have HAG := Lib.hid (fun U b (hO : StOwn U W2.heap.size s2 b) (hz : W2.heap.size ≤ U.heap.size) => show Calls Tryz.prog 84 #[.agg #[.int .i64 s2.least, .int .i64 s2.wait, .slice b.ta s2.tiers.length b.tc, .slice b.fa s2.files.length b.fc, .slice b.ca s2.copies.length b.cc, .slice b.ha s2.held.length b.hc, .slice b.ba s2.bin.length b.bc], .string f.dig] U (AgainPost U W2.heap.size s3) from by
       rw [← hs3]
       exact heldAgainR_any s2 b f.dig W2.heap.size U hO hz (by rw [HH2.out.2]; exact HUP.out.1) (by rw [HH2.out.1]; exact HUP.out.2.1) (by rw [HH2.out.2]; exact HUP.out.2.2.1) (by rw [HH2.out.1]; exact HUP.out.2.2.2))
      unfold AgainPost at HAG
      clear hs3
      go_upto_region 29 with (first
       | (go_at_call 84; (with_reducible refine (HAG.out _ _ HO2.out HV2.out).mono ?_); rintro e w10 ⟨b3, rfl, hO10, hB10⟩; have hP10 := HP2.out.of_block (hB10.block _ (show w.heap.size < W2.heap.size by have := HLT.out; omega)))
       | (refine wpList_store_row rfl 28 _ _ rfl w.heap.size #[.int .i64 s3.least, .int .i64 s3.wait, .slice b3.ta s3.tiers.length b3.tc, .slice b3.fa s3.files.length b3.fc, .slice b3.ca s3.copies.length b3.cc, .slice b3.ha s3.held.length b3.hc, .slice b3.ba s3.bin.length b3.bc] rfl rfl 28 _ (hP10) infoSto rfl (by simp [Value.oneCell']) ?_))
      have hlt := HLT.out
      have hQ10 := HQ2.out.of_block (hB10.block (w.heap.size + 2) hlt)
      have HP3 := Lib.hid (Blk.setRowAt hP10 #[.int .i64 s3.least, .int .i64 s3.wait, .slice b3.ta s3.tiers.length b3.tc, .slice b3.fa s3.files.length b3.fc, .slice b3.ca s3.copies.length b3.cc, .slice b3.ha s3.held.length b3.hc, .slice b3.ba s3.bin.length b3.bc])
      have HQ3 := Lib.hid (hQ10.setRowOther (b' := w.heap.size) (by omega) #[.int .i64 s3.least, .int .i64 s3.wait, .slice b3.ta s3.tiers.length b3.tc, .slice b3.fa s3.files.length b3.fc, .slice b3.ca s3.copies.length b3.cc, .slice b3.ha s3.held.length b3.hc, .slice b3.ba s3.bin.length b3.bc])
      have HB3 := Lib.hid (below_setRow (HB2.out.trans (hB10.mono (by omega))) (Nat.le_refl w.heap.size) #[.int .i64 s3.least, .int .i64 s3.wait, .slice b3.ta s3.tiers.length b3.tc, .slice b3.fa s3.files.length b3.fc, .slice b3.ca s3.copies.length b3.cc, .slice b3.ha s3.held.length b3.hc, .slice b3.ba s3.bin.length b3.bc])
      have HO3 := Lib.hid (hO10.setRow (b := w.heap.size) (by omega) #[.int .i64 s3.least, .int .i64 s3.wait, .slice b3.ta s3.tiers.length b3.tc, .slice b3.fa s3.files.length b3.fc, .slice b3.ca s3.copies.length b3.cc, .slice b3.ha s3.held.length b3.hc, .slice b3.ba s3.bin.length b3.bc])
      obtain ⟨V3, hV3⟩ : ∃ V3, w10.setRow w.heap.size #[.int .i64 s3.least, .int .i64 s3.wait, .slice b3.ta s3.tiers.length b3.tc, .slice b3.fa s3.files.length b3.fc, .slice b3.ca s3.copies.length b3.cc, .slice b3.ha s3.held.length b3.hc, .slice b3.ba s3.bin.length b3.bc] = V3 := ⟨_, rfl⟩
      rw [hV3] at HP3 HQ3 HB3 HO3 ⊢
      clear hV3 q0 q1 q2 q3 q4 q5 q6 d0 d1 d2 d3 hO10 hB10 hP10 hQ10 hlt
      have HRE : Hid (t = s3) := Lib.hid (by rw [← HT.out]; exact St.imp_split s s1 s2 s3 f tier now HS1.out HS2.out HS3.out)
      have hlt := HLT.out
      have HIZ := Lib.hid ((HO3.out.setRow (b := w.heap.size + 2) (by omega) #[.int .i64 s3.least, .int .i64 s3.wait, .slice b3.ta s3.tiers.length b3.tc, .slice b3.fa s3.files.length b3.fc, .slice b3.ca s3.copies.length b3.cc, .slice b3.ha s3.held.length b3.hc, .slice b3.ba s3.bin.length b3.bc]).in_ (HRE.out ▸ HZT.out))
      have HBZ := Lib.hid (below_setRow HB3.out (show w.heap.size ≤ w.heap.size + 2 by omega) #[.int .i64 s3.least, .int .i64 s3.wait, .slice b3.ta s3.tiers.length b3.tc, .slice b3.fa s3.files.length b3.fc, .slice b3.ca s3.copies.length b3.cc, .slice b3.ha s3.held.length b3.hc, .slice b3.ba s3.bin.length b3.bc])
      have hQ3 := HQ3.out
      obtain ⟨y0, y1, y2, y3, y4, y5, y6⟩ := HP3.out.seven
      go_wp2_with (refine wpList_store_row rfl 28 _ _ rfl (w.heap.size + 2) #[.int .i64 s3.least, .int .i64 s3.wait, .slice b3.ta s3.tiers.length b3.tc, .slice b3.fa s3.files.length b3.fc, .slice b3.ca s3.copies.length b3.cc, .slice b3.ha s3.held.length b3.hc, .slice b3.ba s3.bin.length b3.bc] rfl rfl 28 _ hQ3 infoSto rfl (by simp [Value.oneCell']) ?_)
      obtain ⟨g0, g1, g2, g3, g4, g5, g6⟩ := (Blk.setRowAt hQ3 #[.int .i64 s3.least, .int .i64 s3.wait, .slice b3.ta s3.tiers.length b3.tc, .slice b3.fa s3.files.length b3.fc, .slice b3.ca s3.copies.length b3.cc, .slice b3.ha s3.held.length b3.hc, .slice b3.ba s3.bin.length b3.bc]).seven
      refine bodyPost_ret (v := .tuple #[.agg #[.int .i64 s3.least, .int .i64 s3.wait, .slice b3.ta s3.tiers.length b3.tc, .slice b3.fa s3.files.length b3.fc, .slice b3.ca s3.copies.length b3.cc, .slice b3.ha s3.held.length b3.hc, .slice b3.ba s3.bin.length b3.bc], .int .i64 0]) (by simp [results, Tryz.results16, go_sem, g0, g1, g2, g3, g4, g5, g6]) rfl ?_
      rw [HRE.out]
      exact ⟨_, rfl, HIZ.out, HBZ.out⟩
   ·obtain rfl : j = pf := by have := HPF.out; omega
    have hd1 : decide ((j : Int) < (s.files.length : Int)) = false := decide_eq_false (by omega)
    have hd2 : ((j : Int) < (s.files.length : Int)) = False := eq_false (by omega)
    go_wp2_with fail
    go_quiet (fail)
    have hB9 := below_drewN hB nq
    generalize World.drewN wr nq = U at *
    clear q0 q1 q2 q3 q4 q5 q6 d0 d1 d2 d3 hB
    have HB9 := Lib.hid hB9
    have hal : Below U.heap.size U (U.alloc (.cells #[.string f.dig, .int .i64 f.size, .int .i64 f.kind, .string f.frm] 30)) := (Below.refl _ _).alloc (Nat.le_refl _) _
    have hPA := (HPv.out.keep hB9).keep hal
    have hQA := (HQv.out.keep hB9).keep hal
    have hDA := (HDv.out.keep hB9).keep hal
    have hOA := (HOv.out.keep hB9).keep hal
    have HBA := Lib.hid (below_up HBv.out (below_up hB9 hal))
    have HZA : Hid (W2.heap.size ≤ (U.alloc (.cells #[.string f.dig, .int .i64 f.size, .int .i64 f.kind, .string f.frm] 30)).heap.size) := Lib.hid (by have := HVz.out; have := hB9.size; have := hal.size; omega)
    have HPA2 := Lib.hid hPA; have HQA := Lib.hid hQA; have HDA := Lib.hid hDA; have HOA := Lib.hid hOA
    have HNV : Hid (∀ o, ((U).alloc o).heap[(U).heap.size]? = some o) := Lib.hid (fun o => heap_alloc_new U o)
    have HGE : Hid (V.heap.size ≤ U.heap.size) := Lib.hid hB9.size
    obtain ⟨q0, q1, q2, q3, q4, q5, q6⟩ := (HPv.out.keep hB9).seven
    obtain ⟨d0, d1, d2, d3⟩ := (HDv.out.keep hB9).four
    clear hPA hQA hDA hOA hal hB9
    go_upto_region 25 with (go_at_call 82; (with_reducible refine (HINS.out _ (below_allocs HB9.out _) U.heap.size (HNV.out _) HGE.out).mono ?_); rintro e w8 ⟨g8, c8, rfl, hc8, hg8, hn8⟩; have HC8 := Lib.hid hc8; have HG8 := Lib.hid hg8; have hlt := HLT.out; have hP8 := HPA2.out.besideV HOA.out.fi hg8 (show w.heap.size < W2.heap.size by omega); obtain ⟨q0, q1, q2, q3, q4, q5, q6⟩ := hP8.seven; have qf := hP8.free; clear hc8 hg8 hn8)
    have hPy : Blk (w8.setCell ⟨w.heap.size, 3, none⟩ (.slice (some ⟨g8, 0, none⟩) FS.length c8)) w.heap.size #[.int .i64 s.least, .int .i64 s.wait, .slice b.ta s.tiers.length b.tc, .slice (some ⟨g8, 0, none⟩) FS.length c8, .slice b.ca s.copies.length b.cc, .slice b.ha s.held.length b.hc, .slice b.ba s.bin.length b.bc] 28 := hP8.set 3 (.slice (some ⟨g8, 0, none⟩) FS.length c8)
    have hQv := (HQA.out.besideV HOA.out.fi HG8.out (by omega)).setOther (a := ⟨w.heap.size, 3, none⟩) (by simp <;> omega) (.slice (some ⟨g8, 0, none⟩) FS.length c8)
    have hDv := (HDA.out.besideV HOA.out.fi HG8.out (by omega)).setOther (a := ⟨w.heap.size, 3, none⟩) (by simp <;> omega) (.slice (some ⟨g8, 0, none⟩) FS.length c8)
    have hOy := (HOA.out.filPut (FS := FS) (.inr ⟨g8, c8, rfl, HC8.out⟩) HG8.out).cellB (show w.heap.size < W2.heap.size by omega) 3 (.slice (some ⟨g8, 0, none⟩) FS.length c8)
    have hBv := (below_ownE HBA.out (HOA.out.fi.down (show w.heap.size ≤ W2.heap.size by omega)) HG8.out (by have := HZA.out; omega)).setCell (p := ⟨w.heap.size, 3, none⟩) (Nat.le_refl _) (.slice (some ⟨g8, 0, none⟩) FS.length c8)
    have hVz : W2.heap.size ≤ (w8.setCell ⟨w.heap.size, 3, none⟩ (.slice (some ⟨g8, 0, none⟩) FS.length c8)).heap.size := by have := HZA.out; have := HG8.out.size; simp; omega
    generalize w8.setCell ⟨w.heap.size, 3, none⟩ (.slice (some ⟨g8, 0, none⟩) FS.length c8) = Y at *
    clear q0 q1 q2 q3 q4 q5 q6 d0 d1 d2 d3 qf hP8
    obtain ⟨s1, b1, hs1, hP1, hO1⟩ : ∃ (s1 : Sto) (b1 : StA), s1 = { s with files := FS } ∧ Blk Y w.heap.size #[.int .i64 s1.least, .int .i64 s1.wait, .slice b1.ta s1.tiers.length b1.tc, .slice b1.fa s1.files.length b1.fc, .slice b1.ca s1.copies.length b1.cc, .slice b1.ha s1.held.length b1.hc, .slice b1.ba s1.bin.length b1.bc] 28 ∧ StOwn Y W2.heap.size s1 b1 := ⟨{ s with files := FS }, ⟨b.ta, b.tc, some ⟨g8, 0, none⟩, c8, b.ca, b.cc, b.ha, b.hc, b.ba, b.bc⟩, rfl, hPy, hOy⟩
    have HS1 : Hid (s1 = { s with files := St.wth St.fdig f s.files }) := Lib.hid (by rw [hs1, HTH.out])
    have HC1 : Hid (s1.copies = s.copies) := Lib.hid (by rw [hs1])
    have HL1 : Hid (StLen s1) := Lib.hid (by rw [hs1]; exact ⟨HLEN.out.1, HFB.out, HLEN.out.2.2⟩)
    have HZ1 : Hid (StSz s1) := Lib.hid (by rw [hs1]; exact ⟨HSZ.out.tz, HZF.out, HSZ.out.cz, HSZ.out.hz, HSZ.out.bz⟩)
    have HH1 : Hid (s1.held = s.held ∧ s1.bin = s.bin) := Lib.hid (by rw [hs1]; exact ⟨rfl, rfl⟩)
    clear hs1 hPy hOy
    have HP1 := Lib.hid hP1; have HQ1 := Lib.hid hQv; have HD1 := Lib.hid hDv; have HB1 := Lib.hid hBv; have HO1 := Lib.hid hO1; have HV1 := Lib.hid hVz
    obtain ⟨q0, q1, q2, q3, q4, q5, q6⟩ := hP1.seven
    obtain ⟨d0, d1, d2, d3⟩ := hDv.four
    clear hP1 hQv hDv hBv hO1 hVz
    obtain ⟨s2, hs2⟩ : ∃ s2 : Sto, { s1 with copies := s1.copies.take p ++ (⟨f.dig, tier, true, now⟩ : Cop) :: s1.copies.drop p } = s2 := ⟨_, rfl⟩
    have HWC := Lib.hid (fun U (hI : StIn U s1 b1) => show Calls Tryz.prog 83 #[.agg #[.int .i64 s1.least, .int .i64 s1.wait, .slice b1.ta s1.tiers.length b1.tc, .slice b1.fa s1.files.length b1.fc, .slice b1.ca s1.copies.length b1.cc, .slice b1.ha s1.held.length b1.hc, .slice b1.ba s1.bin.length b1.bc], .agg #[.string f.dig, .string tier, .bool true, .int .i64 now]] U (OwnPut U s2) from by
     rw [← hs2]
     exact withCopyR_is s1 b1 ⟨f.dig, tier, true, now⟩ p U hI HL1.out (by unfold St.copyAt; rw [HC1.out]; exact HK0.out) (by rw [HC1.out]; exact HPL.out) (by rw [HC1.out]; exact HPB.out) (by rw [HC1.out]; exact HPA.out))
    unfold OwnPut at HWC
    have HS2 : Hid (s2 = { s1 with copies := St.wth St.ckey ⟨f.dig, tier, true, St.askedOf s f.dig tier now⟩ s.copies }) := Lib.hid (by rw [← hs2, HC1.out, HCW.out])
    have HH2 : Hid (s2.held = s.held ∧ s2.bin = s.bin) := Lib.hid (by rw [← hs2]; exact HH1.out)
    have HI1 := Lib.hid (HO1.out.in_ HZ1.out)
    clear hs2
    go_upto_region 27 with (first
     | (go_at_call 83; (with_reducible refine (HWC.out _ HI1.out).mono ?_); rintro e w9 ⟨b2, rfl, hO9, hB9⟩)
     | (refine wpList_store_row rfl 28 _ _ rfl w.heap.size #[.int .i64 s2.least, .int .i64 s2.wait, .slice b2.ta s2.tiers.length b2.tc, .slice b2.fa s2.files.length b2.fc, .slice b2.ca s2.copies.length b2.cc, .slice b2.ha s2.held.length b2.hc, .slice b2.ba s2.bin.length b2.bc] rfl rfl 28 _ (HP1.out.keep hB9) infoSto rfl (by simp [Value.oneCell']) ?_))
    have hP2 := Blk.setRowAt (HP1.out.keep hB9) #[.int .i64 s2.least, .int .i64 s2.wait, .slice b2.ta s2.tiers.length b2.tc, .slice b2.fa s2.files.length b2.fc, .slice b2.ca s2.copies.length b2.cc, .slice b2.ha s2.held.length b2.hc, .slice b2.ba s2.bin.length b2.bc]
    have hQ2 := (HQ1.out.keep hB9).setRowOther (b' := w.heap.size) (by omega) #[.int .i64 s2.least, .int .i64 s2.wait, .slice b2.ta s2.tiers.length b2.tc, .slice b2.fa s2.files.length b2.fc, .slice b2.ca s2.copies.length b2.cc, .slice b2.ha s2.held.length b2.hc, .slice b2.ba s2.bin.length b2.bc]
    have hD2 := (HD1.out.keep hB9).setRowOther (b' := w.heap.size) (by omega) #[.int .i64 s2.least, .int .i64 s2.wait, .slice b2.ta s2.tiers.length b2.tc, .slice b2.fa s2.files.length b2.fc, .slice b2.ca s2.copies.length b2.cc, .slice b2.ha s2.held.length b2.hc, .slice b2.ba s2.bin.length b2.bc]
    have hB2 := below_setRow (below_up HB1.out hB9) (Nat.le_refl w.heap.size) #[.int .i64 s2.least, .int .i64 s2.wait, .slice b2.ta s2.tiers.length b2.tc, .slice b2.fa s2.files.length b2.fc, .slice b2.ca s2.copies.length b2.cc, .slice b2.ha s2.held.length b2.hc, .slice b2.ba s2.bin.length b2.bc]
    have hO2 := (hO9.down HV1.out).setRow (b := w.heap.size) (by have := HLT.out; omega) #[.int .i64 s2.least, .int .i64 s2.wait, .slice b2.ta s2.tiers.length b2.tc, .slice b2.fa s2.files.length b2.fc, .slice b2.ca s2.copies.length b2.cc, .slice b2.ha s2.held.length b2.hc, .slice b2.ba s2.bin.length b2.bc]
    have hz2 : W2.heap.size ≤ (w9.setRow w.heap.size #[.int .i64 s2.least, .int .i64 s2.wait, .slice b2.ta s2.tiers.length b2.tc, .slice b2.fa s2.files.length b2.fc, .slice b2.ca s2.copies.length b2.cc, .slice b2.ha s2.held.length b2.hc, .slice b2.ba s2.bin.length b2.bc]).heap.size := by have := hB9.size; have := HV1.out; simp; omega
    obtain ⟨V2, hV2⟩ : ∃ V2, w9.setRow w.heap.size #[.int .i64 s2.least, .int .i64 s2.wait, .slice b2.ta s2.tiers.length b2.tc, .slice b2.fa s2.files.length b2.fc, .slice b2.ca s2.copies.length b2.cc, .slice b2.ha s2.held.length b2.hc, .slice b2.ba s2.bin.length b2.bc] = V2 := ⟨_, rfl⟩
    rw [hV2] at hP2 hQ2 hD2 hB2 hO2 hz2 ⊢
    clear hV2 q0 q1 q2 q3 q4 q5 q6 d0 d1 d2 d3 hO9 hB9
    have HP2 := Lib.hid hP2; have HQ2 := Lib.hid hQ2; have HD2 := Lib.hid hD2; have HB2 := Lib.hid hB2; have HO2 := Lib.hid hO2; have HV2 := Lib.hid hz2
    obtain ⟨q0, q1, q2, q3, q4, q5, q6⟩ := hP2.seven
    obtain ⟨d0, d1, d2, d3⟩ := hD2.four
    clear hP2 hQ2 hD2 hB2 hO2 hz2
    obtain ⟨s3, hs3⟩ : ∃ s3, St.hold s2 f.dig = s3 := ⟨_, rfl⟩
    have HS3 : Hid (s3 = if f.kind = 1 then St.hold s2 f.dig else s2) := Lib.hid (by rw [if_pos (by simpa using hke), hs3])
    have HAG := Lib.hid (fun U b (hO : StOwn U W2.heap.size s2 b) (hz : W2.heap.size ≤ U.heap.size) => show Calls Tryz.prog 84 #[.agg #[.int .i64 s2.least, .int .i64 s2.wait, .slice b.ta s2.tiers.length b.tc, .slice b.fa s2.files.length b.fc, .slice b.ca s2.copies.length b.cc, .slice b.ha s2.held.length b.hc, .slice b.ba s2.bin.length b.bc], .string f.dig] U (AgainPost U W2.heap.size s3) from by
     rw [← hs3]
     exact heldAgainR_any s2 b f.dig W2.heap.size U hO hz (by rw [HH2.out.2]; exact HUP.out.1) (by rw [HH2.out.1]; exact HUP.out.2.1) (by rw [HH2.out.2]; exact HUP.out.2.2.1) (by rw [HH2.out.1]; exact HUP.out.2.2.2))
    unfold AgainPost at HAG
    clear hs3
    go_upto_region 29 with (first
     | (go_at_call 84; (with_reducible refine (HAG.out _ _ HO2.out HV2.out).mono ?_); rintro e w10 ⟨b3, rfl, hO10, hB10⟩; have hP10 := HP2.out.of_block (hB10.block _ (show w.heap.size < W2.heap.size by have := HLT.out; omega)))
     | (refine wpList_store_row rfl 28 _ _ rfl w.heap.size #[.int .i64 s3.least, .int .i64 s3.wait, .slice b3.ta s3.tiers.length b3.tc, .slice b3.fa s3.files.length b3.fc, .slice b3.ca s3.copies.length b3.cc, .slice b3.ha s3.held.length b3.hc, .slice b3.ba s3.bin.length b3.bc] rfl rfl 28 _ (hP10) infoSto rfl (by simp [Value.oneCell']) ?_))
    have hlt := HLT.out
    have hQ10 := HQ2.out.of_block (hB10.block (w.heap.size + 2) hlt)
    have HP3 := Lib.hid (Blk.setRowAt hP10 #[.int .i64 s3.least, .int .i64 s3.wait, .slice b3.ta s3.tiers.length b3.tc, .slice b3.fa s3.files.length b3.fc, .slice b3.ca s3.copies.length b3.cc, .slice b3.ha s3.held.length b3.hc, .slice b3.ba s3.bin.length b3.bc])
    have HQ3 := Lib.hid (hQ10.setRowOther (b' := w.heap.size) (by omega) #[.int .i64 s3.least, .int .i64 s3.wait, .slice b3.ta s3.tiers.length b3.tc, .slice b3.fa s3.files.length b3.fc, .slice b3.ca s3.copies.length b3.cc, .slice b3.ha s3.held.length b3.hc, .slice b3.ba s3.bin.length b3.bc])
    have HB3 := Lib.hid (below_setRow (HB2.out.trans (hB10.mono (by omega))) (Nat.le_refl w.heap.size) #[.int .i64 s3.least, .int .i64 s3.wait, .slice b3.ta s3.tiers.length b3.tc, .slice b3.fa s3.files.length b3.fc, .slice b3.ca s3.copies.length b3.cc, .slice b3.ha s3.held.length b3.hc, .slice b3.ba s3.bin.length b3.bc])
    have HO3 := Lib.hid (hO10.setRow (b := w.heap.size) (by omega) #[.int .i64 s3.least, .int .i64 s3.wait, .slice b3.ta s3.tiers.length b3.tc, .slice b3.fa s3.files.length b3.fc, .slice b3.ca s3.copies.length b3.cc, .slice b3.ha s3.held.length b3.hc, .slice b3.ba s3.bin.length b3.bc])
    obtain ⟨V3, hV3⟩ : ∃ V3, w10.setRow w.heap.size #[.int .i64 s3.least, .int .i64 s3.wait, .slice b3.ta s3.tiers.length b3.tc, .slice b3.fa s3.files.length b3.fc, .slice b3.ca s3.copies.length b3.cc, .slice b3.ha s3.held.length b3.hc, .slice b3.ba s3.bin.length b3.bc] = V3 := ⟨_, rfl⟩
    rw [hV3] at HP3 HQ3 HB3 HO3 ⊢
    clear hV3 q0 q1 q2 q3 q4 q5 q6 d0 d1 d2 d3 hO10 hB10 hP10 hQ10 hlt
    have HRE : Hid (t = s3) := Lib.hid (by rw [← HT.out]; exact St.imp_split s s1 s2 s3 f tier now HS1.out HS2.out HS3.out)
    have hlt := HLT.out
    have HIZ := Lib.hid ((HO3.out.setRow (b := w.heap.size + 2) (by omega) #[.int .i64 s3.least, .int .i64 s3.wait, .slice b3.ta s3.tiers.length b3.tc, .slice b3.fa s3.files.length b3.fc, .slice b3.ca s3.copies.length b3.cc, .slice b3.ha s3.held.length b3.hc, .slice b3.ba s3.bin.length b3.bc]).in_ (HRE.out ▸ HZT.out))
    have HBZ := Lib.hid (below_setRow HB3.out (show w.heap.size ≤ w.heap.size + 2 by omega) #[.int .i64 s3.least, .int .i64 s3.wait, .slice b3.ta s3.tiers.length b3.tc, .slice b3.fa s3.files.length b3.fc, .slice b3.ca s3.copies.length b3.cc, .slice b3.ha s3.held.length b3.hc, .slice b3.ba s3.bin.length b3.bc])
    have hQ3 := HQ3.out
    obtain ⟨y0, y1, y2, y3, y4, y5, y6⟩ := HP3.out.seven
    go_wp2_with (refine wpList_store_row rfl 28 _ _ rfl (w.heap.size + 2) #[.int .i64 s3.least, .int .i64 s3.wait, .slice b3.ta s3.tiers.length b3.tc, .slice b3.fa s3.files.length b3.fc, .slice b3.ca s3.copies.length b3.cc, .slice b3.ha s3.held.length b3.hc, .slice b3.ba s3.bin.length b3.bc] rfl rfl 28 _ hQ3 infoSto rfl (by simp [Value.oneCell']) ?_)
    obtain ⟨g0, g1, g2, g3, g4, g5, g6⟩ := (Blk.setRowAt hQ3 #[.int .i64 s3.least, .int .i64 s3.wait, .slice b3.ta s3.tiers.length b3.tc, .slice b3.fa s3.files.length b3.fc, .slice b3.ca s3.copies.length b3.cc, .slice b3.ha s3.held.length b3.hc, .slice b3.ba s3.bin.length b3.bc]).seven
    refine bodyPost_ret (v := .tuple #[.agg #[.int .i64 s3.least, .int .i64 s3.wait, .slice b3.ta s3.tiers.length b3.tc, .slice b3.fa s3.files.length b3.fc, .slice b3.ca s3.copies.length b3.cc, .slice b3.ha s3.held.length b3.hc, .slice b3.ba s3.bin.length b3.bc], .int .i64 0]) (by simp [results, Tryz.results16, go_sem, g0, g1, g2, g3, g4, g5, g6]) rfl ?_
    rw [HRE.out]
    exact ⟨_, rfl, HIZ.out, HBZ.out⟩
 ·cases br
  ·cases hkr
  ·have hke : (f.kind == 1) = false := by simpa using hbk
   go_enter Tryz.func16, Tryz.ntmps16
   go_upto_region 1 with fail
   rw [HW0.out, HW1.out, HW2.out]
   go_upto_region 5 with (first
    | (go_at_call 74; (with_reducible refine (HFF.out _).mono ?_); rintro e w6 ⟨rfl, hq⟩; have hv := below_up hv hq; obtain ⟨q0, q1, q2, q3, q4, q5, q6⟩ := (HP.out.keep hv).seven; obtain ⟨d0, d1, d2, d3⟩ := (HD.out.keep hv).four)
    | (go_at_call 76; (with_reducible refine (HFO.out _ hv).mono ?_); rintro e w7 ⟨rfl, hq⟩; have hv := below_up hv hq; obtain ⟨q0, q1, q2, q3, q4, q5, q6⟩ := (HP.out.keep hv).seven; obtain ⟨d0, d1, d2, d3⟩ := (HD.out.keep hv).four)
    | (refine wpList_store_row rfl 30 _ _ rfl w7.heap.size #[.string y.dig, .int .i64 y.size, .int .i64 y.kind, .string y.frm] rfl rfl 30 #[.string ⟨#[]⟩, .int .i64 0, .int .i64 0, .string ⟨#[]⟩] (heap_alloc_new w7 _) infoFilS rfl (by simp [Value.oneCell']) ?_))
   obtain ⟨X, hX, hXB, hXz, hXW⟩ := fillNew w7 #[.string ⟨#[]⟩, .int .i64 0, .int .i64 0, .string ⟨#[]⟩] #[.string y.dig, .int .i64 y.size, .int .i64 y.kind, .string y.frm] 30
   rw [hX]
   have hv := below_up hv hXW
   clear q0 q1 q2 q3 q4 q5 q6 d0 d1 d2 d3 hX hXz hXW
   obtain ⟨q0, q1, q2, q3, q4, q5, q6⟩ := (HP.out.keep hv).seven
   obtain ⟨d0, d1, d2, d3⟩ := (HD.out.keep hv).four
   have HXB := Lib.hid hXB
   obtain ⟨x0, x1, x2, x3⟩ := hXB.four
   clear hXB
   go_upto_region 14 with (first | (go_at_call 75; (with_reducible refine (HOR.out _ hv).mono ?_); rintro e w8 ⟨rfl, hq⟩; have hv := below_up hv hq; obtain ⟨q0, q1, q2, q3, q4, q5, q6⟩ := (HP.out.keep hv).seven; obtain ⟨d0, d1, d2, d3⟩ := (HD.out.keep hv).four; obtain ⟨x0, x1, x2, x3⟩ := (HXB.out.keep hq).four) | (go_at_call 72; (with_reducible refine (HTA.out _ hv).mono ?_); rintro e w9 ⟨rfl, hq⟩; have hv := below_up hv hq; obtain ⟨q0, q1, q2, q3, q4, q5, q6⟩ := (HP.out.keep hv).seven; obtain ⟨d0, d1, d2, d3⟩ := (HD.out.keep hv).four) | (go_at_call 78; (with_reducible refine (HMO.out _).mono ?_); rintro e w10 ⟨rfl, rfl⟩) | (go_at_call 80; (with_reducible refine (HCO.out _ hv).mono ?_); rintro e w11 ⟨rfl, hq⟩; have hv := below_up hv hq; obtain ⟨q0, q1, q2, q3, q4, q5, q6⟩ := (HP.out.keep hv).seven; obtain ⟨d0, d1, d2, d3⟩ := (HD.out.keep hv).four))
   have hv := hv.drew
   obtain ⟨q0, q1, q2, q3, q4, q5, q6⟩ := (HP.out.keep hv).seven
   obtain ⟨d0, d1, d2, d3⟩ := (HD.out.keep hv).four
   go_region_held3 (fun W => W.cell? ⟨w.heap.size, 0, none⟩ = some (.int .i64 s.least) ∧ W.cell? ⟨w.heap.size, 1, none⟩ = some (.int .i64 s.wait) ∧ W.cell? ⟨w.heap.size, 2, none⟩ = some (.slice a.ta s.tiers.length a.tc) ∧ W.cell? ⟨w.heap.size, 3, none⟩ = some (.slice a.fa s.files.length a.fc) ∧ W.cell? ⟨w.heap.size, 4, none⟩ = some (.slice a.ca s.copies.length a.cc) ∧ W.cell? ⟨w.heap.size, 5, none⟩ = some (.slice a.ha s.held.length a.hc) ∧ W.cell? ⟨w.heap.size, 6, none⟩ = some (.slice a.ba s.bin.length a.bc) ∧ W.cell? ⟨w.heap.size + 1, 1, none⟩ = some (.int .i64 f.size))
    (first | (with_reducible exact ⟨q0, q1, q2, q3, q4, q5, q6, d1⟩) | go_keep)
    (first
     | (go_at_call 36; (with_reducible refine (HFI.out _ hv).mono ?_); rintro e w12 ⟨rfl, hq⟩; have hv := below_up hv hq; obtain ⟨q0, q1, q2, q3, q4, q5, q6⟩ := (HP.out.keep hv).seven; obtain ⟨d0, d1, d2, d3⟩ := (HD.out.keep hv).four)
     | fail)
   rename_i hHeld
   clear hHeld
   go_upto_region 18 with fail
   go_upto_region 19 with (first
    | (go_at_call 81; (with_reducible refine (HCP.out _ hv).mono ?_); rintro e w8 ⟨b, rfl, hOwn, hB8⟩)
    | (refine wpList_store_row rfl 28 _ _ rfl w.heap.size #[.int .i64 s.least, .int .i64 s.wait, .slice b.ta s.tiers.length b.tc, .slice b.fa s.files.length b.fc, .slice b.ca s.copies.length b.cc, .slice b.ha s.held.length b.hc, .slice b.ba s.bin.length b.bc] rfl rfl 28 _ (HP.out.keep (below_up hv hB8)) infoSto rfl (by simp [Value.oneCell']) ?_))
   have hlt4 : w.heap.size + 2 < W2.heap.size := by have := HZ2.out; omega
   have hv8 := below_up hv hB8
   have hPv := Blk.setRowAt (HP.out.keep hv8) #[.int .i64 s.least, .int .i64 s.wait, .slice b.ta s.tiers.length b.tc, .slice b.fa s.files.length b.fc, .slice b.ca s.copies.length b.cc, .slice b.ha s.held.length b.hc, .slice b.ba s.bin.length b.bc]
   have hQv := (HQ.out.keep hv8).setRowOther (b' := w.heap.size) (by omega) #[.int .i64 s.least, .int .i64 s.wait, .slice b.ta s.tiers.length b.tc, .slice b.fa s.files.length b.fc, .slice b.ca s.copies.length b.cc, .slice b.ha s.held.length b.hc, .slice b.ba s.bin.length b.bc]
   have hDv := (HD.out.keep hv8).setRowOther (b' := w.heap.size) (by omega) #[.int .i64 s.least, .int .i64 s.wait, .slice b.ta s.tiers.length b.tc, .slice b.fa s.files.length b.fc, .slice b.ca s.copies.length b.cc, .slice b.ha s.held.length b.hc, .slice b.ba s.bin.length b.bc]
   have hBv := below_setRow (below_up HBB.out hv8) (Nat.le_refl w.heap.size) #[.int .i64 s.least, .int .i64 s.wait, .slice b.ta s.tiers.length b.tc, .slice b.fa s.files.length b.fc, .slice b.ca s.copies.length b.cc, .slice b.ha s.held.length b.hc, .slice b.ba s.bin.length b.bc]
   have hOv := (hOwn.down hv.size).setRow (b := w.heap.size) (by omega) #[.int .i64 s.least, .int .i64 s.wait, .slice b.ta s.tiers.length b.tc, .slice b.fa s.files.length b.fc, .slice b.ca s.copies.length b.cc, .slice b.ha s.held.length b.hc, .slice b.ba s.bin.length b.bc]
   have hVz : W2.heap.size ≤ (w8.setRow w.heap.size #[.int .i64 s.least, .int .i64 s.wait, .slice b.ta s.tiers.length b.tc, .slice b.fa s.files.length b.fc, .slice b.ca s.copies.length b.cc, .slice b.ha s.held.length b.hc, .slice b.ba s.bin.length b.bc]).heap.size := by have := hv8.size; simp; omega
   obtain ⟨V, hV⟩ : ∃ V, w8.setRow w.heap.size #[.int .i64 s.least, .int .i64 s.wait, .slice b.ta s.tiers.length b.tc, .slice b.fa s.files.length b.fc, .slice b.ca s.copies.length b.cc, .slice b.ha s.held.length b.hc, .slice b.ba s.bin.length b.bc] = V := ⟨_, rfl⟩
   rw [hV] at hPv hQv hDv hBv hOv hVz ⊢
   clear hV q0 q1 q2 q3 q4 q5 q6 d0 d1 d2 d3 x0 x1 x2 x3 hOwn hB8 hv8 hv
   have HLT := Lib.hid hlt4
   clear hlt4
   have HPv := Lib.hid hPv; have HQv := Lib.hid hQv; have HDv := Lib.hid hDv; have HBv := Lib.hid hBv; have HOv := Lib.hid hOv; have HVz := Lib.hid hVz
   have HFO2 : Hid (OwnV V W2.heap.size 30 4 (.slice b.fa s.files.length b.fc) s.files.length (St.eF.flat s.files)) := Lib.hid hOv.fi
   have HRB := Lib.hid (RowE.ofV (E := St.eF) (ca := b.fc) hOv.fi)
   have HINS := Lib.hid (fun U (hb : Below V.heap.size V U) (bv : Nat) (hbv : U.heap[bv]? = some (.cells #[.string f.dig, .int .i64 f.size, .int .i64 f.kind, .string f.frm] 30 (0, 0))) (hge : V.heap.size ≤ bv) => show Calls Tryz.prog 82 #[.slice b.fa s.files.length b.fc, .int .i64 pf, .slice (some ⟨bv, 0, none⟩) 1 1] U (OwnPost U W2.heap.size 30 4 (.slice b.fa s.files.length b.fc) FS.length (St.eF.flat FS)) from by
    have h := fl_ins W2.heap.size s.files.length pf (.slice b.fa s.files.length b.fc) (St.eF.flat s.files) [.string f.dig, .int .i64 f.size, .int .i64 f.kind, .string f.frm] U (HFO2.out.keep hb) (by have := HVz.out; have := hb.size; omega) HPF.out (by have := HLEN.out.2.1; omega) (Enc.flat_one St.eF _) bv _ _ hbv (fun e => by have := (HFO2.out.lt bv e).2; omega) rfl rfl (by simp [Value.oneCell'])
    rw [flat_insF s.files f pf, HFW.out, ← HFL.out] at h
    exact h)
   unfold OwnPost at HINS
   clear hPv hQv hDv hBv hOv hVz
   obtain ⟨q0, q1, q2, q3, q4, q5, q6⟩ := HPv.out.seven
   obtain ⟨d0, d1, d2, d3⟩ := HDv.out.four
   go_upto_region 21 with fail
   clear q0 q1 q2 q3 q4 q5 q6 d0 d1 d2 d3
   go_loopg [14] pf (fun gk i wr => ∃ j : Nat, j ≤ pf ∧ gk = pf - j ∧ i = .int .i64 j ∧ Below V.heap.size V wr)
   case atStart => exact ⟨0, by omega, rfl, rfl, Below.refl _ _⟩
   case round =>
    obtain ⟨j, hj, rfl, rfl, hB⟩ := hrel
    obtain ⟨q0, q1, q2, q3, q4, q5, q6⟩ := (HPv.out.keep hB).seven
    obtain ⟨d0, d1, d2, d3⟩ := (HDv.out.keep hB).four
    by_cases hjn : j < s.files.length
    ·obtain ⟨z, hz⟩ : ∃ z, s.files[j]? = some z := ⟨_, List.getElem?_eq_getElem hjn⟩
     obtain ⟨bb, off, ha, hb, hc⟩ := (HRB.out.keep hB) (by omega)
     have c0 : wr.cell? ⟨bb, off + j * 4, none⟩ = some (.string z.dig) := hc j z hz 0 (.string z.dig) rfl
     have hj0 : (0 : Int) ≤ (j : Int) := by omega
     have hj1 : (j : Int) < (s.files.length : Int) := by omega
     have hj500 : s.files.length ≤ 500 := HLEN.out.2.1
     have hd1 : decide ((j : Int) < (s.files.length : Int)) = true := decide_eq_true hj1
     rw [ha] at q3
     have HXX := Lib.hid hz
     clear hc hz
     cases hl : St.lt z.dig f.dig with
     | true =>
       have hlt : Op.bytesLess z.dig.toList f.dig.toList = true := hl
       have hjp : j < pf := by
        rcases Nat.lt_or_ge j pf with h | h
        ·exact h
        ·have he : j = pf := by omega
         have := HPFA.out z (by rw [← he]; exact HXX.out)
         rw [show St.fdig z = z.dig from rfl, hl] at this; cases this
       go_wp2_with fail
       go_quiet (fail)
       go_wp2_with fail
       go_roundg (pf - (j + 1))
       case rel => exact ⟨j + 1, by omega, rfl, by go_num, below_drewN hB _⟩
       case measure => omega
     | false =>
       have hlt : Op.bytesLess z.dig.toList f.dig.toList = false := hl
       obtain rfl : j = pf := by
        rcases Nat.lt_or_ge j pf with h | h
        ·have := HPFB.out j z HXX.out h
         rw [show St.fdig z = z.dig from rfl, hl] at this; cases this
        ·omega
       go_wp2_with fail
       go_quiet (fail)
       rw [← ha] at q3
       clear c0 hb ha
       have hB9 := below_drewN hB nq
       generalize World.drewN wr nq = U at *
       clear q0 q1 q2 q3 q4 q5 q6 d0 d1 d2 d3 hB
       have HB9 := Lib.hid hB9
       have hal : Below U.heap.size U (U.alloc (.cells #[.string f.dig, .int .i64 f.size, .int .i64 f.kind, .string f.frm] 30)) := (Below.refl _ _).alloc (Nat.le_refl _) _
       have hPA := (HPv.out.keep hB9).keep hal
       have hQA := (HQv.out.keep hB9).keep hal
       have hDA := (HDv.out.keep hB9).keep hal
       have hOA := (HOv.out.keep hB9).keep hal
       have HBA := Lib.hid (below_up HBv.out (below_up hB9 hal))
       have HZA : Hid (W2.heap.size ≤ (U.alloc (.cells #[.string f.dig, .int .i64 f.size, .int .i64 f.kind, .string f.frm] 30)).heap.size) := Lib.hid (by have := HVz.out; have := hB9.size; have := hal.size; omega)
       have HPA2 := Lib.hid hPA; have HQA := Lib.hid hQA; have HDA := Lib.hid hDA; have HOA := Lib.hid hOA
       have HNV : Hid (∀ o, ((U).alloc o).heap[(U).heap.size]? = some o) := Lib.hid (fun o => heap_alloc_new U o)
       have HGE : Hid (V.heap.size ≤ U.heap.size) := Lib.hid hB9.size
       obtain ⟨q0, q1, q2, q3, q4, q5, q6⟩ := (HPv.out.keep hB9).seven
       obtain ⟨d0, d1, d2, d3⟩ := (HDv.out.keep hB9).four
       clear hPA hQA hDA hOA hal hB9
       go_upto_region 25 with (go_at_call 82; (with_reducible refine (HINS.out _ (below_allocs HB9.out _) U.heap.size (HNV.out _) HGE.out).mono ?_); rintro e w8 ⟨g8, c8, rfl, hc8, hg8, hn8⟩; have HC8 := Lib.hid hc8; have HG8 := Lib.hid hg8; have hlt := HLT.out; have hP8 := HPA2.out.besideV HOA.out.fi hg8 (show w.heap.size < W2.heap.size by omega); obtain ⟨q0, q1, q2, q3, q4, q5, q6⟩ := hP8.seven; have qf := hP8.free; clear hc8 hg8 hn8)
       have hPy : Blk (w8.setCell ⟨w.heap.size, 3, none⟩ (.slice (some ⟨g8, 0, none⟩) FS.length c8)) w.heap.size #[.int .i64 s.least, .int .i64 s.wait, .slice b.ta s.tiers.length b.tc, .slice (some ⟨g8, 0, none⟩) FS.length c8, .slice b.ca s.copies.length b.cc, .slice b.ha s.held.length b.hc, .slice b.ba s.bin.length b.bc] 28 := hP8.set 3 (.slice (some ⟨g8, 0, none⟩) FS.length c8)
       have hQv := (HQA.out.besideV HOA.out.fi HG8.out (by omega)).setOther (a := ⟨w.heap.size, 3, none⟩) (by simp <;> omega) (.slice (some ⟨g8, 0, none⟩) FS.length c8)
       have hDv := (HDA.out.besideV HOA.out.fi HG8.out (by omega)).setOther (a := ⟨w.heap.size, 3, none⟩) (by simp <;> omega) (.slice (some ⟨g8, 0, none⟩) FS.length c8)
       have hOy := (HOA.out.filPut (FS := FS) (.inr ⟨g8, c8, rfl, HC8.out⟩) HG8.out).cellB (show w.heap.size < W2.heap.size by omega) 3 (.slice (some ⟨g8, 0, none⟩) FS.length c8)
       have hBv := (below_ownE HBA.out (HOA.out.fi.down (show w.heap.size ≤ W2.heap.size by omega)) HG8.out (by have := HZA.out; omega)).setCell (p := ⟨w.heap.size, 3, none⟩) (Nat.le_refl _) (.slice (some ⟨g8, 0, none⟩) FS.length c8)
       have hVz : W2.heap.size ≤ (w8.setCell ⟨w.heap.size, 3, none⟩ (.slice (some ⟨g8, 0, none⟩) FS.length c8)).heap.size := by have := HZA.out; have := HG8.out.size; simp; omega
       generalize w8.setCell ⟨w.heap.size, 3, none⟩ (.slice (some ⟨g8, 0, none⟩) FS.length c8) = Y at *
       clear q0 q1 q2 q3 q4 q5 q6 d0 d1 d2 d3 qf hP8
       obtain ⟨s1, b1, hs1, hP1, hO1⟩ : ∃ (s1 : Sto) (b1 : StA), s1 = { s with files := FS } ∧ Blk Y w.heap.size #[.int .i64 s1.least, .int .i64 s1.wait, .slice b1.ta s1.tiers.length b1.tc, .slice b1.fa s1.files.length b1.fc, .slice b1.ca s1.copies.length b1.cc, .slice b1.ha s1.held.length b1.hc, .slice b1.ba s1.bin.length b1.bc] 28 ∧ StOwn Y W2.heap.size s1 b1 := ⟨{ s with files := FS }, ⟨b.ta, b.tc, some ⟨g8, 0, none⟩, c8, b.ca, b.cc, b.ha, b.hc, b.ba, b.bc⟩, rfl, hPy, hOy⟩
       have HS1 : Hid (s1 = { s with files := St.wth St.fdig f s.files }) := Lib.hid (by rw [hs1, HTH.out])
       have HC1 : Hid (s1.copies = s.copies) := Lib.hid (by rw [hs1])
       have HL1 : Hid (StLen s1) := Lib.hid (by rw [hs1]; exact ⟨HLEN.out.1, HFB.out, HLEN.out.2.2⟩)
       have HZ1 : Hid (StSz s1) := Lib.hid (by rw [hs1]; exact ⟨HSZ.out.tz, HZF.out, HSZ.out.cz, HSZ.out.hz, HSZ.out.bz⟩)
       have HH1 : Hid (s1.held = s.held ∧ s1.bin = s.bin) := Lib.hid (by rw [hs1]; exact ⟨rfl, rfl⟩)
       clear hs1 hPy hOy
       have HP1 := Lib.hid hP1; have HQ1 := Lib.hid hQv; have HD1 := Lib.hid hDv; have HB1 := Lib.hid hBv; have HO1 := Lib.hid hO1; have HV1 := Lib.hid hVz
       obtain ⟨q0, q1, q2, q3, q4, q5, q6⟩ := hP1.seven
       obtain ⟨d0, d1, d2, d3⟩ := hDv.four
       clear hP1 hQv hDv hBv hO1 hVz
       obtain ⟨s2, hs2⟩ : ∃ s2 : Sto, { s1 with copies := s1.copies.take p ++ (⟨f.dig, tier, true, now⟩ : Cop) :: s1.copies.drop p } = s2 := ⟨_, rfl⟩
       have HWC := Lib.hid (fun U (hI : StIn U s1 b1) => show Calls Tryz.prog 83 #[.agg #[.int .i64 s1.least, .int .i64 s1.wait, .slice b1.ta s1.tiers.length b1.tc, .slice b1.fa s1.files.length b1.fc, .slice b1.ca s1.copies.length b1.cc, .slice b1.ha s1.held.length b1.hc, .slice b1.ba s1.bin.length b1.bc], .agg #[.string f.dig, .string tier, .bool true, .int .i64 now]] U (OwnPut U s2) from by
        rw [← hs2]
        exact withCopyR_is s1 b1 ⟨f.dig, tier, true, now⟩ p U hI HL1.out (by unfold St.copyAt; rw [HC1.out]; exact HK0.out) (by rw [HC1.out]; exact HPL.out) (by rw [HC1.out]; exact HPB.out) (by rw [HC1.out]; exact HPA.out))
       unfold OwnPut at HWC
       have HS2 : Hid (s2 = { s1 with copies := St.wth St.ckey ⟨f.dig, tier, true, St.askedOf s f.dig tier now⟩ s.copies }) := Lib.hid (by rw [← hs2, HC1.out, HCW.out])
       have HH2 : Hid (s2.held = s.held ∧ s2.bin = s.bin) := Lib.hid (by rw [← hs2]; exact HH1.out)
       have HI1 := Lib.hid (HO1.out.in_ HZ1.out)
       clear hs2
       go_upto_region 27 with (first
        | (go_at_call 83; (with_reducible refine (HWC.out _ HI1.out).mono ?_); rintro e w9 ⟨b2, rfl, hO9, hB9⟩)
        | (refine wpList_store_row rfl 28 _ _ rfl w.heap.size #[.int .i64 s2.least, .int .i64 s2.wait, .slice b2.ta s2.tiers.length b2.tc, .slice b2.fa s2.files.length b2.fc, .slice b2.ca s2.copies.length b2.cc, .slice b2.ha s2.held.length b2.hc, .slice b2.ba s2.bin.length b2.bc] rfl rfl 28 _ (HP1.out.keep hB9) infoSto rfl (by simp [Value.oneCell']) ?_))
       have hP2 := Blk.setRowAt (HP1.out.keep hB9) #[.int .i64 s2.least, .int .i64 s2.wait, .slice b2.ta s2.tiers.length b2.tc, .slice b2.fa s2.files.length b2.fc, .slice b2.ca s2.copies.length b2.cc, .slice b2.ha s2.held.length b2.hc, .slice b2.ba s2.bin.length b2.bc]
       have hQ2 := (HQ1.out.keep hB9).setRowOther (b' := w.heap.size) (by omega) #[.int .i64 s2.least, .int .i64 s2.wait, .slice b2.ta s2.tiers.length b2.tc, .slice b2.fa s2.files.length b2.fc, .slice b2.ca s2.copies.length b2.cc, .slice b2.ha s2.held.length b2.hc, .slice b2.ba s2.bin.length b2.bc]
       have hD2 := (HD1.out.keep hB9).setRowOther (b' := w.heap.size) (by omega) #[.int .i64 s2.least, .int .i64 s2.wait, .slice b2.ta s2.tiers.length b2.tc, .slice b2.fa s2.files.length b2.fc, .slice b2.ca s2.copies.length b2.cc, .slice b2.ha s2.held.length b2.hc, .slice b2.ba s2.bin.length b2.bc]
       have hB2 := below_setRow (below_up HB1.out hB9) (Nat.le_refl w.heap.size) #[.int .i64 s2.least, .int .i64 s2.wait, .slice b2.ta s2.tiers.length b2.tc, .slice b2.fa s2.files.length b2.fc, .slice b2.ca s2.copies.length b2.cc, .slice b2.ha s2.held.length b2.hc, .slice b2.ba s2.bin.length b2.bc]
       have hO2 := (hO9.down HV1.out).setRow (b := w.heap.size) (by have := HLT.out; omega) #[.int .i64 s2.least, .int .i64 s2.wait, .slice b2.ta s2.tiers.length b2.tc, .slice b2.fa s2.files.length b2.fc, .slice b2.ca s2.copies.length b2.cc, .slice b2.ha s2.held.length b2.hc, .slice b2.ba s2.bin.length b2.bc]
       have hz2 : W2.heap.size ≤ (w9.setRow w.heap.size #[.int .i64 s2.least, .int .i64 s2.wait, .slice b2.ta s2.tiers.length b2.tc, .slice b2.fa s2.files.length b2.fc, .slice b2.ca s2.copies.length b2.cc, .slice b2.ha s2.held.length b2.hc, .slice b2.ba s2.bin.length b2.bc]).heap.size := by have := hB9.size; have := HV1.out; simp; omega
       obtain ⟨V2, hV2⟩ : ∃ V2, w9.setRow w.heap.size #[.int .i64 s2.least, .int .i64 s2.wait, .slice b2.ta s2.tiers.length b2.tc, .slice b2.fa s2.files.length b2.fc, .slice b2.ca s2.copies.length b2.cc, .slice b2.ha s2.held.length b2.hc, .slice b2.ba s2.bin.length b2.bc] = V2 := ⟨_, rfl⟩
       rw [hV2] at hP2 hQ2 hD2 hB2 hO2 hz2 ⊢
       clear hV2 q0 q1 q2 q3 q4 q5 q6 d0 d1 d2 d3 hO9 hB9
       have HP2 := Lib.hid hP2; have HQ2 := Lib.hid hQ2; have HD2 := Lib.hid hD2; have HB2 := Lib.hid hB2; have HO2 := Lib.hid hO2; have HV2 := Lib.hid hz2
       obtain ⟨q0, q1, q2, q3, q4, q5, q6⟩ := hP2.seven
       obtain ⟨d0, d1, d2, d3⟩ := hD2.four
       clear hP2 hQ2 hD2 hB2 hO2 hz2
       obtain ⟨s3, b3, hs3, HP3, HO3⟩ : ∃ (s3 : Sto) (b3 : StA), s3 = s2 ∧ Hid (Blk _ w.heap.size #[.int .i64 s3.least, .int .i64 s3.wait, .slice b3.ta s3.tiers.length b3.tc, .slice b3.fa s3.files.length b3.fc, .slice b3.ca s3.copies.length b3.cc, .slice b3.ha s3.held.length b3.hc, .slice b3.ba s3.bin.length b3.bc] 28) ∧ Hid (StOwn _ W2.heap.size s3 b3) := ⟨s2, b2, rfl, HP2, HO2⟩
       have HS3 : Hid (s3 = if f.kind = 1 then St.hold s2 f.dig else s2) := Lib.hid (by rw [if_neg (by simpa using hke), hs3])
       have HQ3 := HQ2; have HB3 := HB2
       clear hs3
       go_upto_region 29 with fail
       clear q0 q1 q2 q3 q4 q5 q6 d0 d1 d2 d3
       have HRE : Hid (t = s3) := Lib.hid (by rw [← HT.out]; exact St.imp_split s s1 s2 s3 f tier now HS1.out HS2.out HS3.out)
       have hlt := HLT.out
       have HIZ := Lib.hid ((HO3.out.setRow (b := w.heap.size + 2) (by omega) #[.int .i64 s3.least, .int .i64 s3.wait, .slice b3.ta s3.tiers.length b3.tc, .slice b3.fa s3.files.length b3.fc, .slice b3.ca s3.copies.length b3.cc, .slice b3.ha s3.held.length b3.hc, .slice b3.ba s3.bin.length b3.bc]).in_ (HRE.out ▸ HZT.out))
       have HBZ := Lib.hid (below_setRow HB3.out (show w.heap.size ≤ w.heap.size + 2 by omega) #[.int .i64 s3.least, .int .i64 s3.wait, .slice b3.ta s3.tiers.length b3.tc, .slice b3.fa s3.files.length b3.fc, .slice b3.ca s3.copies.length b3.cc, .slice b3.ha s3.held.length b3.hc, .slice b3.ba s3.bin.length b3.bc])
       have hQ3 := HQ3.out
       obtain ⟨y0, y1, y2, y3, y4, y5, y6⟩ := HP3.out.seven
       go_wp2_with (refine wpList_store_row rfl 28 _ _ rfl (w.heap.size + 2) #[.int .i64 s3.least, .int .i64 s3.wait, .slice b3.ta s3.tiers.length b3.tc, .slice b3.fa s3.files.length b3.fc, .slice b3.ca s3.copies.length b3.cc, .slice b3.ha s3.held.length b3.hc, .slice b3.ba s3.bin.length b3.bc] rfl rfl 28 _ hQ3 infoSto rfl (by simp [Value.oneCell']) ?_)
       obtain ⟨g0, g1, g2, g3, g4, g5, g6⟩ := (Blk.setRowAt hQ3 #[.int .i64 s3.least, .int .i64 s3.wait, .slice b3.ta s3.tiers.length b3.tc, .slice b3.fa s3.files.length b3.fc, .slice b3.ca s3.copies.length b3.cc, .slice b3.ha s3.held.length b3.hc, .slice b3.ba s3.bin.length b3.bc]).seven
       refine bodyPost_ret (v := .tuple #[.agg #[.int .i64 s3.least, .int .i64 s3.wait, .slice b3.ta s3.tiers.length b3.tc, .slice b3.fa s3.files.length b3.fc, .slice b3.ca s3.copies.length b3.cc, .slice b3.ha s3.held.length b3.hc, .slice b3.ba s3.bin.length b3.bc], .int .i64 0]) (by simp [results, Tryz.results16, go_sem, g0, g1, g2, g3, g4, g5, g6]) rfl ?_
       rw [HRE.out]
       exact ⟨_, rfl, HIZ.out, HBZ.out⟩
    ·obtain rfl : j = pf := by have := HPF.out; omega
     have hd1 : decide ((j : Int) < (s.files.length : Int)) = false := decide_eq_false (by omega)
     have hd2 : ((j : Int) < (s.files.length : Int)) = False := eq_false (by omega)
     go_wp2_with fail
     go_quiet (fail)
     have hB9 := below_drewN hB nq
     generalize World.drewN wr nq = U at *
     clear q0 q1 q2 q3 q4 q5 q6 d0 d1 d2 d3 hB
     have HB9 := Lib.hid hB9
     have hal : Below U.heap.size U (U.alloc (.cells #[.string f.dig, .int .i64 f.size, .int .i64 f.kind, .string f.frm] 30)) := (Below.refl _ _).alloc (Nat.le_refl _) _
     have hPA := (HPv.out.keep hB9).keep hal
     have hQA := (HQv.out.keep hB9).keep hal
     have hDA := (HDv.out.keep hB9).keep hal
     have hOA := (HOv.out.keep hB9).keep hal
     have HBA := Lib.hid (below_up HBv.out (below_up hB9 hal))
     have HZA : Hid (W2.heap.size ≤ (U.alloc (.cells #[.string f.dig, .int .i64 f.size, .int .i64 f.kind, .string f.frm] 30)).heap.size) := Lib.hid (by have := HVz.out; have := hB9.size; have := hal.size; omega)
     have HPA2 := Lib.hid hPA; have HQA := Lib.hid hQA; have HDA := Lib.hid hDA; have HOA := Lib.hid hOA
     have HNV : Hid (∀ o, ((U).alloc o).heap[(U).heap.size]? = some o) := Lib.hid (fun o => heap_alloc_new U o)
     have HGE : Hid (V.heap.size ≤ U.heap.size) := Lib.hid hB9.size
     obtain ⟨q0, q1, q2, q3, q4, q5, q6⟩ := (HPv.out.keep hB9).seven
     obtain ⟨d0, d1, d2, d3⟩ := (HDv.out.keep hB9).four
     clear hPA hQA hDA hOA hal hB9
     go_upto_region 25 with (go_at_call 82; (with_reducible refine (HINS.out _ (below_allocs HB9.out _) U.heap.size (HNV.out _) HGE.out).mono ?_); rintro e w8 ⟨g8, c8, rfl, hc8, hg8, hn8⟩; have HC8 := Lib.hid hc8; have HG8 := Lib.hid hg8; have hlt := HLT.out; have hP8 := HPA2.out.besideV HOA.out.fi hg8 (show w.heap.size < W2.heap.size by omega); obtain ⟨q0, q1, q2, q3, q4, q5, q6⟩ := hP8.seven; have qf := hP8.free; clear hc8 hg8 hn8)
     have hPy : Blk (w8.setCell ⟨w.heap.size, 3, none⟩ (.slice (some ⟨g8, 0, none⟩) FS.length c8)) w.heap.size #[.int .i64 s.least, .int .i64 s.wait, .slice b.ta s.tiers.length b.tc, .slice (some ⟨g8, 0, none⟩) FS.length c8, .slice b.ca s.copies.length b.cc, .slice b.ha s.held.length b.hc, .slice b.ba s.bin.length b.bc] 28 := hP8.set 3 (.slice (some ⟨g8, 0, none⟩) FS.length c8)
     have hQv := (HQA.out.besideV HOA.out.fi HG8.out (by omega)).setOther (a := ⟨w.heap.size, 3, none⟩) (by simp <;> omega) (.slice (some ⟨g8, 0, none⟩) FS.length c8)
     have hDv := (HDA.out.besideV HOA.out.fi HG8.out (by omega)).setOther (a := ⟨w.heap.size, 3, none⟩) (by simp <;> omega) (.slice (some ⟨g8, 0, none⟩) FS.length c8)
     have hOy := (HOA.out.filPut (FS := FS) (.inr ⟨g8, c8, rfl, HC8.out⟩) HG8.out).cellB (show w.heap.size < W2.heap.size by omega) 3 (.slice (some ⟨g8, 0, none⟩) FS.length c8)
     have hBv := (below_ownE HBA.out (HOA.out.fi.down (show w.heap.size ≤ W2.heap.size by omega)) HG8.out (by have := HZA.out; omega)).setCell (p := ⟨w.heap.size, 3, none⟩) (Nat.le_refl _) (.slice (some ⟨g8, 0, none⟩) FS.length c8)
     have hVz : W2.heap.size ≤ (w8.setCell ⟨w.heap.size, 3, none⟩ (.slice (some ⟨g8, 0, none⟩) FS.length c8)).heap.size := by have := HZA.out; have := HG8.out.size; simp; omega
     generalize w8.setCell ⟨w.heap.size, 3, none⟩ (.slice (some ⟨g8, 0, none⟩) FS.length c8) = Y at *
     clear q0 q1 q2 q3 q4 q5 q6 d0 d1 d2 d3 qf hP8
     obtain ⟨s1, b1, hs1, hP1, hO1⟩ : ∃ (s1 : Sto) (b1 : StA), s1 = { s with files := FS } ∧ Blk Y w.heap.size #[.int .i64 s1.least, .int .i64 s1.wait, .slice b1.ta s1.tiers.length b1.tc, .slice b1.fa s1.files.length b1.fc, .slice b1.ca s1.copies.length b1.cc, .slice b1.ha s1.held.length b1.hc, .slice b1.ba s1.bin.length b1.bc] 28 ∧ StOwn Y W2.heap.size s1 b1 := ⟨{ s with files := FS }, ⟨b.ta, b.tc, some ⟨g8, 0, none⟩, c8, b.ca, b.cc, b.ha, b.hc, b.ba, b.bc⟩, rfl, hPy, hOy⟩
     have HS1 : Hid (s1 = { s with files := St.wth St.fdig f s.files }) := Lib.hid (by rw [hs1, HTH.out])
     have HC1 : Hid (s1.copies = s.copies) := Lib.hid (by rw [hs1])
     have HL1 : Hid (StLen s1) := Lib.hid (by rw [hs1]; exact ⟨HLEN.out.1, HFB.out, HLEN.out.2.2⟩)
     have HZ1 : Hid (StSz s1) := Lib.hid (by rw [hs1]; exact ⟨HSZ.out.tz, HZF.out, HSZ.out.cz, HSZ.out.hz, HSZ.out.bz⟩)
     have HH1 : Hid (s1.held = s.held ∧ s1.bin = s.bin) := Lib.hid (by rw [hs1]; exact ⟨rfl, rfl⟩)
     clear hs1 hPy hOy
     have HP1 := Lib.hid hP1; have HQ1 := Lib.hid hQv; have HD1 := Lib.hid hDv; have HB1 := Lib.hid hBv; have HO1 := Lib.hid hO1; have HV1 := Lib.hid hVz
     obtain ⟨q0, q1, q2, q3, q4, q5, q6⟩ := hP1.seven
     obtain ⟨d0, d1, d2, d3⟩ := hDv.four
     clear hP1 hQv hDv hBv hO1 hVz
     obtain ⟨s2, hs2⟩ : ∃ s2 : Sto, { s1 with copies := s1.copies.take p ++ (⟨f.dig, tier, true, now⟩ : Cop) :: s1.copies.drop p } = s2 := ⟨_, rfl⟩
     have HWC := Lib.hid (fun U (hI : StIn U s1 b1) => show Calls Tryz.prog 83 #[.agg #[.int .i64 s1.least, .int .i64 s1.wait, .slice b1.ta s1.tiers.length b1.tc, .slice b1.fa s1.files.length b1.fc, .slice b1.ca s1.copies.length b1.cc, .slice b1.ha s1.held.length b1.hc, .slice b1.ba s1.bin.length b1.bc], .agg #[.string f.dig, .string tier, .bool true, .int .i64 now]] U (OwnPut U s2) from by
      rw [← hs2]
      exact withCopyR_is s1 b1 ⟨f.dig, tier, true, now⟩ p U hI HL1.out (by unfold St.copyAt; rw [HC1.out]; exact HK0.out) (by rw [HC1.out]; exact HPL.out) (by rw [HC1.out]; exact HPB.out) (by rw [HC1.out]; exact HPA.out))
     unfold OwnPut at HWC
     have HS2 : Hid (s2 = { s1 with copies := St.wth St.ckey ⟨f.dig, tier, true, St.askedOf s f.dig tier now⟩ s.copies }) := Lib.hid (by rw [← hs2, HC1.out, HCW.out])
     have HH2 : Hid (s2.held = s.held ∧ s2.bin = s.bin) := Lib.hid (by rw [← hs2]; exact HH1.out)
     have HI1 := Lib.hid (HO1.out.in_ HZ1.out)
     clear hs2
     go_upto_region 27 with (first
      | (go_at_call 83; (with_reducible refine (HWC.out _ HI1.out).mono ?_); rintro e w9 ⟨b2, rfl, hO9, hB9⟩)
      | (refine wpList_store_row rfl 28 _ _ rfl w.heap.size #[.int .i64 s2.least, .int .i64 s2.wait, .slice b2.ta s2.tiers.length b2.tc, .slice b2.fa s2.files.length b2.fc, .slice b2.ca s2.copies.length b2.cc, .slice b2.ha s2.held.length b2.hc, .slice b2.ba s2.bin.length b2.bc] rfl rfl 28 _ (HP1.out.keep hB9) infoSto rfl (by simp [Value.oneCell']) ?_))
     have hP2 := Blk.setRowAt (HP1.out.keep hB9) #[.int .i64 s2.least, .int .i64 s2.wait, .slice b2.ta s2.tiers.length b2.tc, .slice b2.fa s2.files.length b2.fc, .slice b2.ca s2.copies.length b2.cc, .slice b2.ha s2.held.length b2.hc, .slice b2.ba s2.bin.length b2.bc]
     have hQ2 := (HQ1.out.keep hB9).setRowOther (b' := w.heap.size) (by omega) #[.int .i64 s2.least, .int .i64 s2.wait, .slice b2.ta s2.tiers.length b2.tc, .slice b2.fa s2.files.length b2.fc, .slice b2.ca s2.copies.length b2.cc, .slice b2.ha s2.held.length b2.hc, .slice b2.ba s2.bin.length b2.bc]
     have hD2 := (HD1.out.keep hB9).setRowOther (b' := w.heap.size) (by omega) #[.int .i64 s2.least, .int .i64 s2.wait, .slice b2.ta s2.tiers.length b2.tc, .slice b2.fa s2.files.length b2.fc, .slice b2.ca s2.copies.length b2.cc, .slice b2.ha s2.held.length b2.hc, .slice b2.ba s2.bin.length b2.bc]
     have hB2 := below_setRow (below_up HB1.out hB9) (Nat.le_refl w.heap.size) #[.int .i64 s2.least, .int .i64 s2.wait, .slice b2.ta s2.tiers.length b2.tc, .slice b2.fa s2.files.length b2.fc, .slice b2.ca s2.copies.length b2.cc, .slice b2.ha s2.held.length b2.hc, .slice b2.ba s2.bin.length b2.bc]
     have hO2 := (hO9.down HV1.out).setRow (b := w.heap.size) (by have := HLT.out; omega) #[.int .i64 s2.least, .int .i64 s2.wait, .slice b2.ta s2.tiers.length b2.tc, .slice b2.fa s2.files.length b2.fc, .slice b2.ca s2.copies.length b2.cc, .slice b2.ha s2.held.length b2.hc, .slice b2.ba s2.bin.length b2.bc]
     have hz2 : W2.heap.size ≤ (w9.setRow w.heap.size #[.int .i64 s2.least, .int .i64 s2.wait, .slice b2.ta s2.tiers.length b2.tc, .slice b2.fa s2.files.length b2.fc, .slice b2.ca s2.copies.length b2.cc, .slice b2.ha s2.held.length b2.hc, .slice b2.ba s2.bin.length b2.bc]).heap.size := by have := hB9.size; have := HV1.out; simp; omega
     obtain ⟨V2, hV2⟩ : ∃ V2, w9.setRow w.heap.size #[.int .i64 s2.least, .int .i64 s2.wait, .slice b2.ta s2.tiers.length b2.tc, .slice b2.fa s2.files.length b2.fc, .slice b2.ca s2.copies.length b2.cc, .slice b2.ha s2.held.length b2.hc, .slice b2.ba s2.bin.length b2.bc] = V2 := ⟨_, rfl⟩
     rw [hV2] at hP2 hQ2 hD2 hB2 hO2 hz2 ⊢
     clear hV2 q0 q1 q2 q3 q4 q5 q6 d0 d1 d2 d3 hO9 hB9
     have HP2 := Lib.hid hP2; have HQ2 := Lib.hid hQ2; have HD2 := Lib.hid hD2; have HB2 := Lib.hid hB2; have HO2 := Lib.hid hO2; have HV2 := Lib.hid hz2
     obtain ⟨q0, q1, q2, q3, q4, q5, q6⟩ := hP2.seven
     obtain ⟨d0, d1, d2, d3⟩ := hD2.four
     clear hP2 hQ2 hD2 hB2 hO2 hz2
     obtain ⟨s3, b3, hs3, HP3, HO3⟩ : ∃ (s3 : Sto) (b3 : StA), s3 = s2 ∧ Hid (Blk _ w.heap.size #[.int .i64 s3.least, .int .i64 s3.wait, .slice b3.ta s3.tiers.length b3.tc, .slice b3.fa s3.files.length b3.fc, .slice b3.ca s3.copies.length b3.cc, .slice b3.ha s3.held.length b3.hc, .slice b3.ba s3.bin.length b3.bc] 28) ∧ Hid (StOwn _ W2.heap.size s3 b3) := ⟨s2, b2, rfl, HP2, HO2⟩
     have HS3 : Hid (s3 = if f.kind = 1 then St.hold s2 f.dig else s2) := Lib.hid (by rw [if_neg (by simpa using hke), hs3])
     have HQ3 := HQ2; have HB3 := HB2
     clear hs3
     go_upto_region 29 with fail
     clear q0 q1 q2 q3 q4 q5 q6 d0 d1 d2 d3
     have HRE : Hid (t = s3) := Lib.hid (by rw [← HT.out]; exact St.imp_split s s1 s2 s3 f tier now HS1.out HS2.out HS3.out)
     have hlt := HLT.out
     have HIZ := Lib.hid ((HO3.out.setRow (b := w.heap.size + 2) (by omega) #[.int .i64 s3.least, .int .i64 s3.wait, .slice b3.ta s3.tiers.length b3.tc, .slice b3.fa s3.files.length b3.fc, .slice b3.ca s3.copies.length b3.cc, .slice b3.ha s3.held.length b3.hc, .slice b3.ba s3.bin.length b3.bc]).in_ (HRE.out ▸ HZT.out))
     have HBZ := Lib.hid (below_setRow HB3.out (show w.heap.size ≤ w.heap.size + 2 by omega) #[.int .i64 s3.least, .int .i64 s3.wait, .slice b3.ta s3.tiers.length b3.tc, .slice b3.fa s3.files.length b3.fc, .slice b3.ca s3.copies.length b3.cc, .slice b3.ha s3.held.length b3.hc, .slice b3.ba s3.bin.length b3.bc])
     have hQ3 := HQ3.out
     obtain ⟨y0, y1, y2, y3, y4, y5, y6⟩ := HP3.out.seven
     go_wp2_with (refine wpList_store_row rfl 28 _ _ rfl (w.heap.size + 2) #[.int .i64 s3.least, .int .i64 s3.wait, .slice b3.ta s3.tiers.length b3.tc, .slice b3.fa s3.files.length b3.fc, .slice b3.ca s3.copies.length b3.cc, .slice b3.ha s3.held.length b3.hc, .slice b3.ba s3.bin.length b3.bc] rfl rfl 28 _ hQ3 infoSto rfl (by simp [Value.oneCell']) ?_)
     obtain ⟨g0, g1, g2, g3, g4, g5, g6⟩ := (Blk.setRowAt hQ3 #[.int .i64 s3.least, .int .i64 s3.wait, .slice b3.ta s3.tiers.length b3.tc, .slice b3.fa s3.files.length b3.fc, .slice b3.ca s3.copies.length b3.cc, .slice b3.ha s3.held.length b3.hc, .slice b3.ba s3.bin.length b3.bc]).seven
     refine bodyPost_ret (v := .tuple #[.agg #[.int .i64 s3.least, .int .i64 s3.wait, .slice b3.ta s3.tiers.length b3.tc, .slice b3.fa s3.files.length b3.fc, .slice b3.ca s3.copies.length b3.cc, .slice b3.ha s3.held.length b3.hc, .slice b3.ba s3.bin.length b3.bc], .int .i64 0]) (by simp [results, Tryz.results16, go_sem, g0, g1, g2, g3, g4, g5, g6]) rfl ?_
     rw [HRE.out]
     exact ⟨_, rfl, HIZ.out, HBZ.out⟩
end Go.Proofs.YthdiccdnggloiaaGreatDoor
