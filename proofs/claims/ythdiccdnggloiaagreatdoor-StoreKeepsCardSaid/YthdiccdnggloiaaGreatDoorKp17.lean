/- Parts of the proof, no condition: StIpU, StIpV, StKpE, StKpF, StKpG, StHasPC. -/
import Derived.Test.YthdiccdnggloiaaGreatDoorKp16
import Derived.Test.YthdiccdnggloiaaGreatDoorKp5
import Derived.Test.YthdiccdnggloiaaGreatDoorKp9
set_option maxRecDepth 100000
set_option maxHeartbeats 16000000
set_option linter.unusedSimpArgs false
set_option linter.unusedVariables false
namespace Go.Proofs.YthdiccdnggloiaaGreatDoor
open Go.RowKit Go.Sort Go.Shelf Go.Maps
namespace St
theorem room_get {L : List Tir} {k : Nat} {x : Tir} {n : ByteArray} (h : L[k]? = some x) (hk : tierAt L n = (k : Int)) : roomOf L n = x.room := by
 unfold roomOf
 have hf := find_idx (p := fun t : Tir => eq t.name n) (L := L) (i := 0)
 cases hq : L.find? (fun t => eq t.name n) with
 | none =>
   have h1 : tierAt L n = -1 := hf.2 hq
   omega
 | some y =>
   obtain ⟨j, h1, h2⟩ := hf.1 y hq
   have h3 : tierAt L n = ((0 + j : Nat) : Int) := h1
   have h4 : j = k := by omega
   rw [h4, h] at h2
   rw [Option.some.inj h2]
theorem same_file (o f : Fil) : (eq o.dig f.dig && o.size == f.size && o.kind == f.kind && eq o.frm f.frm) = true ↔ o = f := by
 obtain ⟨a, b, c, d⟩ := o
 obtain ⟨a', b', c', d'⟩ := f
 simp only [Bool.and_eq_true, beq_iff_eq, Fil.mk.injEq, eq_iff]
 constructor
 ·rintro ⟨⟨⟨h1, h2⟩, h3⟩, h4⟩; exact ⟨h1, h2, h3, h4⟩
 ·rintro ⟨h1, h2, h3, h4⟩; exact ⟨⟨⟨h1, h2⟩, h3⟩, h4⟩
theorem copy_none (s : Sto) (d t : ByteArray) : hasCopy s d t = false ↔ copyAt s d t < 0 := by
 have h := idx_any (p := isCop d t) s.copies
 have h2 : hasCopy s d t = s.copies.any (isCop d t) := rfl
 rw [h2, ← h, decide_eq_false_iff_not]
 unfold copyAt
 omega
open Classical in
theorem impE_eq (s : Sto) (f : Fil) (tier : ByteArray) (now : Int) : impE s f tier now =
  if faultE f = 0 then
   (if f.kind ≠ 1 ∧ kindOf s.files f.frm ≠ 1 then 7 else
    if (fileOf s.files f.dig).isSome = true ∧ filD s.files f.dig ≠ f then 1 else
    if hasTier s.tiers tier = true then
     (if isMom now = true then
      (if hasCopy s f.dig tier = false ∧ freeIn s tier < f.size then 12 else
       if (fileOf s.files f.dig).isSome = false ∧ 500 ≤ s.files.length then 4 else 0) else 2) else 7)
  else faultE f := by
 have hfe : fileE [] f = faultE f := rfl
 unfold impE
 rw [hfe]
 cases ho : fileOf s.files f.dig with
 | none => rfl
 | some o =>
   have h9 : filD s.files f.dig = o := by unfold filD; rw [ho]; rfl
   rw [h9]
   by_cases he : o = f
   ·have h8 := (same_file o f).2 he
    have h7 : ¬ (!(eq o.dig f.dig && o.size == f.size && o.kind == f.kind && eq o.frm f.frm)) = true := by rw [h8]; decide
    have h6 : ¬ ((some o).isSome = true ∧ o ≠ f) := fun h => h.2 he
    rw [if_neg h6]
    by_cases g0 : faultE f = 0
    ·rw [if_pos g0, if_pos g0]
     by_cases g1 : f.kind ≠ 1 ∧ kindOf s.files f.frm ≠ 1
     ·rw [if_pos g1, if_pos g1]
     ·rw [if_neg g1, if_neg g1]
      exact if_neg h7
    ·rw [if_neg g0, if_neg g0]
   ·have h8 : (eq o.dig f.dig && o.size == f.size && o.kind == f.kind && eq o.frm f.frm) = false := by
     cases h : (eq o.dig f.dig && o.size == f.size && o.kind == f.kind && eq o.frm f.frm) with
     | false => rfl
     | true => exact absurd ((same_file o f).1 h) he
    have h7 : (!(eq o.dig f.dig && o.size == f.size && o.kind == f.kind && eq o.frm f.frm)) = true := by rw [h8]; rfl
    have h6 : ((some o).isSome = true ∧ o ≠ f) := ⟨rfl, he⟩
    rw [if_pos h6]
    by_cases g0 : faultE f = 0
    ·rw [if_pos g0, if_pos g0]
     by_cases g1 : f.kind ≠ 1 ∧ kindOf s.files f.frm ≠ 1
     ·rw [if_pos g1, if_pos g1]
     ·rw [if_neg g1, if_neg g1]
      exact if_pos h7
    ·rw [if_neg g0, if_neg g0]
end St
theorem importedR_err (s : Sto) (a : StA) (f : Fil) (hfz : f.dig.size ≤ 9223372036854775807) (tier : ByteArray) (now : Int) (w : World) (hI : StIn w s a) (r : St.Right s) (q : Int) (hq : St.impE s f tier now = q) (hq0 : q ≠ 0) : Calls Tryz.prog 16 #[.agg #[.int .i64 s.least, .int .i64 s.wait, .slice a.ta s.tiers.length a.tc, .slice a.fa s.files.length a.fc, .slice a.ca s.copies.length a.cc, .slice a.ha s.held.length a.hc, .slice a.ba s.bin.length a.bc], .agg #[.string f.dig, .int .i64 f.size, .int .i64 f.kind, .string f.frm], .string tier, .int .i64 now] w (StoErr w q) := by
 rw [St.impE_eq] at hq
 by_cases h0 : St.faultE f = 0
 ·rw [if_pos h0] at hq
  by_cases h1 : f.kind ≠ 1 ∧ St.kindOf s.files f.frm ≠ 1
  ·rw [if_pos h1] at hq
   subst hq
   exact importedR_orig s a f hfz tier now w hI h0 h1.1 h1.2
  ·rw [if_neg h1] at hq
   have hko : f.kind = 1 ∨ St.kindOf s.files f.frm = 1 := by
    by_cases h2 : f.kind = 1
    ·exact .inl h2
    ·by_cases h3 : St.kindOf s.files f.frm = 1
     ·exact .inr h3
     ·exact absurd ⟨h2, h3⟩ h1
   by_cases hb : (St.fileOf s.files f.dig).isSome = true ∧ St.filD s.files f.dig ≠ f
   ·rw [if_pos hb] at hq
    subst hq
    exact importedR_form s a f hfz tier now w hI h0 hko hb
   ·rw [if_neg hb] at hq
    have hyo : (St.fileOf s.files f.dig).isSome = false ∨ St.filD s.files f.dig = f := by
     cases ho : (St.fileOf s.files f.dig).isSome with
     | false => exact .inl rfl
     | true =>
       by_cases he : St.filD s.files f.dig = f
       ·exact .inr he
       ·exact absurd ⟨ho, he⟩ hb
    cases ht : St.hasTier s.tiers tier with
    | false =>
      rw [ht, if_neg (by decide)] at hq
      subst hq
      have hh := St.hasTier_idx s.tiers tier
      rw [ht] at hh
      exact importedR_tier s a f hfz tier now w hI h0 hko hyo (by have := of_decide_eq_false hh.symm; omega)
    | true =>
      rw [ht, if_pos rfl] at hq
      have hh := St.hasTier_idx s.tiers tier
      rw [ht] at hh
      have ht0 : 0 ≤ St.tierAt s.tiers tier := of_decide_eq_true hh.symm
      obtain ⟨k, x, hk, hka, hx⟩ := St.tier_get ht0
      cases hm : St.isMom now with
      | false =>
        rw [hm, if_neg (by decide)] at hq
        subst hq
        exact importedR_range s a f hfz tier now w hI h0 hko hyo ht0 hm
      | true =>
        rw [hm, if_pos rfl] at hq
        have hfree : St.freeIn s tier = x.room - St.used s.files tier s.copies := by unfold St.freeIn; rw [St.room_get hk hka]
        rw [hfree] at hq
        by_cases hc : St.hasCopy s f.dig tier = false ∧ x.room - St.used s.files tier s.copies < f.size
        ·rw [if_pos hc] at hq
         subst hq
         exact importedR_full s a f hfz tier now w hI h0 hko hyo r x hx k hk hka hm ((St.copy_none _ _ _).1 hc.1) hc.2
        ·rw [if_neg hc] at hq
         by_cases hl : (St.fileOf s.files f.dig).isSome = false ∧ 500 ≤ s.files.length
         ·rw [if_pos hl] at hq
          subst hq
          have hcn : St.hasCopy s f.dig tier = false := by
           cases hcc : St.hasCopy s f.dig tier with
           | false => rfl
           | true =>
             unfold St.hasCopy at hcc
             obtain ⟨c, hcm, hcd⟩ := List.any_eq_true.1 hcc
             have h5 := (r.cop c hcm).1
             rw [Bool.and_eq_true] at hcd
             rw [St.eq_iff.1 hcd.1, hl.1] at h5; cases h5
          have hfr : f.size ≤ x.room - St.used s.files tier s.copies := by
           rcases Int.lt_or_le (x.room - St.used s.files tier s.copies) f.size with h | h
           ·exact absurd ⟨hcn, h⟩ hc
           ·exact h
          exact importedR_large s a f hfz tier now w hI h0 hko hl.1 r x hx k hk hka hm ((St.copy_none _ _ _).1 hcn) hfr hl.2
         ·rw [if_neg hl] at hq
          exact absurd hq.symm hq0
 ·rw [if_neg h0] at hq
  subst hq
  exact importedR_fault s a f hfz tier now w hI h0
theorem importS_wrong (s : Sto) (a : StA) (f : Fil) (tier : ByteArray) (now : Int) (w : World) (hI : StIn w s a) (he : St.err s ≠ 0) : Calls Tryz.prog 10 #[.agg #[.int .i64 s.least, .int .i64 s.wait, .slice a.ta s.tiers.length a.tc, .slice a.fa s.files.length a.fc, .slice a.ca s.copies.length a.cc, .slice a.ha s.held.length a.hc, .slice a.ba s.bin.length a.bc], .agg #[.string f.dig, .int .i64 f.size, .int .i64 f.kind, .string f.frm], .string tier, .int .i64 now] w (StoErr w (St.err s)) := by
 obtain ⟨W0, hW0, hP, hz0, hB0⟩ := box w #[.int .i64 s.least, .int .i64 s.wait, .slice a.ta s.tiers.length a.tc, .slice a.fa s.files.length a.fc, .slice a.ca s.copies.length a.cc, .slice a.ha s.held.length a.hc, .slice a.ba s.bin.length a.bc] 28
 obtain ⟨W1, hW1, hD, hz1, hB1⟩ := box W0 #[.string f.dig, .int .i64 f.size, .int .i64 f.kind, .string f.frm] 30
 obtain ⟨W2, hW2, hQ, hz2, hB2⟩ := box W1 #[.int .i64 0, .int .i64 0, .slice none 0 0, .slice none 0 0, .slice none 0 0, .slice none 0 0, .slice none 0 0] 28
 rw [hz0] at hD hz1
 rw [hz1] at hQ hz2
 have hP := (hP.keep hB1).keep hB2
 have hD := hD.keep hB2
 have hBB := below_up hB0 (below_up hB1 hB2)
 have HW0 := Lib.hid hW0; have HW1 := Lib.hid hW1; have HW2 := Lib.hid hW2; have HP := Lib.hid hP; have HD := Lib.hid hD; have HQ := Lib.hid hQ; have HBB := Lib.hid hBB; have HZ2 : Hid (W2.heap.size = w.heap.size + 3) := Lib.hid (by omega)
 have HI2 := Lib.hid (hI.keep hBB)
 obtain ⟨q0, q1, q2, q3, q4, q5, q6⟩ := hP.seven
 obtain ⟨d0, d1, d2, d3⟩ := hD.four
 have HCK := Lib.hid (fun V (hv : Below W2.heap.size W2 V) => check_is s a V (HI2.out.keep hv))
 clear hI hW0 hW1 hW2 hP hD hQ hz0 hz1 hz2 hB0 hB1 hB2 hBB
 have hv : Below W2.heap.size W2 W2 := Below.refl _ _
 have hq1 : (St.err s != 0) = true := by simpa using he
 generalize St.err s = q at *
 clear he
 go_enter Tryz.func10, Tryz.ntmps10
 go_upto_region 1 with fail
 rw [HW0.out, HW1.out, HW2.out]
 go_upto_region 3 with (go_at_call 32; (with_reducible refine (HCK.out _ hv).mono ?_); rintro e w6 ⟨rfl, hq⟩; have hv := below_up hv hq; obtain ⟨q0, q1, q2, q3, q4, q5, q6⟩ := (HP.out.keep hv).seven; obtain ⟨d0, d1, d2, d3⟩ := (HD.out.keep hv).four)
 have hQ3 := HQ.out.keep hv
 have hB03 := below_up HBB.out hv
 have hs2 := HZ2.out
 clear q0 q1 q2 q3 q4 q5 q6 d0 d1 d2 d3 hv
 go_wp2_with (refine wpList_store_row rfl 28 _ _ rfl (w.heap.size + 2) #[.int .i64 0, .int .i64 0, .slice none 0 0, .slice none 0 0, .slice none 0 0, .slice none 0 0, .slice none 0 0] rfl rfl 28 _ hQ3 infoSto rfl (by simp [Value.oneCell']) ?_)
 obtain ⟨g0, g1, g2, g3, g4, g5, g6⟩ := (Blk.setRowAt (hQ3) #[.int .i64 0, .int .i64 0, .slice none 0 0, .slice none 0 0, .slice none 0 0, .slice none 0 0, .slice none 0 0]).seven
 refine bodyPost_ret (v := .tuple #[.agg #[.int .i64 0, .int .i64 0, .slice none 0 0, .slice none 0 0, .slice none 0 0, .slice none 0 0, .slice none 0 0], .int .i64 (q)]) (by simp [results, Tryz.results10, go_sem, g0, g1, g2, g3, g4, g5, g6]) rfl ⟨rfl, below_setRow hB03 (by omega) _⟩
theorem importS_err (s : Sto) (a : StA) (f : Fil) (tier : ByteArray) (now : Int) (w : World) (hI : StIn w s a) (he : St.err s = 0) (q : Int) (hq0 : q ≠ 0) (hC : ∀ V, StIn V s a → Calls Tryz.prog 50 #[.agg #[.int .i64 s.least, .int .i64 s.wait, .slice a.ta s.tiers.length a.tc, .slice a.fa s.files.length a.fc, .slice a.ca s.copies.length a.cc, .slice a.ha s.held.length a.hc, .slice a.ba s.bin.length a.bc], .agg #[.string f.dig, .int .i64 f.size, .int .i64 f.kind, .string f.frm], .string tier, .int .i64 now] V fun e w' => e = .returned (.int .i64 q) ∧ Below V.heap.size V w') : Calls Tryz.prog 10 #[.agg #[.int .i64 s.least, .int .i64 s.wait, .slice a.ta s.tiers.length a.tc, .slice a.fa s.files.length a.fc, .slice a.ca s.copies.length a.cc, .slice a.ha s.held.length a.hc, .slice a.ba s.bin.length a.bc], .agg #[.string f.dig, .int .i64 f.size, .int .i64 f.kind, .string f.frm], .string tier, .int .i64 now] w (StoErr w q) := by
 obtain ⟨W0, hW0, hP, hz0, hB0⟩ := box w #[.int .i64 s.least, .int .i64 s.wait, .slice a.ta s.tiers.length a.tc, .slice a.fa s.files.length a.fc, .slice a.ca s.copies.length a.cc, .slice a.ha s.held.length a.hc, .slice a.ba s.bin.length a.bc] 28
 obtain ⟨W1, hW1, hD, hz1, hB1⟩ := box W0 #[.string f.dig, .int .i64 f.size, .int .i64 f.kind, .string f.frm] 30
 obtain ⟨W2, hW2, hQ, hz2, hB2⟩ := box W1 #[.int .i64 0, .int .i64 0, .slice none 0 0, .slice none 0 0, .slice none 0 0, .slice none 0 0, .slice none 0 0] 28
 rw [hz0] at hD hz1
 rw [hz1] at hQ hz2
 have hP := (hP.keep hB1).keep hB2
 have hD := hD.keep hB2
 have hBB := below_up hB0 (below_up hB1 hB2)
 have HW0 := Lib.hid hW0; have HW1 := Lib.hid hW1; have HW2 := Lib.hid hW2; have HP := Lib.hid hP; have HD := Lib.hid hD; have HQ := Lib.hid hQ; have HBB := Lib.hid hBB; have HZ2 : Hid (W2.heap.size = w.heap.size + 3) := Lib.hid (by omega)
 have HI2 := Lib.hid (hI.keep hBB)
 obtain ⟨q0, q1, q2, q3, q4, q5, q6⟩ := hP.seven
 obtain ⟨d0, d1, d2, d3⟩ := hD.four
 have HCK := Lib.hid (fun V (hv : Below W2.heap.size W2 V) => check_is s a V (HI2.out.keep hv))
 clear hI hW0 hW1 hW2 hP hD hQ hz0 hz1 hz2 hB0 hB1 hB2 hBB
 have hv : Below W2.heap.size W2 W2 := Below.refl _ _
 rw [he] at HCK
 have HCI := Lib.hid (fun V (hv : Below W2.heap.size W2 V) => hC V (HI2.out.keep hv))
 have hq1 : (q != 0) = true := by simpa using hq0
 clear he hq0 hC
 go_enter Tryz.func10, Tryz.ntmps10
 go_upto_region 1 with fail
 rw [HW0.out, HW1.out, HW2.out]
 go_upto_region 6 with (first
  | (go_at_call 32; (with_reducible refine (HCK.out _ hv).mono ?_); rintro e w6 ⟨rfl, hq⟩; have hv := below_up hv hq; obtain ⟨q0, q1, q2, q3, q4, q5, q6⟩ := (HP.out.keep hv).seven; obtain ⟨d0, d1, d2, d3⟩ := (HD.out.keep hv).four)
  | (go_at_call 50; (with_reducible refine (HCI.out _ hv).mono ?_); rintro e w7 ⟨rfl, hq⟩; have hv := below_up hv hq; obtain ⟨q0, q1, q2, q3, q4, q5, q6⟩ := (HP.out.keep hv).seven; obtain ⟨d0, d1, d2, d3⟩ := (HD.out.keep hv).four))
 have hQ3 := HQ.out.keep hv
 have hB03 := below_up HBB.out hv
 have hs2 := HZ2.out
 clear q0 q1 q2 q3 q4 q5 q6 d0 d1 d2 d3 hv
 go_wp2_with (refine wpList_store_row rfl 28 _ _ rfl (w.heap.size + 2) #[.int .i64 0, .int .i64 0, .slice none 0 0, .slice none 0 0, .slice none 0 0, .slice none 0 0, .slice none 0 0] rfl rfl 28 _ hQ3 infoSto rfl (by simp [Value.oneCell']) ?_)
 obtain ⟨g0, g1, g2, g3, g4, g5, g6⟩ := (Blk.setRowAt (hQ3) #[.int .i64 0, .int .i64 0, .slice none 0 0, .slice none 0 0, .slice none 0 0, .slice none 0 0, .slice none 0 0]).seven
 refine bodyPost_ret (v := .tuple #[.agg #[.int .i64 0, .int .i64 0, .slice none 0 0, .slice none 0 0, .slice none 0 0, .slice none 0 0, .slice none 0 0], .int .i64 (q)]) (by simp [results, Tryz.results10, go_sem, g0, g1, g2, g3, g4, g5, g6]) rfl ⟨rfl, below_setRow hB03 (by omega) _⟩
theorem storeKeeps_err (s : Sto) (a : StA) (f : Fil) (tier d : ByteArray) (now day : Int) (w : World) (hI : StIn w s a) (he : St.err s ≠ 0) :
  Calls Tryz.prog 3 #[.agg #[.int .i64 s.least, .int .i64 s.wait, .slice a.ta s.tiers.length a.tc, .slice a.fa s.files.length a.fc, .slice a.ca s.copies.length a.cc, .slice a.ha s.held.length a.hc, .slice a.ba s.bin.length a.bc], .agg #[.string f.dig, .int .i64 f.size, .int .i64 f.kind, .string f.frm], .string tier, .string d, .int .i64 now, .int .i64 day] w fun e w' => e = .returned (.bool true) ∧ Below w.heap.size w w' := by
 obtain ⟨W0, hW0, hP, hz0, hB0⟩ := box w #[.int .i64 s.least, .int .i64 s.wait, .slice a.ta s.tiers.length a.tc, .slice a.fa s.files.length a.fc, .slice a.ca s.copies.length a.cc, .slice a.ha s.held.length a.hc, .slice a.ba s.bin.length a.bc] 28
 obtain ⟨W1, hW1, hD, hz1, hB1⟩ := box W0 #[.string f.dig, .int .i64 f.size, .int .i64 f.kind, .string f.frm] 30
 rw [hz0] at hD hz1
 have hP := hP.keep hB1
 have hBB := below_up hB0 hB1
 have HW0 := Lib.hid hW0; have HW1 := Lib.hid hW1; have HP := Lib.hid hP; have HD := Lib.hid hD; have HBB := Lib.hid hBB
 have HI1 := Lib.hid (hI.keep hBB)
 obtain ⟨q0, q1, q2, q3, q4, q5, q6⟩ := hP.seven
 obtain ⟨d0, d1, d2, d3⟩ := hD.four
 have HSE := Lib.hid (fun V (hv : Below W1.heap.size W1 V) => storeError_is s a V (HI1.out.keep hv))
 clear hI hW0 hW1 hP hD hz0 hz1 hB0 hB1 hBB
 have hv : Below W1.heap.size W1 W1 := Below.refl _ _
 have HIM := Lib.hid (fun V (hv : Below W1.heap.size W1 V) => importS_wrong s a f tier now V (HI1.out.keep hv) he)
 have HHO := Lib.hid (fun V (hv : Below W1.heap.size W1 V) => holdS_err s a d V (HI1.out.keep hv) he)
 have HRL := Lib.hid (fun V (hv : Below W1.heap.size W1 V) => releaseS_err s a d day V (HI1.out.keep hv) he)
 have HEM := Lib.hid (fun V (hv : Below W1.heap.size W1 V) => emptyS_err s a day V (HI1.out.keep hv) he)
 unfold StoErr at HIM HHO HRL
 unfold EmpErr at HEM
 have HBC := Lib.hid (fun V => (show Calls Tryz.prog 15 #[.agg #[.int .i64 0, .int .i64 0, .slice none 0 0, .slice none 0 0, .slice none 0 0, .slice none 0 0, .slice none 0 0], .int .i64 (St.err s), .agg #[.int .i64 0, .int .i64 0, .slice none 0 0, .slice none 0 0, .slice none 0 0, .slice none 0 0, .slice none 0 0], .int .i64 (St.err s)] V (fun e w' => e = .returned (.bool true) ∧ Below V.heap.size V w') from became_err Sto.zero ⟨none, 0, none, 0, none, 0, none, 0, none, 0⟩ (St.err s) he V))
 generalize St.err s = q at *
 have hq1 : (q != 0) = true := by simpa using he
 clear he
 go_enter Tryz.func3, Tryz.ntmps3
 go_upto_region 1 with fail
 rw [HW0.out, HW1.out]
 go_upto_region 2 with (first
  | (go_at_call 10; (with_reducible refine (HIM.out _ hv).mono ?_); rintro e w2 ⟨rfl, hq⟩; have hv := below_up hv hq; obtain ⟨q0, q1, q2, q3, q4, q5, q6⟩ := (HP.out.keep hv).seven; obtain ⟨d0, d1, d2, d3⟩ := (HD.out.keep hv).four)
  | (refine wpList_store_row rfl 28 _ _ rfl w2.heap.size #[.int .i64 0, .int .i64 0, .slice none 0 0, .slice none 0 0, .slice none 0 0, .slice none 0 0, .slice none 0 0] rfl rfl 28 #[.int .i64 0, .int .i64 0, .slice none 0 0, .slice none 0 0, .slice none 0 0, .slice none 0 0, .slice none 0 0] (heap_alloc_new w2 _) infoSto rfl (by simp [Value.oneCell']) ?_))
 obtain ⟨X2, hX, hX2, hXz, hY2⟩ := fillNew w2 #[.int .i64 0, .int .i64 0, .slice none 0 0, .slice none 0 0, .slice none 0 0, .slice none 0 0, .slice none 0 0] #[.int .i64 0, .int .i64 0, .slice none 0 0, .slice none 0 0, .slice none 0 0, .slice none 0 0, .slice none 0 0] 28
 rw [hX]
 have hv := below_up hv hY2
 clear q0 q1 q2 q3 q4 q5 q6 d0 d1 d2 d3 hX hXz
 obtain ⟨q0, q1, q2, q3, q4, q5, q6⟩ := (HP.out.keep hv).seven; obtain ⟨d0, d1, d2, d3⟩ := (HD.out.keep hv).four
 go_upto_region 3 with (first
  | (go_at_call 11; (with_reducible refine (HHO.out _ hv).mono ?_); rintro e w3 ⟨rfl, hq⟩; have hX2 := hX2.keep hq; have hv := below_up hv hq; obtain ⟨q0, q1, q2, q3, q4, q5, q6⟩ := (HP.out.keep hv).seven; obtain ⟨d0, d1, d2, d3⟩ := (HD.out.keep hv).four)
  | (refine wpList_store_row rfl 28 _ _ rfl w3.heap.size #[.int .i64 0, .int .i64 0, .slice none 0 0, .slice none 0 0, .slice none 0 0, .slice none 0 0, .slice none 0 0] rfl rfl 28 #[.int .i64 0, .int .i64 0, .slice none 0 0, .slice none 0 0, .slice none 0 0, .slice none 0 0, .slice none 0 0] (heap_alloc_new w3 _) infoSto rfl (by simp [Value.oneCell']) ?_))
 obtain ⟨X3, hX, hX3, hXz, hY3⟩ := fillNew w3 #[.int .i64 0, .int .i64 0, .slice none 0 0, .slice none 0 0, .slice none 0 0, .slice none 0 0, .slice none 0 0] #[.int .i64 0, .int .i64 0, .slice none 0 0, .slice none 0 0, .slice none 0 0, .slice none 0 0, .slice none 0 0] 28
 rw [hX]
 have hv := below_up hv hY3
 clear q0 q1 q2 q3 q4 q5 q6 d0 d1 d2 d3 hX hXz
 obtain ⟨q0, q1, q2, q3, q4, q5, q6⟩ := (HP.out.keep hv).seven; obtain ⟨d0, d1, d2, d3⟩ := (HD.out.keep hv).four
 have hX2 := hX2.keep hY3
 go_upto_region 4 with (first
  | (go_at_call 12; (with_reducible refine (HRL.out _ hv).mono ?_); rintro e w4 ⟨rfl, hq⟩; have hX2 := hX2.keep hq; have hX3 := hX3.keep hq; have hv := below_up hv hq; obtain ⟨q0, q1, q2, q3, q4, q5, q6⟩ := (HP.out.keep hv).seven; obtain ⟨d0, d1, d2, d3⟩ := (HD.out.keep hv).four)
  | (refine wpList_store_row rfl 28 _ _ rfl w4.heap.size #[.int .i64 0, .int .i64 0, .slice none 0 0, .slice none 0 0, .slice none 0 0, .slice none 0 0, .slice none 0 0] rfl rfl 28 #[.int .i64 0, .int .i64 0, .slice none 0 0, .slice none 0 0, .slice none 0 0, .slice none 0 0, .slice none 0 0] (heap_alloc_new w4 _) infoSto rfl (by simp [Value.oneCell']) ?_))
 obtain ⟨X4, hX, hX4, hXz, hY4⟩ := fillNew w4 #[.int .i64 0, .int .i64 0, .slice none 0 0, .slice none 0 0, .slice none 0 0, .slice none 0 0, .slice none 0 0] #[.int .i64 0, .int .i64 0, .slice none 0 0, .slice none 0 0, .slice none 0 0, .slice none 0 0, .slice none 0 0] 28
 rw [hX]
 have hv := below_up hv hY4
 clear q0 q1 q2 q3 q4 q5 q6 d0 d1 d2 d3 hX hXz
 obtain ⟨q0, q1, q2, q3, q4, q5, q6⟩ := (HP.out.keep hv).seven; obtain ⟨d0, d1, d2, d3⟩ := (HD.out.keep hv).four
 have hX2 := hX2.keep hY4; have hX3 := hX3.keep hY4
 go_upto_region 5 with (first
  | (go_at_call 13; (with_reducible refine (HEM.out _ hv).mono ?_); rintro e w5 ⟨rfl, hq⟩; have hX2 := hX2.keep hq; have hX3 := hX3.keep hq; have hX4 := hX4.keep hq; have hv := below_up hv hq; obtain ⟨q0, q1, q2, q3, q4, q5, q6⟩ := (HP.out.keep hv).seven; obtain ⟨d0, d1, d2, d3⟩ := (HD.out.keep hv).four)
  | (refine wpList_store_row rfl 28 _ _ rfl w5.heap.size #[.int .i64 0, .int .i64 0, .slice none 0 0, .slice none 0 0, .slice none 0 0, .slice none 0 0, .slice none 0 0] rfl rfl 28 #[.int .i64 0, .int .i64 0, .slice none 0 0, .slice none 0 0, .slice none 0 0, .slice none 0 0, .slice none 0 0] (heap_alloc_new w5 _) infoSto rfl (by simp [Value.oneCell']) ?_))
 obtain ⟨X5, hX, hX5, hXz, hY5⟩ := fillNew w5 #[.int .i64 0, .int .i64 0, .slice none 0 0, .slice none 0 0, .slice none 0 0, .slice none 0 0, .slice none 0 0] #[.int .i64 0, .int .i64 0, .slice none 0 0, .slice none 0 0, .slice none 0 0, .slice none 0 0, .slice none 0 0] 28
 rw [hX]
 have hv := below_up hv hY5
 clear q0 q1 q2 q3 q4 q5 q6 d0 d1 d2 d3 hX hXz
 obtain ⟨q0, q1, q2, q3, q4, q5, q6⟩ := (HP.out.keep hv).seven; obtain ⟨d0, d1, d2, d3⟩ := (HD.out.keep hv).four
 have hX2 := hX2.keep hY5; have hX3 := hX3.keep hY5; have hX4 := hX4.keep hY5
 go_upto_region 8 with (first
  | (go_at_call 14; (with_reducible refine (HSE.out _ hv).mono ?_); rintro e w6 ⟨rfl, hq⟩; have hX2 := hX2.keep hq; have hX3 := hX3.keep hq; have hX4 := hX4.keep hq; have hX5 := hX5.keep hq; have hv := below_up hv hq; obtain ⟨q0, q1, q2, q3, q4, q5, q6⟩ := (HP.out.keep hv).seven; obtain ⟨d0, d1, d2, d3⟩ := (HD.out.keep hv).four)
  | (refine wpList_store_row rfl 28 _ _ rfl w6.heap.size #[.int .i64 0, .int .i64 0, .slice none 0 0, .slice none 0 0, .slice none 0 0, .slice none 0 0, .slice none 0 0] rfl rfl 28 #[.int .i64 0, .int .i64 0, .slice none 0 0, .slice none 0 0, .slice none 0 0, .slice none 0 0, .slice none 0 0] (heap_alloc_new w6 _) infoSto rfl (by simp [Value.oneCell']) ?_))
 obtain ⟨X6, hX, hX6, hXz, hY6⟩ := fillNew w6 #[.int .i64 0, .int .i64 0, .slice none 0 0, .slice none 0 0, .slice none 0 0, .slice none 0 0, .slice none 0 0] #[.int .i64 0, .int .i64 0, .slice none 0 0, .slice none 0 0, .slice none 0 0, .slice none 0 0, .slice none 0 0] 28
 rw [hX]
 have hv := below_up hv hY6
 clear q0 q1 q2 q3 q4 q5 q6 d0 d1 d2 d3 hX hXz
 obtain ⟨q0, q1, q2, q3, q4, q5, q6⟩ := (HP.out.keep hv).seven; obtain ⟨d0, d1, d2, d3⟩ := (HD.out.keep hv).four
 have hX2 := hX2.keep hY6; have hX3 := hX3.keep hY6; have hX4 := hX4.keep hY6; have hX5 := hX5.keep hY6
 have HBV := Lib.hid (below_up HBB.out hv)
 have HCL : Hid (∀ V, Below X6.heap.size X6 V → (V.cell? ⟨w2.heap.size, 0, none⟩ = some (.int .i64 0) ∧ V.cell? ⟨w2.heap.size, 1, none⟩ = some (.int .i64 0) ∧ V.cell? ⟨w2.heap.size, 2, none⟩ = some (.slice none 0 0) ∧ V.cell? ⟨w2.heap.size, 3, none⟩ = some (.slice none 0 0) ∧ V.cell? ⟨w2.heap.size, 4, none⟩ = some (.slice none 0 0) ∧ V.cell? ⟨w2.heap.size, 5, none⟩ = some (.slice none 0 0) ∧ V.cell? ⟨w2.heap.size, 6, none⟩ = some (.slice none 0 0)) ∧ (V.cell? ⟨w3.heap.size, 0, none⟩ = some (.int .i64 0) ∧ V.cell? ⟨w3.heap.size, 1, none⟩ = some (.int .i64 0) ∧ V.cell? ⟨w3.heap.size, 2, none⟩ = some (.slice none 0 0) ∧ V.cell? ⟨w3.heap.size, 3, none⟩ = some (.slice none 0 0) ∧ V.cell? ⟨w3.heap.size, 4, none⟩ = some (.slice none 0 0) ∧ V.cell? ⟨w3.heap.size, 5, none⟩ = some (.slice none 0 0) ∧ V.cell? ⟨w3.heap.size, 6, none⟩ = some (.slice none 0 0)) ∧ (V.cell? ⟨w4.heap.size, 0, none⟩ = some (.int .i64 0) ∧ V.cell? ⟨w4.heap.size, 1, none⟩ = some (.int .i64 0) ∧ V.cell? ⟨w4.heap.size, 2, none⟩ = some (.slice none 0 0) ∧ V.cell? ⟨w4.heap.size, 3, none⟩ = some (.slice none 0 0) ∧ V.cell? ⟨w4.heap.size, 4, none⟩ = some (.slice none 0 0) ∧ V.cell? ⟨w4.heap.size, 5, none⟩ = some (.slice none 0 0) ∧ V.cell? ⟨w4.heap.size, 6, none⟩ = some (.slice none 0 0)) ∧ (V.cell? ⟨w5.heap.size, 0, none⟩ = some (.int .i64 0) ∧ V.cell? ⟨w5.heap.size, 1, none⟩ = some (.int .i64 0) ∧ V.cell? ⟨w5.heap.size, 2, none⟩ = some (.slice none 0 0) ∧ V.cell? ⟨w5.heap.size, 3, none⟩ = some (.slice none 0 0) ∧ V.cell? ⟨w5.heap.size, 4, none⟩ = some (.slice none 0 0) ∧ V.cell? ⟨w5.heap.size, 5, none⟩ = some (.slice none 0 0) ∧ V.cell? ⟨w5.heap.size, 6, none⟩ = some (.slice none 0 0)) ∧ (V.cell? ⟨w6.heap.size, 0, none⟩ = some (.int .i64 0) ∧ V.cell? ⟨w6.heap.size, 1, none⟩ = some (.int .i64 0) ∧ V.cell? ⟨w6.heap.size, 2, none⟩ = some (.slice none 0 0) ∧ V.cell? ⟨w6.heap.size, 3, none⟩ = some (.slice none 0 0) ∧ V.cell? ⟨w6.heap.size, 4, none⟩ = some (.slice none 0 0) ∧ V.cell? ⟨w6.heap.size, 5, none⟩ = some (.slice none 0 0) ∧ V.cell? ⟨w6.heap.size, 6, none⟩ = some (.slice none 0 0))) := Lib.hid fun V h => ⟨(hX2.keep h).seven, (hX3.keep h).seven, (hX4.keep h).seven, (hX5.keep h).seven, (hX6.keep h).seven⟩
 clear hX2 hX3 hX4 hX5 hX6 hY2 hY3 hY4 hY5 hY6 hv q0 q1 q2 q3 q4 q5 q6 d0 d1 d2 d3
 have hv : Below X6.heap.size X6 X6 := Below.refl _ _
 have hS := HCL.out _ hv
 obtain ⟨⟨a0, a1, a2, a3, a4, a5, a6⟩, ⟨b0, b1, b2, b3, b4, b5, b6⟩, ⟨c0, c1, c2, c3, c4, c5, c6⟩, ⟨e0, e1, e2, e3, e4, e5, e6⟩, ⟨f0, f1, f2, f3, f4, f5, f6⟩⟩ := id hS
 have hz0 : ((0 : Int) == 0) = true := rfl
 go_wp2_with (go_at_call 15; (with_reducible refine (HBC.out _).mono ?_); rintro e wq ⟨rfl, hq⟩; have hv := below_up hv hq; obtain ⟨⟨a0, a1, a2, a3, a4, a5, a6⟩, ⟨b0, b1, b2, b3, b4, b5, b6⟩, ⟨c0, c1, c2, c3, c4, c5, c6⟩, ⟨e0, e1, e2, e3, e4, e5, e6⟩, ⟨f0, f1, f2, f3, f4, f5, f6⟩⟩ := HCL.out _ hv)
 have HBZ := Lib.hid (below_up HBV.out hv)
 go_ret
 exact ⟨ret_bool (by simp), HBZ.out⟩
theorem checkImportS_fault (s : Sto) (a : StA) (f : Fil) (tier : ByteArray) (now : Int) (q : Int) (hq0 : q ≠ 0) (w : World) (hI : StIn w s a) (hC : ∀ V, Calls Tryz.prog 131 #[.agg #[.string f.dig, .int .i64 f.size, .int .i64 f.kind, .string f.frm], .string ⟨#[]⟩] V fun e w' => e = .returned (.int .i64 q) ∧ Below V.heap.size V w') : Calls Tryz.prog 50 #[.agg #[.int .i64 s.least, .int .i64 s.wait, .slice a.ta s.tiers.length a.tc, .slice a.fa s.files.length a.fc, .slice a.ca s.copies.length a.cc, .slice a.ha s.held.length a.hc, .slice a.ba s.bin.length a.bc], .agg #[.string f.dig, .int .i64 f.size, .int .i64 f.kind, .string f.frm], .string tier, .int .i64 now] w fun e w' => e = .returned (.int .i64 q) ∧ Below w.heap.size w w' := by
 obtain ⟨W0, hW0, hP, hz0, hB0⟩ := box w #[.int .i64 s.least, .int .i64 s.wait, .slice a.ta s.tiers.length a.tc, .slice a.fa s.files.length a.fc, .slice a.ca s.copies.length a.cc, .slice a.ha s.held.length a.hc, .slice a.ba s.bin.length a.bc] 28
 obtain ⟨W1, hW1, hD, hz1, hB1⟩ := box W0 #[.string f.dig, .int .i64 f.size, .int .i64 f.kind, .string f.frm] 30
 rw [hz0] at hD hz1
 have hP := hP.keep hB1
 have hBB := below_up hB0 hB1
 have HW0 := Lib.hid hW0; have HW1 := Lib.hid hW1; have HP := Lib.hid hP; have HD := Lib.hid hD; have HBB := Lib.hid hBB
 have HI1 := Lib.hid (hI.keep hBB)
 obtain ⟨q0, q1, q2, q3, q4, q5, q6⟩ := hP.seven
 obtain ⟨d0, d1, d2, d3⟩ := hD.four
 have HSE := Lib.hid (fun V (hv : Below W1.heap.size W1 V) => storeError_is s a V (HI1.out.keep hv))
 clear hI hW0 hW1 hP hD hz0 hz1 hB0 hB1 hBB
 have hv : Below W1.heap.size W1 W1 := Below.refl _ _
 have HCF := Lib.hid hC
 have hq1 : (q != 0) = true := by simpa using hq0
 clear hC hq0
 go_enter Tryz.func50, Tryz.ntmps50
 go_upto_region 1 with fail
 rw [HW0.out, HW1.out]
 go_upto_region 3 with (go_at_call 131; (with_reducible refine (HCF.out _).mono ?_); rintro e w6 ⟨rfl, hq⟩; have hv := below_up hv hq; obtain ⟨q0, q1, q2, q3, q4, q5, q6⟩ := (HP.out.keep hv).seven; obtain ⟨d0, d1, d2, d3⟩ := (HD.out.keep hv).four)
 have HBZ := Lib.hid (below_up HBB.out hv)
 clear q0 q1 q2 q3 q4 q5 q6 d0 d1 d2 d3 hv
 go_wp2_with fail
 go_ret
 exact ⟨rfl, HBZ.out⟩
def CkPost (w : World) (q : Int) (e : Ending) (w' : World) : Prop := e = .returned (.int .i64 q) ∧ Below w.heap.size w w'
theorem checkImportS_orig (s : Sto) (a : StA) (f : Fil) (hfz : f.dig.size ≤ 9223372036854775807) (hf100 : f.frm.size ≤ 9223372036854775807) (tier : ByteArray) (now : Int) (w : World) (hI : StIn w s a) (r : St.Right s) (hq0 : St.faultE f = 0) (h1 : f.kind ≠ 1) (h2 : St.kindOf s.files f.frm ≠ 1) : Calls Tryz.prog 50 #[.agg #[.int .i64 s.least, .int .i64 s.wait, .slice a.ta s.tiers.length a.tc, .slice a.fa s.files.length a.fc, .slice a.ca s.copies.length a.cc, .slice a.ha s.held.length a.hc, .slice a.ba s.bin.length a.bc], .agg #[.string f.dig, .int .i64 f.size, .int .i64 f.kind, .string f.frm], .string tier, .int .i64 now] w (CkPost w 7) := by
 have HFZ2 := Lib.hid hfz
 have hM0 : St.Up (·.dig) s.files := r.fup
 have HFU := Lib.hid hM0
 have hcf := fun V => checkFile_is f ⟨#[]⟩ hfz V
 rw [show St.fileC f ⟨#[]⟩ = St.faultE f from (St.fileE_bef [] f).symm] at hcf
 have HCF := Lib.hid hcf
 clear hcf
 rw [hq0] at HCF
 have hy2 := (St.sizes_iff.1 r.sizes).2.2.1
 obtain ⟨W0, hW0, hP, hz0, hB0⟩ := box w #[.int .i64 s.least, .int .i64 s.wait, .slice a.ta s.tiers.length a.tc, .slice a.fa s.files.length a.fc, .slice a.ca s.copies.length a.cc, .slice a.ha s.held.length a.hc, .slice a.ba s.bin.length a.bc] 28
 obtain ⟨W1, hW1, hD, hz1, hB1⟩ := box W0 #[.string f.dig, .int .i64 f.size, .int .i64 f.kind, .string f.frm] 30
 rw [hz0] at hD hz1
 have hP := hP.keep hB1
 have hBB := below_up hB0 hB1
 have HW0 := Lib.hid hW0; have HW1 := Lib.hid hW1; have HP := Lib.hid hP; have HD := Lib.hid hD; have HBB := Lib.hid hBB
 have HI1 := Lib.hid (hI.keep hBB)
 obtain ⟨q0, q1, q2, q3, q4, q5, q6⟩ := hP.seven
 obtain ⟨d0, d1, d2, d3⟩ := hD.four
 have HSE := Lib.hid (fun V (hv : Below W1.heap.size W1 V) => storeError_is s a V (HI1.out.keep hv))
 clear hI hW0 hW1 hP hD hz0 hz1 hB0 hB1 hBB
 have hv : Below W1.heap.size W1 W1 := Below.refl _ _
 have HBY := Lib.hid (fun V (hv : Below W1.heap.size W1 V) => byDigest_is s a V (HI1.out.keep hv) hy2)
 have HTA := Lib.hid (fun V (hv : Below W1.heap.size W1 V) => tierAt_is s a tier V (HI1.out.keep hv))
 have HMO := Lib.hid (fun V => isMomentS_is now V)
 have HLO := Lib.hid (fun (V : World) mb (hM : FMap V mb s.files) => hM.okD r.fup hfz)
 have HLZ := Lib.hid (fun (V : World) mb (hM : FMap V mb s.files) => hM.kind r.fup hf100)
 obtain ⟨yb, hyb⟩ : ∃ yb, yb = (St.fileOf s.files f.dig).isSome := ⟨_, rfl⟩
 rw [← hyb] at HLO
 obtain ⟨bk, hbk⟩ : ∃ bk, (f.kind != 1) = bk := ⟨_, rfl⟩
 obtain ⟨bz, hbz⟩ : ∃ bz, (St.kindOf s.files f.frm != 1) = bz := ⟨_, rfl⟩
 have HBZ := Lib.hid (show ∀ z, z = St.filD s.files f.frm → (z.kind != 1) = bz from fun z hz => by rw [hz, ← hbz, St.filD_kind])
 have hgd := guardFil
 clear hq0 hy2 hM0 hbz
 have hbz : (St.kindOf s.files f.frm != 1) = true := by simpa using h2
 obtain rfl : bk = true := by rw [← hbk]; simpa using h1
 obtain rfl : bz = true := by
  have h := HBZ.out _ rfl
  rw [← h, St.filD_kind]
  exact hbz
 clear h1 h2 hyb hbz r
 go_enter Tryz.func50, Tryz.ntmps50
 go_upto_region 1 with fail
 rw [HW0.out, HW1.out]
 go_upto_region 5 with (first
  | (go_at_call 131; (with_reducible refine (HCF.out _).mono ?_); rintro e w6 ⟨rfl, hq⟩; have hv := below_up hv hq; obtain ⟨q0, q1, q2, q3, q4, q5, q6⟩ := (HP.out.keep hv).seven; obtain ⟨d0, d1, d2, d3⟩ := (HD.out.keep hv).four)
  | (go_at_call 98; (with_reducible refine (HBY.out _ hv).mono ?_); rintro e w7 ⟨mb, rfl, hmb, hM, hq⟩; have hv := below_up hv hq; obtain ⟨q0, q1, q2, q3, q4, q5, q6⟩ := (HP.out.keep hv).seven; obtain ⟨d0, d1, d2, d3⟩ := (HD.out.keep hv).four))
 obtain ⟨y, hlk, hy⟩ := HLO.out _ mb hM
 obtain ⟨yq, hyq⟩ := St.bool_of (y = f)
 have hne := fun W => neqF y f W yq hyq
 have HY := Lib.hid hy; have HYQ := Lib.hid hyq
 clear hy hyq hmb
 go_upto_region 6 with fail
 obtain ⟨w8, hW8, hX8, hz8, hB8⟩ := box w7 #[.string y.dig, .int .i64 y.size, .int .i64 y.kind, .string y.frm] 30
 rw [hW8]
 have hv := below_up hv hB8
 have HX8 := Lib.hid hX8
 have hM := hM.keep hB8
 clear hW8 hX8 hz8 hB8 hlk
 obtain ⟨q0, q1, q2, q3, q4, q5, q6⟩ := (HP.out.keep hv).seven; obtain ⟨d0, d1, d2, d3⟩ := (HD.out.keep hv).four
 go_upto_region 7 with (go_at_call 91; (with_reducible refine (HTA.out _ hv).mono ?_); rintro e w9 ⟨rfl, hq⟩; have hv := below_up hv hq; obtain ⟨q0, q1, q2, q3, q4, q5, q6⟩ := (HP.out.keep hv).seven; obtain ⟨d0, d1, d2, d3⟩ := (HD.out.keep hv).four)
 obtain ⟨x0, x1, x2, x3⟩ := (HX8.out.keep hq).four
 have hM := hM.keep hq
 have HM := Lib.hid hM
 obtain ⟨z, hlz, hz⟩ := HLZ.out _ mb hM
 have hzb := HBZ.out z hz
 have hfk := fldKind z.dig z.frm z.size z.kind
 clear hz hM hq
 have HBW := Lib.hid (below_up HBB.out hv)
 go_wp2_with fail
 go_ret
 exact ⟨rfl, HBW.out⟩
theorem checkImportS_form (s : Sto) (a : StA) (f : Fil) (hfz : f.dig.size ≤ 9223372036854775807) (hf100 : f.frm.size ≤ 9223372036854775807) (tier : ByteArray) (now : Int) (w : World) (hI : StIn w s a) (r : St.Right s) (hq0 : St.faultE f = 0) (hko : f.kind = 1 ∨ St.kindOf s.files f.frm = 1) (hyo : (St.fileOf s.files f.dig).isSome = true ∧ St.filD s.files f.dig ≠ f) : Calls Tryz.prog 50 #[.agg #[.int .i64 s.least, .int .i64 s.wait, .slice a.ta s.tiers.length a.tc, .slice a.fa s.files.length a.fc, .slice a.ca s.copies.length a.cc, .slice a.ha s.held.length a.hc, .slice a.ba s.bin.length a.bc], .agg #[.string f.dig, .int .i64 f.size, .int .i64 f.kind, .string f.frm], .string tier, .int .i64 now] w (CkPost w 1) := by
 have HFZ2 := Lib.hid hfz
 have hM0 : St.Up (·.dig) s.files := r.fup
 have HFU := Lib.hid hM0
 have hcf := fun V => checkFile_is f ⟨#[]⟩ hfz V
 rw [show St.fileC f ⟨#[]⟩ = St.faultE f from (St.fileE_bef [] f).symm] at hcf
 have HCF := Lib.hid hcf
 clear hcf
 rw [hq0] at HCF
 have hy2 := (St.sizes_iff.1 r.sizes).2.2.1
 obtain ⟨W0, hW0, hP, hz0, hB0⟩ := box w #[.int .i64 s.least, .int .i64 s.wait, .slice a.ta s.tiers.length a.tc, .slice a.fa s.files.length a.fc, .slice a.ca s.copies.length a.cc, .slice a.ha s.held.length a.hc, .slice a.ba s.bin.length a.bc] 28
 obtain ⟨W1, hW1, hD, hz1, hB1⟩ := box W0 #[.string f.dig, .int .i64 f.size, .int .i64 f.kind, .string f.frm] 30
 rw [hz0] at hD hz1
 have hP := hP.keep hB1
 have hBB := below_up hB0 hB1
 have HW0 := Lib.hid hW0; have HW1 := Lib.hid hW1; have HP := Lib.hid hP; have HD := Lib.hid hD; have HBB := Lib.hid hBB
 have HI1 := Lib.hid (hI.keep hBB)
 obtain ⟨q0, q1, q2, q3, q4, q5, q6⟩ := hP.seven
 obtain ⟨d0, d1, d2, d3⟩ := hD.four
 have HSE := Lib.hid (fun V (hv : Below W1.heap.size W1 V) => storeError_is s a V (HI1.out.keep hv))
 clear hI hW0 hW1 hP hD hz0 hz1 hB0 hB1 hBB
 have hv : Below W1.heap.size W1 W1 := Below.refl _ _
 have HBY := Lib.hid (fun V (hv : Below W1.heap.size W1 V) => byDigest_is s a V (HI1.out.keep hv) hy2)
 have HTA := Lib.hid (fun V (hv : Below W1.heap.size W1 V) => tierAt_is s a tier V (HI1.out.keep hv))
 have HMO := Lib.hid (fun V => isMomentS_is now V)
 have HLO := Lib.hid (fun (V : World) mb (hM : FMap V mb s.files) => hM.okD r.fup hfz)
 have HLZ := Lib.hid (fun (V : World) mb (hM : FMap V mb s.files) => hM.kind r.fup hf100)
 obtain ⟨yb, hyb⟩ : ∃ yb, yb = (St.fileOf s.files f.dig).isSome := ⟨_, rfl⟩
 rw [← hyb] at HLO
 obtain ⟨bk, hbk⟩ : ∃ bk, (f.kind != 1) = bk := ⟨_, rfl⟩
 obtain ⟨bz, hbz⟩ : ∃ bz, (St.kindOf s.files f.frm != 1) = bz := ⟨_, rfl⟩
 have HBZ := Lib.hid (show ∀ z, z = St.filD s.files f.frm → (z.kind != 1) = bz from fun z hz => by rw [hz, ← hbz, St.filD_kind])
 have hgd := guardFil
 clear hq0 hy2 hM0 hbz
 have hkr : (bk && bz) = false := by
  rcases hko with h | h
  ·rw [← hbk, h]; rfl
  ·have := HBZ.out _ rfl
   rw [← this, St.filD_kind, h]; simp
 clear hko
 have HYO := Lib.hid hyo.2
 rw [hyo.1] at hyb
 subst hyb
 clear hyo r
 have hbb : bk = false ∨ (bk = true ∧ bz = false) := by cases bk <;> cases bz <;> first | exact .inl rfl | exact .inr ⟨rfl, rfl⟩ | cases hkr
 clear hkr
 rcases hbb with rfl | ⟨rfl, rfl⟩
 all_goals
  go_enter Tryz.func50, Tryz.ntmps50
  go_upto_region 1 with fail
  rw [HW0.out, HW1.out]
  go_upto_region 5 with (first
   | (go_at_call 131; (with_reducible refine (HCF.out _).mono ?_); rintro e w6 ⟨rfl, hq⟩; have hv := below_up hv hq; obtain ⟨q0, q1, q2, q3, q4, q5, q6⟩ := (HP.out.keep hv).seven; obtain ⟨d0, d1, d2, d3⟩ := (HD.out.keep hv).four)
   | (go_at_call 98; (with_reducible refine (HBY.out _ hv).mono ?_); rintro e w7 ⟨mb, rfl, hmb, hM, hq⟩; have hv := below_up hv hq; obtain ⟨q0, q1, q2, q3, q4, q5, q6⟩ := (HP.out.keep hv).seven; obtain ⟨d0, d1, d2, d3⟩ := (HD.out.keep hv).four))
  obtain ⟨y, hlk, hy⟩ := HLO.out _ mb hM
  obtain ⟨yq, hyq⟩ := St.bool_of (y = f)
  have hne := fun W => neqF y f W yq hyq
  have HY := Lib.hid hy; have HYQ := Lib.hid hyq
  clear hy hyq hmb
  go_upto_region 6 with fail
  obtain ⟨w8, hW8, hX8, hz8, hB8⟩ := box w7 #[.string y.dig, .int .i64 y.size, .int .i64 y.kind, .string y.frm] 30
  rw [hW8]
  have hv := below_up hv hB8
  have HX8 := Lib.hid hX8
  have hM := hM.keep hB8
  clear hW8 hX8 hz8 hB8 hlk
  obtain ⟨q0, q1, q2, q3, q4, q5, q6⟩ := (HP.out.keep hv).seven; obtain ⟨d0, d1, d2, d3⟩ := (HD.out.keep hv).four
  go_upto_region 7 with (go_at_call 91; (with_reducible refine (HTA.out _ hv).mono ?_); rintro e w9 ⟨rfl, hq⟩; have hv := below_up hv hq; obtain ⟨q0, q1, q2, q3, q4, q5, q6⟩ := (HP.out.keep hv).seven; obtain ⟨d0, d1, d2, d3⟩ := (HD.out.keep hv).four)
  obtain ⟨x0, x1, x2, x3⟩ := (HX8.out.keep hq).four
  have hM := hM.keep hq
  have HM := Lib.hid hM
  obtain ⟨z, hlz, hz⟩ := HLZ.out _ mb hM
  have hzb := HBZ.out z hz
  have hfk := fldKind z.dig z.frm z.size z.kind
  clear hz hM hq
  have hyf : y ≠ f := by rw [HY.out]; exact HYO.out
  obtain rfl : yq = false := by cases yq with | false => rfl | true => exact absurd (HYQ.out.1 rfl) hyf
  clear hyf
  have HBW := Lib.hid (below_up HBB.out hv)
  go_wp2_with fail
  go_ret
  exact ⟨rfl, HBW.out⟩
theorem checkImportS_tier (s : Sto) (a : StA) (f : Fil) (hfz : f.dig.size ≤ 9223372036854775807) (hf100 : f.frm.size ≤ 9223372036854775807) (tier : ByteArray) (now : Int) (w : World) (hI : StIn w s a) (r : St.Right s) (hq0 : St.faultE f = 0) (hko : f.kind = 1 ∨ St.kindOf s.files f.frm = 1) (hyo : (St.fileOf s.files f.dig).isSome = false ∨ St.filD s.files f.dig = f) (ht : St.tierAt s.tiers tier < 0) : Calls Tryz.prog 50 #[.agg #[.int .i64 s.least, .int .i64 s.wait, .slice a.ta s.tiers.length a.tc, .slice a.fa s.files.length a.fc, .slice a.ca s.copies.length a.cc, .slice a.ha s.held.length a.hc, .slice a.ba s.bin.length a.bc], .agg #[.string f.dig, .int .i64 f.size, .int .i64 f.kind, .string f.frm], .string tier, .int .i64 now] w (CkPost w 7) := by
 have HFZ2 := Lib.hid hfz
 have hM0 : St.Up (·.dig) s.files := r.fup
 have HFU := Lib.hid hM0
 have hcf := fun V => checkFile_is f ⟨#[]⟩ hfz V
 rw [show St.fileC f ⟨#[]⟩ = St.faultE f from (St.fileE_bef [] f).symm] at hcf
 have HCF := Lib.hid hcf
 clear hcf
 rw [hq0] at HCF
 have hy2 := (St.sizes_iff.1 r.sizes).2.2.1
 obtain ⟨W0, hW0, hP, hz0, hB0⟩ := box w #[.int .i64 s.least, .int .i64 s.wait, .slice a.ta s.tiers.length a.tc, .slice a.fa s.files.length a.fc, .slice a.ca s.copies.length a.cc, .slice a.ha s.held.length a.hc, .slice a.ba s.bin.length a.bc] 28
 obtain ⟨W1, hW1, hD, hz1, hB1⟩ := box W0 #[.string f.dig, .int .i64 f.size, .int .i64 f.kind, .string f.frm] 30
 rw [hz0] at hD hz1
 have hP := hP.keep hB1
 have hBB := below_up hB0 hB1
 have HW0 := Lib.hid hW0; have HW1 := Lib.hid hW1; have HP := Lib.hid hP; have HD := Lib.hid hD; have HBB := Lib.hid hBB
 have HI1 := Lib.hid (hI.keep hBB)
 obtain ⟨q0, q1, q2, q3, q4, q5, q6⟩ := hP.seven
 obtain ⟨d0, d1, d2, d3⟩ := hD.four
 have HSE := Lib.hid (fun V (hv : Below W1.heap.size W1 V) => storeError_is s a V (HI1.out.keep hv))
 clear hI hW0 hW1 hP hD hz0 hz1 hB0 hB1 hBB
 have hv : Below W1.heap.size W1 W1 := Below.refl _ _
 have HBY := Lib.hid (fun V (hv : Below W1.heap.size W1 V) => byDigest_is s a V (HI1.out.keep hv) hy2)
 have HTA := Lib.hid (fun V (hv : Below W1.heap.size W1 V) => tierAt_is s a tier V (HI1.out.keep hv))
 have HMO := Lib.hid (fun V => isMomentS_is now V)
 have HLO := Lib.hid (fun (V : World) mb (hM : FMap V mb s.files) => hM.okD r.fup hfz)
 have HLZ := Lib.hid (fun (V : World) mb (hM : FMap V mb s.files) => hM.kind r.fup hf100)
 obtain ⟨yb, hyb⟩ : ∃ yb, yb = (St.fileOf s.files f.dig).isSome := ⟨_, rfl⟩
 rw [← hyb] at HLO
 obtain ⟨bk, hbk⟩ : ∃ bk, (f.kind != 1) = bk := ⟨_, rfl⟩
 obtain ⟨bz, hbz⟩ : ∃ bz, (St.kindOf s.files f.frm != 1) = bz := ⟨_, rfl⟩
 have HBZ := Lib.hid (show ∀ z, z = St.filD s.files f.frm → (z.kind != 1) = bz from fun z hz => by rw [hz, ← hbz, St.filD_kind])
 have hgd := guardFil
 clear hq0 hy2 hM0 hbz
 have hkr : (bk && bz) = false := by
  rcases hko with h | h
  ·rw [← hbk, h]; rfl
  ·have := HBZ.out _ rfl
   rw [← this, St.filD_kind, h]; simp
 clear hko
 rw [← hyb] at hyo
 generalize St.tierAt s.tiers tier = tn at *
 have ht1 : decide (tn < 0) = true := decide_eq_true ht
 clear r hyb
 cases yb
 ·have HYT : Hid True := Lib.hid trivial
  clear hyo
  have hbb : bk = false ∨ (bk = true ∧ bz = false) := by cases bk <;> cases bz <;> first | exact .inl rfl | exact .inr ⟨rfl, rfl⟩ | cases hkr
  clear hkr
  rcases hbb with rfl | ⟨rfl, rfl⟩
  all_goals
   go_enter Tryz.func50, Tryz.ntmps50
   go_upto_region 1 with fail
   rw [HW0.out, HW1.out]
   go_upto_region 5 with (first
    | (go_at_call 131; (with_reducible refine (HCF.out _).mono ?_); rintro e w6 ⟨rfl, hq⟩; have hv := below_up hv hq; obtain ⟨q0, q1, q2, q3, q4, q5, q6⟩ := (HP.out.keep hv).seven; obtain ⟨d0, d1, d2, d3⟩ := (HD.out.keep hv).four)
    | (go_at_call 98; (with_reducible refine (HBY.out _ hv).mono ?_); rintro e w7 ⟨mb, rfl, hmb, hM, hq⟩; have hv := below_up hv hq; obtain ⟨q0, q1, q2, q3, q4, q5, q6⟩ := (HP.out.keep hv).seven; obtain ⟨d0, d1, d2, d3⟩ := (HD.out.keep hv).four))
   obtain ⟨y, hlk, hy⟩ := HLO.out _ mb hM
   obtain ⟨yq, hyq⟩ := St.bool_of (y = f)
   have hne := fun W => neqF y f W yq hyq
   have HY := Lib.hid hy; have HYQ := Lib.hid hyq
   clear hy hyq hmb
   go_upto_region 6 with fail
   obtain ⟨w8, hW8, hX8, hz8, hB8⟩ := box w7 #[.string y.dig, .int .i64 y.size, .int .i64 y.kind, .string y.frm] 30
   rw [hW8]
   have hv := below_up hv hB8
   have HX8 := Lib.hid hX8
   have hM := hM.keep hB8
   clear hW8 hX8 hz8 hB8 hlk
   obtain ⟨q0, q1, q2, q3, q4, q5, q6⟩ := (HP.out.keep hv).seven; obtain ⟨d0, d1, d2, d3⟩ := (HD.out.keep hv).four
   go_upto_region 7 with (go_at_call 91; (with_reducible refine (HTA.out _ hv).mono ?_); rintro e w9 ⟨rfl, hq⟩; have hv := below_up hv hq; obtain ⟨q0, q1, q2, q3, q4, q5, q6⟩ := (HP.out.keep hv).seven; obtain ⟨d0, d1, d2, d3⟩ := (HD.out.keep hv).four)
   obtain ⟨x0, x1, x2, x3⟩ := (HX8.out.keep hq).four
   have hM := hM.keep hq
   have HM := Lib.hid hM
   obtain ⟨z, hlz, hz⟩ := HLZ.out _ mb hM
   have hzb := HBZ.out z hz
   have hfk := fldKind z.dig z.frm z.size z.kind
   clear hz hM hq
   have HBW := Lib.hid (below_up HBB.out hv)
   go_wp2_with fail
   go_ret
   exact ⟨rfl, HBW.out⟩
 ·have HYT : Hid (St.filD s.files f.dig = f) := Lib.hid (hyo.resolve_left (by decide))
  clear hyo
  have hbb : bk = false ∨ (bk = true ∧ bz = false) := by cases bk <;> cases bz <;> first | exact .inl rfl | exact .inr ⟨rfl, rfl⟩ | cases hkr
  clear hkr
  rcases hbb with rfl | ⟨rfl, rfl⟩
  all_goals
   go_enter Tryz.func50, Tryz.ntmps50
   go_upto_region 1 with fail
   rw [HW0.out, HW1.out]
   go_upto_region 5 with (first
    | (go_at_call 131; (with_reducible refine (HCF.out _).mono ?_); rintro e w6 ⟨rfl, hq⟩; have hv := below_up hv hq; obtain ⟨q0, q1, q2, q3, q4, q5, q6⟩ := (HP.out.keep hv).seven; obtain ⟨d0, d1, d2, d3⟩ := (HD.out.keep hv).four)
    | (go_at_call 98; (with_reducible refine (HBY.out _ hv).mono ?_); rintro e w7 ⟨mb, rfl, hmb, hM, hq⟩; have hv := below_up hv hq; obtain ⟨q0, q1, q2, q3, q4, q5, q6⟩ := (HP.out.keep hv).seven; obtain ⟨d0, d1, d2, d3⟩ := (HD.out.keep hv).four))
   obtain ⟨y, hlk, hy⟩ := HLO.out _ mb hM
   obtain ⟨yq, hyq⟩ := St.bool_of (y = f)
   have hne := fun W => neqF y f W yq hyq
   have HY := Lib.hid hy; have HYQ := Lib.hid hyq
   clear hy hyq hmb
   go_upto_region 6 with fail
   obtain ⟨w8, hW8, hX8, hz8, hB8⟩ := box w7 #[.string y.dig, .int .i64 y.size, .int .i64 y.kind, .string y.frm] 30
   rw [hW8]
   have hv := below_up hv hB8
   have HX8 := Lib.hid hX8
   have hM := hM.keep hB8
   clear hW8 hX8 hz8 hB8 hlk
   obtain ⟨q0, q1, q2, q3, q4, q5, q6⟩ := (HP.out.keep hv).seven; obtain ⟨d0, d1, d2, d3⟩ := (HD.out.keep hv).four
   go_upto_region 7 with (go_at_call 91; (with_reducible refine (HTA.out _ hv).mono ?_); rintro e w9 ⟨rfl, hq⟩; have hv := below_up hv hq; obtain ⟨q0, q1, q2, q3, q4, q5, q6⟩ := (HP.out.keep hv).seven; obtain ⟨d0, d1, d2, d3⟩ := (HD.out.keep hv).four)
   obtain ⟨x0, x1, x2, x3⟩ := (HX8.out.keep hq).four
   have hM := hM.keep hq
   have HM := Lib.hid hM
   obtain ⟨z, hlz, hz⟩ := HLZ.out _ mb hM
   have hzb := HBZ.out z hz
   have hfk := fldKind z.dig z.frm z.size z.kind
   clear hz hM hq
   obtain rfl : yq = true := HYQ.out.2 (HY.out.trans HYT.out)
   have HBW := Lib.hid (below_up HBB.out hv)
   go_wp2_with fail
   go_ret
   exact ⟨rfl, HBW.out⟩
theorem checkImportS_range (s : Sto) (a : StA) (f : Fil) (hfz : f.dig.size ≤ 9223372036854775807) (hf100 : f.frm.size ≤ 9223372036854775807) (tier : ByteArray) (now : Int) (w : World) (hI : StIn w s a) (r : St.Right s) (hq0 : St.faultE f = 0) (hko : f.kind = 1 ∨ St.kindOf s.files f.frm = 1) (hyo : (St.fileOf s.files f.dig).isSome = false ∨ St.filD s.files f.dig = f) (ht : 0 ≤ St.tierAt s.tiers tier) (hm : St.isMom now = false) : Calls Tryz.prog 50 #[.agg #[.int .i64 s.least, .int .i64 s.wait, .slice a.ta s.tiers.length a.tc, .slice a.fa s.files.length a.fc, .slice a.ca s.copies.length a.cc, .slice a.ha s.held.length a.hc, .slice a.ba s.bin.length a.bc], .agg #[.string f.dig, .int .i64 f.size, .int .i64 f.kind, .string f.frm], .string tier, .int .i64 now] w (CkPost w 2) := by
 have HFZ2 := Lib.hid hfz
 have hM0 : St.Up (·.dig) s.files := r.fup
 have HFU := Lib.hid hM0
 have hcf := fun V => checkFile_is f ⟨#[]⟩ hfz V
 rw [show St.fileC f ⟨#[]⟩ = St.faultE f from (St.fileE_bef [] f).symm] at hcf
 have HCF := Lib.hid hcf
 clear hcf
 rw [hq0] at HCF
 have hy2 := (St.sizes_iff.1 r.sizes).2.2.1
 obtain ⟨W0, hW0, hP, hz0, hB0⟩ := box w #[.int .i64 s.least, .int .i64 s.wait, .slice a.ta s.tiers.length a.tc, .slice a.fa s.files.length a.fc, .slice a.ca s.copies.length a.cc, .slice a.ha s.held.length a.hc, .slice a.ba s.bin.length a.bc] 28
 obtain ⟨W1, hW1, hD, hz1, hB1⟩ := box W0 #[.string f.dig, .int .i64 f.size, .int .i64 f.kind, .string f.frm] 30
 rw [hz0] at hD hz1
 have hP := hP.keep hB1
 have hBB := below_up hB0 hB1
 have HW0 := Lib.hid hW0; have HW1 := Lib.hid hW1; have HP := Lib.hid hP; have HD := Lib.hid hD; have HBB := Lib.hid hBB
 have HI1 := Lib.hid (hI.keep hBB)
 obtain ⟨q0, q1, q2, q3, q4, q5, q6⟩ := hP.seven
 obtain ⟨d0, d1, d2, d3⟩ := hD.four
 have HSE := Lib.hid (fun V (hv : Below W1.heap.size W1 V) => storeError_is s a V (HI1.out.keep hv))
 clear hI hW0 hW1 hP hD hz0 hz1 hB0 hB1 hBB
 have hv : Below W1.heap.size W1 W1 := Below.refl _ _
 have HBY := Lib.hid (fun V (hv : Below W1.heap.size W1 V) => byDigest_is s a V (HI1.out.keep hv) hy2)
 have HTA := Lib.hid (fun V (hv : Below W1.heap.size W1 V) => tierAt_is s a tier V (HI1.out.keep hv))
 have HMO := Lib.hid (fun V => isMomentS_is now V)
 have HLO := Lib.hid (fun (V : World) mb (hM : FMap V mb s.files) => hM.okD r.fup hfz)
 have HLZ := Lib.hid (fun (V : World) mb (hM : FMap V mb s.files) => hM.kind r.fup hf100)
 obtain ⟨yb, hyb⟩ : ∃ yb, yb = (St.fileOf s.files f.dig).isSome := ⟨_, rfl⟩
 rw [← hyb] at HLO
 obtain ⟨bk, hbk⟩ : ∃ bk, (f.kind != 1) = bk := ⟨_, rfl⟩
 obtain ⟨bz, hbz⟩ : ∃ bz, (St.kindOf s.files f.frm != 1) = bz := ⟨_, rfl⟩
 have HBZ := Lib.hid (show ∀ z, z = St.filD s.files f.frm → (z.kind != 1) = bz from fun z hz => by rw [hz, ← hbz, St.filD_kind])
 have hgd := guardFil
 clear hq0 hy2 hM0 hbz
 have hkr : (bk && bz) = false := by
  rcases hko with h | h
  ·rw [← hbk, h]; rfl
  ·have := HBZ.out _ rfl
   rw [← this, St.filD_kind, h]; simp
 clear hko
 rw [← hyb] at hyo
 rw [hm] at HMO
 generalize St.tierAt s.tiers tier = tn at *
 have ht0 : ¬ (tn < 0) := by omega
 have ht1 : decide (tn < 0) = false := decide_eq_false ht0
 clear r hyb hm
 cases yb
 ·have HYT : Hid True := Lib.hid trivial
  clear hyo
  have hbb : bk = false ∨ (bk = true ∧ bz = false) := by cases bk <;> cases bz <;> first | exact .inl rfl | exact .inr ⟨rfl, rfl⟩ | cases hkr
  clear hkr
  rcases hbb with rfl | ⟨rfl, rfl⟩
  all_goals
   go_enter Tryz.func50, Tryz.ntmps50
   go_upto_region 1 with fail
   rw [HW0.out, HW1.out]
   go_upto_region 5 with (first
    | (go_at_call 131; (with_reducible refine (HCF.out _).mono ?_); rintro e w6 ⟨rfl, hq⟩; have hv := below_up hv hq; obtain ⟨q0, q1, q2, q3, q4, q5, q6⟩ := (HP.out.keep hv).seven; obtain ⟨d0, d1, d2, d3⟩ := (HD.out.keep hv).four)
    | (go_at_call 98; (with_reducible refine (HBY.out _ hv).mono ?_); rintro e w7 ⟨mb, rfl, hmb, hM, hq⟩; have hv := below_up hv hq; obtain ⟨q0, q1, q2, q3, q4, q5, q6⟩ := (HP.out.keep hv).seven; obtain ⟨d0, d1, d2, d3⟩ := (HD.out.keep hv).four))
   obtain ⟨y, hlk, hy⟩ := HLO.out _ mb hM
   obtain ⟨yq, hyq⟩ := St.bool_of (y = f)
   have hne := fun W => neqF y f W yq hyq
   have HY := Lib.hid hy; have HYQ := Lib.hid hyq
   clear hy hyq hmb
   go_upto_region 6 with fail
   obtain ⟨w8, hW8, hX8, hz8, hB8⟩ := box w7 #[.string y.dig, .int .i64 y.size, .int .i64 y.kind, .string y.frm] 30
   rw [hW8]
   have hv := below_up hv hB8
   have HX8 := Lib.hid hX8
   have hM := hM.keep hB8
   clear hW8 hX8 hz8 hB8 hlk
   obtain ⟨q0, q1, q2, q3, q4, q5, q6⟩ := (HP.out.keep hv).seven; obtain ⟨d0, d1, d2, d3⟩ := (HD.out.keep hv).four
   go_upto_region 7 with (go_at_call 91; (with_reducible refine (HTA.out _ hv).mono ?_); rintro e w9 ⟨rfl, hq⟩; have hv := below_up hv hq; obtain ⟨q0, q1, q2, q3, q4, q5, q6⟩ := (HP.out.keep hv).seven; obtain ⟨d0, d1, d2, d3⟩ := (HD.out.keep hv).four)
   obtain ⟨x0, x1, x2, x3⟩ := (HX8.out.keep hq).four
   have hM := hM.keep hq
   have HM := Lib.hid hM
   obtain ⟨z, hlz, hz⟩ := HLZ.out _ mb hM
   have hzb := HBZ.out z hz
   have hfk := fldKind z.dig z.frm z.size z.kind
   clear hz hM hq
   go_upto_region 14 with (go_at_call 132; (with_reducible refine (HMO.out _).mono ?_); rintro e w10 ⟨rfl, rfl⟩)
   have HBW := Lib.hid (below_up HBB.out hv)
   go_wp2_with fail
   go_ret
   exact ⟨rfl, HBW.out⟩
 ·have HYT : Hid (St.filD s.files f.dig = f) := Lib.hid (hyo.resolve_left (by decide))
  clear hyo
  have hbb : bk = false ∨ (bk = true ∧ bz = false) := by cases bk <;> cases bz <;> first | exact .inl rfl | exact .inr ⟨rfl, rfl⟩ | cases hkr
  clear hkr
  rcases hbb with rfl | ⟨rfl, rfl⟩
  all_goals
   go_enter Tryz.func50, Tryz.ntmps50
   go_upto_region 1 with fail
   rw [HW0.out, HW1.out]
   go_upto_region 5 with (first
    | (go_at_call 131; (with_reducible refine (HCF.out _).mono ?_); rintro e w6 ⟨rfl, hq⟩; have hv := below_up hv hq; obtain ⟨q0, q1, q2, q3, q4, q5, q6⟩ := (HP.out.keep hv).seven; obtain ⟨d0, d1, d2, d3⟩ := (HD.out.keep hv).four)
    | (go_at_call 98; (with_reducible refine (HBY.out _ hv).mono ?_); rintro e w7 ⟨mb, rfl, hmb, hM, hq⟩; have hv := below_up hv hq; obtain ⟨q0, q1, q2, q3, q4, q5, q6⟩ := (HP.out.keep hv).seven; obtain ⟨d0, d1, d2, d3⟩ := (HD.out.keep hv).four))
   obtain ⟨y, hlk, hy⟩ := HLO.out _ mb hM
   obtain ⟨yq, hyq⟩ := St.bool_of (y = f)
   have hne := fun W => neqF y f W yq hyq
   have HY := Lib.hid hy; have HYQ := Lib.hid hyq
   clear hy hyq hmb
   go_upto_region 6 with fail
   obtain ⟨w8, hW8, hX8, hz8, hB8⟩ := box w7 #[.string y.dig, .int .i64 y.size, .int .i64 y.kind, .string y.frm] 30
   rw [hW8]
   have hv := below_up hv hB8
   have HX8 := Lib.hid hX8
   have hM := hM.keep hB8
   clear hW8 hX8 hz8 hB8 hlk
   obtain ⟨q0, q1, q2, q3, q4, q5, q6⟩ := (HP.out.keep hv).seven; obtain ⟨d0, d1, d2, d3⟩ := (HD.out.keep hv).four
   go_upto_region 7 with (go_at_call 91; (with_reducible refine (HTA.out _ hv).mono ?_); rintro e w9 ⟨rfl, hq⟩; have hv := below_up hv hq; obtain ⟨q0, q1, q2, q3, q4, q5, q6⟩ := (HP.out.keep hv).seven; obtain ⟨d0, d1, d2, d3⟩ := (HD.out.keep hv).four)
   obtain ⟨x0, x1, x2, x3⟩ := (HX8.out.keep hq).four
   have hM := hM.keep hq
   have HM := Lib.hid hM
   obtain ⟨z, hlz, hz⟩ := HLZ.out _ mb hM
   have hzb := HBZ.out z hz
   have hfk := fldKind z.dig z.frm z.size z.kind
   clear hz hM hq
   obtain rfl : yq = true := HYQ.out.2 (HY.out.trans HYT.out)
   go_upto_region 14 with (go_at_call 132; (with_reducible refine (HMO.out _).mono ?_); rintro e w10 ⟨rfl, rfl⟩)
   have HBW := Lib.hid (below_up HBB.out hv)
   go_wp2_with fail
   go_ret
   exact ⟨rfl, HBW.out⟩
theorem hasC_is (L : List Cop) (hu : St.Up St.ckey L) (hz : ∀ x ∈ L, x.dig.size ≤ 100 ∧ x.tier.size ≤ 100) (h1m : L.length ≤ 1000000) (k : ByteArray) (a : Option Addr) (ca : Nat) (w : World) (hl : L.length ≤ ca ∧ ca ≤ 9223372036854775807) (hr : RowE St.eC w a L) :
  Calls Tryz.prog 133 #[.agg #[.func (.func 144) #[] #[], .slice a L.length ca], .string k] w fun e w' => e = .returned (.bool (St.hasK St.ckey L k)) ∧ Below w.heap.size w w' := by
 obtain ⟨W1, hW1, hP, hz1, hB1⟩ := box w #[.func (.func 144) #[] #[], .slice a L.length ca] 97
 have HW1 := Lib.hid hW1; have HB1 := Lib.hid hB1
 have r0 : W1.cell? ⟨w.heap.size, 0, none⟩ = some (.func (.func 144) #[] #[]) := (hP.cell 0).trans rfl
 have r1 : W1.cell? ⟨w.heap.size, 1, none⟩ = some (.slice a L.length ca) := (hP.cell 1).trans rfl
 have HC := Lib.hid (placeC_is L hu hz h1m k a ca W1 hl (hr.keep hB1))
 clear hW1 hP hz1 hB1 hr
 go_enter Tryz.func133, Tryz.ntmps133
 go_wp2_with fail
 rw [HW1.out]
 go_wp2_with (go_at_call 55; (with_reducible refine HC.out.mono ?_); rintro e w4 ⟨rfl, hB4⟩)
 go_ret
 exact ⟨rfl, below_up HB1.out hB4⟩
end Go.Proofs.YthdiccdnggloiaaGreatDoor
