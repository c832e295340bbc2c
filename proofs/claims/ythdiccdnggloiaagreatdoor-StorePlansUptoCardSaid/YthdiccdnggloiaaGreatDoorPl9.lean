/- Parts of the proof, no condition: StChk9, StNd, StRef2, StCf, StEq, StRel, StRen. -/
import Derived.Test.YthdiccdnggloiaaGreatDoorPl5
import Derived.Test.YthdiccdnggloiaaGreatDoorPl8
import Derived.Test.YthdiccdnggloiaaGreatDoorPl7
import Derived.Lib.QuietBelow
import Derived.Test.YthdiccdnggloiaaGreatDoorPl4
import Derived.Test.YthdiccdnggloiaaGreatDoorPl6
import Derived.Deep.QuietTactic
import Derived.BigQuiet
import Derived.Test.YthdiccdnggloiaaGreatDoorPl3
set_option maxRecDepth 100000
set_option maxHeartbeats 8000000
set_option linter.unusedSimpArgs false
set_option linter.unusedVariables false
namespace Go.Proofs.YthdiccdnggloiaaGreatDoor
open Go.RowKit Go.Sort Go.Shelf Go.Maps
theorem enters_ck0 : ∀ args w, (callFunc 108 args).run Tryz.prog w = .ok (.enter 108 args) w := enters_of Tryz.func108 (by kernel_rfl) rfl
theorem enters_ck1 : ∀ args w, (callFunc 109 args).run Tryz.prog w = .ok (.enter 109 args) w := enters_of Tryz.func109 (by kernel_rfl) rfl
theorem enters_ck2 : ∀ args w, (callFunc 110 args).run Tryz.prog w = .ok (.enter 110 args) w := enters_of Tryz.func110 (by kernel_rfl) rfl
theorem enters_ck3 : ∀ args w, (callFunc 111 args).run Tryz.prog w = .ok (.enter 111 args) w := enters_of Tryz.func111 (by kernel_rfl) rfl
theorem enters_ck4 : ∀ args w, (callFunc 112 args).run Tryz.prog w = .ok (.enter 112 args) w := enters_of Tryz.func112 (by kernel_rfl) rfl
theorem check_is (s : Sto) (a : StA) (w : World) (hI : StIn w s a) :
  Calls Tryz.prog 32 #[.agg #[.int .i64 s.least, .int .i64 s.wait, .slice a.ta s.tiers.length a.tc, .slice a.fa s.files.length a.fc, .slice a.ca s.copies.length a.cc, .slice a.ha s.held.length a.hc, .slice a.ba s.bin.length a.bc]] w fun e w' => e = .returned (.int .i64 (St.err s)) ∧ Below w.heap.size w w' := by
 obtain ⟨W1, hW1, hP, hz1, hB1⟩ := box w #[.int .i64 s.least, .int .i64 s.wait, .slice a.ta s.tiers.length a.tc, .slice a.fa s.files.length a.fc, .slice a.ca s.copies.length a.cc, .slice a.ha s.held.length a.hc, .slice a.ba s.bin.length a.bc] 28
 have HW1 := Lib.hid hW1
 have HI1 := Lib.hid (hI.keep hB1)
 obtain ⟨q0, q1, q2, q3, q4, q5, q6⟩ := hP.sv7
 have HP := Lib.hid hP; have HB1 := Lib.hid hB1
 clear hW1 hP
 obtain ⟨W2, hW2, hX2, hz2, hB2⟩ := box W1 #[.func (.func 108) #[] #[], .func (.func 109) #[] #[], .func (.func 110) #[] #[], .func (.func 111) #[] #[], .func (.func 112) #[] #[]] 38
 have HW2 := Lib.hid hW2; have HX2 := Lib.hid hX2
 have HBB := Lib.hid (below_up HB1.out hB2)
 have HB2 := Lib.hid hB2
 have HI := Lib.hid hI
 obtain ⟨e0, h0⟩ : ∃ e0, St.sizesE s = e0 := ⟨_, rfl⟩
 obtain ⟨e1, h1⟩ : ∃ e1, St.scan St.tierE [] s.tiers = e1 := ⟨_, rfl⟩
 obtain ⟨e2, h2⟩ : ∃ e2, St.filesE s.files = e2 := ⟨_, rfl⟩
 obtain ⟨e3, h3⟩ : ∃ e3, St.copiesE s = e3 := ⟨_, rfl⟩
 obtain ⟨e4, h4⟩ : ∃ e4, St.keptE s = e4 := ⟨_, rfl⟩
 have HF : Hid (St.err s = if e0 = 0 then (if e1 = 0 then (if e2 = 0 then (if e3 = 0 then e4 else e3) else e2) else e1) else e0) := Lib.hid (by unfold St.err; rw [h0, h1, h2, h3, h4])
 have HC0 := Lib.hid (fun W (hb : Below w.heap.size w W) => checkSizes_is s a W (HI.out.keep hb))
 have HC1 := Lib.hid (fun W (hb : Below w.heap.size w W) => checkTiers_is s a W (HI.out.keep hb))
 have HC2 := Lib.hid (fun (g0 : e0 = 0) W (hb : Below w.heap.size w W) => checkFiles_is s a W (HI.out.keep hb) (St.sizes_iff.1 (h0.trans g0)).2.2.1)
 have HC3 := Lib.hid (fun (g0 : e0 = 0) (g1 : e1 = 0) (g2 : e2 = 0) W (hb : Below w.heap.size w W) => checkCopies_is s a W (HI.out.keep hb) (h0.trans g0) (h1.trans g1) (h2.trans g2))
 have HC4 := Lib.hid (fun (g0 : e0 = 0) (g2 : e2 = 0) W (hb : Below w.heap.size w W) => checkNeeded_is s a W (HI.out.keep hb) (h0.trans g0) (St.files_ok (h2.trans g2)).2.1)
 rw [h0] at HC0; rw [h1] at HC1; rw [h2] at HC2; rw [h3] at HC3; rw [h4] at HC4
 have HCL := Lib.hid (fun W (hb : Below W2.heap.size W2 W) => HP.out.keep (below_up HB2.out hb))
 have eg0 := enters_ck0; have eg1 := enters_ck1; have eg2 := enters_ck2; have eg3 := enters_ck3; have eg4 := enters_ck4
 clear h0 h1 h2 h3 h4 hI hB2 hW2 hX2 hz2 q0 q1 q2 q3 q4 q5 q6
 go_enter Tryz.func32, Tryz.ntmps32
 go_wp2_with fail
 rw [HW1.out, HW2.out]
 go_loopg [8] 5 (fun gk i wr => ∃ j : Nat, j ≤ 5 ∧ gk = 5 - j ∧ i = .int .i64 j ∧ (1 ≤ j → e0 = 0) ∧ (2 ≤ j → e1 = 0) ∧ (3 ≤ j → e2 = 0) ∧ (4 ≤ j → e3 = 0) ∧ (5 ≤ j → e4 = 0) ∧ Below W2.heap.size W2 wr)
 case atStart => exact ⟨0, by omega, rfl, rfl, fun h => by omega, fun h => by omega, fun h => by omega, fun h => by omega, fun h => by omega, Below.refl _ _⟩
 case round =>
  obtain ⟨j, hj, rfl, rfl, r1, r2, r3, r4, r5, hB⟩ := hrel
  have R1 := Lib.hid r1; have R2 := Lib.hid r2; have R3 := Lib.hid r3; have R4 := Lib.hid r4; have R5 := Lib.hid r5
  have hk := HX2.out.keep hB
  rw [hz1] at hk
  have f0 : wr.cell? ⟨w.heap.size + 1, 0, none⟩ = some (.func (.func 108) #[] #[]) := (hk.cell 0).trans rfl
  have f1 : wr.cell? ⟨w.heap.size + 1, 1, none⟩ = some (.func (.func 109) #[] #[]) := (hk.cell 1).trans rfl
  have f2 : wr.cell? ⟨w.heap.size + 1, 2, none⟩ = some (.func (.func 110) #[] #[]) := (hk.cell 2).trans rfl
  have f3 : wr.cell? ⟨w.heap.size + 1, 3, none⟩ = some (.func (.func 111) #[] #[]) := (hk.cell 3).trans rfl
  have f4 : wr.cell? ⟨w.heap.size + 1, 4, none⟩ = some (.func (.func 112) #[] #[]) := (hk.cell 4).trans rfl
  have k := HCL.out _ hB
  have m0 : wr.cell? ⟨w.heap.size, 0, none⟩ = some (.int .i64 s.least) := (k.cell 0).trans rfl
  have m1 : wr.cell? ⟨w.heap.size, 1, none⟩ = some (.int .i64 s.wait) := (k.cell 1).trans rfl
  have m2 : wr.cell? ⟨w.heap.size, 2, none⟩ = some (.slice a.ta s.tiers.length a.tc) := (k.cell 2).trans rfl
  have m3 : wr.cell? ⟨w.heap.size, 3, none⟩ = some (.slice a.fa s.files.length a.fc) := (k.cell 3).trans rfl
  have m4 : wr.cell? ⟨w.heap.size, 4, none⟩ = some (.slice a.ca s.copies.length a.cc) := (k.cell 4).trans rfl
  have m5 : wr.cell? ⟨w.heap.size, 5, none⟩ = some (.slice a.ha s.held.length a.hc) := (k.cell 5).trans rfl
  have m6 : wr.cell? ⟨w.heap.size, 6, none⟩ = some (.slice a.ba s.bin.length a.bc) := (k.cell 6).trans rfl
  have HBC := Lib.hid (below_up HBB.out hB)
  have HBR := Lib.hid hB
  clear r1 r2 r3 r4 r5 hk k hB
  have hj4 : j = 0 ∨ j = 1 ∨ j = 2 ∨ j = 3 ∨ j = 4 ∨ j = 5 := by omega
  rcases hj4 with rfl | rfl | rfl | rfl | rfl | rfl
  ·-- checkSizes: the check; HC0.out: its contract; e0: its answer; 1: the next place
   have HCC := Lib.hid (HC0.out)
   by_cases h0 : e0 = 0
   ·have HZ := Lib.hid h0
    have hzb : (e0 != 0) = false := by simpa using h0
    clear h0
    go_wp2_with (go_at_fn 108; (with_reducible refine (HCC.out _ HBC.out).mono ?_); rintro e w5 ⟨rfl, hB5⟩)
    go_roundg (5 - 1)
    case rel => exact ⟨1, by omega, rfl, by go_num, fun hh => by first | omega | exact HZ.out | exact R1.out (by omega) | exact R2.out (by omega) | exact R3.out (by omega) | exact R4.out (by omega) | exact R5.out (by omega), fun hh => by first | omega | exact HZ.out | exact R1.out (by omega) | exact R2.out (by omega) | exact R3.out (by omega) | exact R4.out (by omega) | exact R5.out (by omega), fun hh => by first | omega | exact HZ.out | exact R1.out (by omega) | exact R2.out (by omega) | exact R3.out (by omega) | exact R4.out (by omega) | exact R5.out (by omega), fun hh => by first | omega | exact HZ.out | exact R1.out (by omega) | exact R2.out (by omega) | exact R3.out (by omega) | exact R4.out (by omega) | exact R5.out (by omega), fun hh => by first | omega | exact HZ.out | exact R1.out (by omega) | exact R2.out (by omega) | exact R3.out (by omega) | exact R4.out (by omega) | exact R5.out (by omega), below_up HBR.out hB5⟩
    case measure => omega
   ·have HZ := Lib.hid h0
    have hzb : (e0 != 0) = true := by simpa using h0
    clear h0
    go_wp2_with (go_at_fn 108; (with_reducible refine (HCC.out _ HBC.out).mono ?_); rintro e w5 ⟨rfl, hB5⟩)
    go_ret
    exact ⟨ret_int (by have z := HZ.out; rw [HF.out]; rw [if_neg z]), below_up HBC.out hB5⟩
  ·-- checkTiers: the check; HC1.out: its contract; e1: its answer; 2: the next place
   have HCC := Lib.hid (HC1.out)
   by_cases h0 : e1 = 0
   ·have HZ := Lib.hid h0
    have hzb : (e1 != 0) = false := by simpa using h0
    clear h0
    go_wp2_with (go_at_fn 109; (with_reducible refine (HCC.out _ HBC.out).mono ?_); rintro e w5 ⟨rfl, hB5⟩)
    go_roundg (5 - 2)
    case rel => exact ⟨2, by omega, rfl, by go_num, fun hh => by first | omega | exact HZ.out | exact R1.out (by omega) | exact R2.out (by omega) | exact R3.out (by omega) | exact R4.out (by omega) | exact R5.out (by omega), fun hh => by first | omega | exact HZ.out | exact R1.out (by omega) | exact R2.out (by omega) | exact R3.out (by omega) | exact R4.out (by omega) | exact R5.out (by omega), fun hh => by first | omega | exact HZ.out | exact R1.out (by omega) | exact R2.out (by omega) | exact R3.out (by omega) | exact R4.out (by omega) | exact R5.out (by omega), fun hh => by first | omega | exact HZ.out | exact R1.out (by omega) | exact R2.out (by omega) | exact R3.out (by omega) | exact R4.out (by omega) | exact R5.out (by omega), fun hh => by first | omega | exact HZ.out | exact R1.out (by omega) | exact R2.out (by omega) | exact R3.out (by omega) | exact R4.out (by omega) | exact R5.out (by omega), below_up HBR.out hB5⟩
    case measure => omega
   ·have HZ := Lib.hid h0
    have hzb : (e1 != 0) = true := by simpa using h0
    clear h0
    go_wp2_with (go_at_fn 109; (with_reducible refine (HCC.out _ HBC.out).mono ?_); rintro e w5 ⟨rfl, hB5⟩)
    go_ret
    exact ⟨ret_int (by have z := HZ.out; rw [HF.out]; rw [if_pos (R1.out (by omega)), if_neg z]), below_up HBC.out hB5⟩
  ·-- checkFiles: the check; HC2.out (R1.out (by omega)): its contract; e2: its answer; 3: the next place
   have HCC := Lib.hid (HC2.out (R1.out (by omega)))
   by_cases h0 : e2 = 0
   ·have HZ := Lib.hid h0
    have hzb : (e2 != 0) = false := by simpa using h0
    clear h0
    go_wp2_with (go_at_fn 110; (with_reducible refine (HCC.out _ HBC.out).mono ?_); rintro e w5 ⟨rfl, hB5⟩)
    go_roundg (5 - 3)
    case rel => exact ⟨3, by omega, rfl, by go_num, fun hh => by first | omega | exact HZ.out | exact R1.out (by omega) | exact R2.out (by omega) | exact R3.out (by omega) | exact R4.out (by omega) | exact R5.out (by omega), fun hh => by first | omega | exact HZ.out | exact R1.out (by omega) | exact R2.out (by omega) | exact R3.out (by omega) | exact R4.out (by omega) | exact R5.out (by omega), fun hh => by first | omega | exact HZ.out | exact R1.out (by omega) | exact R2.out (by omega) | exact R3.out (by omega) | exact R4.out (by omega) | exact R5.out (by omega), fun hh => by first | omega | exact HZ.out | exact R1.out (by omega) | exact R2.out (by omega) | exact R3.out (by omega) | exact R4.out (by omega) | exact R5.out (by omega), fun hh => by first | omega | exact HZ.out | exact R1.out (by omega) | exact R2.out (by omega) | exact R3.out (by omega) | exact R4.out (by omega) | exact R5.out (by omega), below_up HBR.out hB5⟩
    case measure => omega
   ·have HZ := Lib.hid h0
    have hzb : (e2 != 0) = true := by simpa using h0
    clear h0
    go_wp2_with (go_at_fn 110; (with_reducible refine (HCC.out _ HBC.out).mono ?_); rintro e w5 ⟨rfl, hB5⟩)
    go_ret
    exact ⟨ret_int (by have z := HZ.out; rw [HF.out]; rw [if_pos (R1.out (by omega)), if_pos (R2.out (by omega)), if_neg z]), below_up HBC.out hB5⟩
  ·-- checkCopies: the check; HC3.out (R1.out (by omega)) (R2.out (by omega)) (R3.out (by omega)): its contract; e3: its answer; 4: the next place
   have HCC := Lib.hid (HC3.out (R1.out (by omega)) (R2.out (by omega)) (R3.out (by omega)))
   by_cases h0 : e3 = 0
   ·have HZ := Lib.hid h0
    have hzb : (e3 != 0) = false := by simpa using h0
    clear h0
    go_wp2_with (go_at_fn 111; (with_reducible refine (HCC.out _ HBC.out).mono ?_); rintro e w5 ⟨rfl, hB5⟩)
    go_roundg (5 - 4)
    case rel => exact ⟨4, by omega, rfl, by go_num, fun hh => by first | omega | exact HZ.out | exact R1.out (by omega) | exact R2.out (by omega) | exact R3.out (by omega) | exact R4.out (by omega) | exact R5.out (by omega), fun hh => by first | omega | exact HZ.out | exact R1.out (by omega) | exact R2.out (by omega) | exact R3.out (by omega) | exact R4.out (by omega) | exact R5.out (by omega), fun hh => by first | omega | exact HZ.out | exact R1.out (by omega) | exact R2.out (by omega) | exact R3.out (by omega) | exact R4.out (by omega) | exact R5.out (by omega), fun hh => by first | omega | exact HZ.out | exact R1.out (by omega) | exact R2.out (by omega) | exact R3.out (by omega) | exact R4.out (by omega) | exact R5.out (by omega), fun hh => by first | omega | exact HZ.out | exact R1.out (by omega) | exact R2.out (by omega) | exact R3.out (by omega) | exact R4.out (by omega) | exact R5.out (by omega), below_up HBR.out hB5⟩
    case measure => omega
   ·have HZ := Lib.hid h0
    have hzb : (e3 != 0) = true := by simpa using h0
    clear h0
    go_wp2_with (go_at_fn 111; (with_reducible refine (HCC.out _ HBC.out).mono ?_); rintro e w5 ⟨rfl, hB5⟩)
    go_ret
    exact ⟨ret_int (by have z := HZ.out; rw [HF.out]; rw [if_pos (R1.out (by omega)), if_pos (R2.out (by omega)), if_pos (R3.out (by omega)), if_neg z]), below_up HBC.out hB5⟩
  ·-- checkNeeded: the check; HC4.out (R1.out (by omega)) (R3.out (by omega)): its contract; e4: its answer; 5: the next place
   have HCC := Lib.hid (HC4.out (R1.out (by omega)) (R3.out (by omega)))
   by_cases h0 : e4 = 0
   ·have HZ := Lib.hid h0
    have hzb : (e4 != 0) = false := by simpa using h0
    clear h0
    go_wp2_with (go_at_fn 112; (with_reducible refine (HCC.out _ HBC.out).mono ?_); rintro e w5 ⟨rfl, hB5⟩)
    go_roundg (5 - 5)
    case rel => exact ⟨5, by omega, rfl, by go_num, fun hh => by first | omega | exact HZ.out | exact R1.out (by omega) | exact R2.out (by omega) | exact R3.out (by omega) | exact R4.out (by omega) | exact R5.out (by omega), fun hh => by first | omega | exact HZ.out | exact R1.out (by omega) | exact R2.out (by omega) | exact R3.out (by omega) | exact R4.out (by omega) | exact R5.out (by omega), fun hh => by first | omega | exact HZ.out | exact R1.out (by omega) | exact R2.out (by omega) | exact R3.out (by omega) | exact R4.out (by omega) | exact R5.out (by omega), fun hh => by first | omega | exact HZ.out | exact R1.out (by omega) | exact R2.out (by omega) | exact R3.out (by omega) | exact R4.out (by omega) | exact R5.out (by omega), fun hh => by first | omega | exact HZ.out | exact R1.out (by omega) | exact R2.out (by omega) | exact R3.out (by omega) | exact R4.out (by omega) | exact R5.out (by omega), below_up HBR.out hB5⟩
    case measure => omega
   ·have HZ := Lib.hid h0
    have hzb : (e4 != 0) = true := by simpa using h0
    clear h0
    go_wp2_with (go_at_fn 112; (with_reducible refine (HCC.out _ HBC.out).mono ?_); rintro e w5 ⟨rfl, hB5⟩)
    go_ret
    exact ⟨ret_int (by have z := HZ.out; rw [HF.out]; rw [if_pos (R1.out (by omega)), if_pos (R2.out (by omega)), if_pos (R3.out (by omega)), if_pos (R4.out (by omega))]), below_up HBC.out hB5⟩
  ·have g0 := R1.out (by omega)
   have g1 := R2.out (by omega)
   have g2 := R3.out (by omega)
   have g3 := R4.out (by omega)
   have g4 := R5.out (by omega)
   have HE : Hid (St.err s = 0) := Lib.hid (by rw [HF.out, if_pos g0, if_pos g1, if_pos g2, if_pos g3, g4])
   clear g0 g1 g2 g3 g4
   go_wp2_with fail
   go_ret
   exact ⟨ret_int HE.out.symm, HBC.out⟩
namespace St
theorem kept_eq (s : Sto) (d : ByteArray) : kept s d = (hasS s.held d || hasK gdig s.bin d) := rfl
theorem neededD_eq (s : Sto) (d : ByteArray) : neededD s d = if (filD s.files d).kind = 1 then kept s (filD s.files d).dig else if (filD s.files d).kind = 2 then kept s (filD s.files d).frm else false := rfl
theorem fil_dig {s : Sto} {d : ByteArray} (h : (filD s.files d).kind ≠ 0) : (filD s.files d).dig = d := by
 cases hf : fileOf s.files d with
 | none => exact absurd (by unfold filD; rw [hf]; rfl) h
 | some f =>
   have e : filD s.files d = f := by unfold filD; rw [hf]; rfl
   rw [e]
   exact eq_iff.1 (find_mem hf).2
end St
theorem needed_is (s : Sto) (a : StA) (mb : Nat) (d : ByteArray) (w : World) (hI : StIn w s a) (hM : FMap w mb s.files) (r : St.Right s) (hd : d.size ≤ 9223372036854775807) :
  Calls Tryz.prog 171 #[.agg #[.int .i64 s.least, .int .i64 s.wait, .slice a.ta s.tiers.length a.tc, .slice a.fa s.files.length a.fc, .slice a.ca s.copies.length a.cc, .slice a.ha s.held.length a.hc, .slice a.ba s.bin.length a.bc, .map (some mb)], .string d] w fun e w' => e = .returned (.bool (St.neededD s d)) ∧ Below w.heap.size w w' := by
 obtain ⟨W1, hW1, hP, hz1, hB1⟩ := box w #[.int .i64 s.least, .int .i64 s.wait, .slice a.ta s.tiers.length a.tc, .slice a.fa s.files.length a.fc, .slice a.ca s.copies.length a.cc, .slice a.ha s.held.length a.hc, .slice a.ba s.bin.length a.bc, .map (some mb)] 135
 have HW1 := Lib.hid hW1; have HB1 := Lib.hid hB1
 have q7 : W1.cell? ⟨w.heap.size, 7, none⟩ = some (.map (some mb)) := hP.eight.2.2.2.2.2.2.2
 obtain ⟨f, hlk, hf⟩ := FMap.kind (hM.keep hB1) r.fup hd
 obtain ⟨W2, hW2, hX, hz2, hB2⟩ := box W1 #[.string f.dig, .int .i64 f.size, .int .i64 f.kind, .string f.frm] 30
 have HW2 := Lib.hid hW2
 have HBB := Lib.hid (below_up hB1 hB2)
 have hnd : St.neededD s d = if f.kind = 1 then St.kept s d else if f.kind = 2 then St.kept s f.frm else false := by
  rw [St.neededD_eq, ← hf]
  by_cases h1 : f.kind = 1
  ·rw [if_pos h1, if_pos h1, hf, St.fil_dig (by rw [← hf]; omega)]
  ·rw [if_neg h1, if_neg h1]
 have HND := Lib.hid hnd
 obtain ⟨_, y1, y2, y3, y4, y5⟩ := St.sizes_iff.1 r.sizes
 have HHR := Lib.hid (fun V => held_is s a V)
 have HBR := Lib.hid (fun V => binRow_is s a V)
 have HHS := Lib.hid (fun V (hv : Below W2.heap.size W2 V) k => hasS_is s.held r.hup (by omega) k a.ha a.hc V hI.hl ((hI.he.keep HBB.out).keep hv))
 have HBS := Lib.hid (fun V (hv : Below W2.heap.size W2 V) k => hasG_is s.bin r.bup (by omega) k a.ba a.bc V hI.bl ((hI.bi.keep HBB.out).keep hv))
 have HVC : Hid (∀ V, Below W2.heap.size W2 V → V.cell? ⟨w.heap.size, 0, none⟩ = some (.int .i64 s.least) ∧ V.cell? ⟨w.heap.size, 1, none⟩ = some (.int .i64 s.wait) ∧ V.cell? ⟨w.heap.size, 2, none⟩ = some (.slice a.ta s.tiers.length a.tc) ∧ V.cell? ⟨w.heap.size, 3, none⟩ = some (.slice a.fa s.files.length a.fc) ∧ V.cell? ⟨w.heap.size, 4, none⟩ = some (.slice a.ca s.copies.length a.cc) ∧ V.cell? ⟨w.heap.size, 5, none⟩ = some (.slice a.ha s.held.length a.hc) ∧ V.cell? ⟨w.heap.size, 6, none⟩ = some (.slice a.ba s.bin.length a.bc) ∧ V.cell? ⟨w.heap.size, 7, none⟩ = some (.map (some mb))) := Lib.hid fun V hv => ((hP.keep hB2).keep hv).eight
 have HUC : Hid (∀ V, Below W2.heap.size W2 V → V.cell? ⟨W1.heap.size, 3, none⟩ = some (.string f.frm)) := Lib.hid fun V hv => ((hX.keep hv).four).2.2.2
 obtain ⟨p0, p1, p2, p3, p4, p5, p6, p7⟩ := (hP.keep hB2).eight
 obtain ⟨x0, x1, x2, x3⟩ := hX.four
 clear hI hM r hW1 hP hz1 hB1 hW2 hX hz2 hB2 hf hnd
 go_enter Tryz.func171, Tryz.ntmps171
 go_wp2_with fail
 rw [HW1.out]
 go_upto_region 2 with fail
 rw [hlk]
 go_upto_region 2 with fail
 rw [HW2.out]
 clear q7 hlk
 by_cases hk1 : f.kind = 1
 ·have hkb : (f.kind == 1) = true := by simpa using hk1
  have hnd := HND.out
  rw [if_pos hk1, St.kept_eq] at hnd
  have HH := Lib.hid (fun V hv => HHS.out V hv d)
  have HG := Lib.hid (fun V hv => HBS.out V hv d)
  generalize St.hasS s.held d = b1 at *
  generalize St.hasK St.gdig s.bin d = b2 at *
  have HN := Lib.hid hnd
  clear hnd
  generalize f.kind = kd at *
  subst hk1
  cases b1
  all_goals
   go_wp2_with (first
    | (go_at_call 58; (with_reducible refine (HHR.out _).mono ?_); rintro e w3 ⟨rfl, hB3⟩)
    | (go_at_call 63; (with_reducible refine (HH.out _ hB3).mono ?_); rintro e w4 ⟨rfl, hB4⟩; have hv4 := below_up hB3 hB4; obtain ⟨p0, p1, p2, p3, p4, p5, p6, p7⟩ := HVC.out _ hv4)
    | (go_at_call 60; (with_reducible refine (HBR.out _).mono ?_); rintro e w5 ⟨rfl, hB5⟩; have hv5 := below_up hv4 hB5)
    | (go_at_call 62; (with_reducible refine (HG.out _ hv5).mono ?_); rintro e w6 ⟨rfl, hB6⟩; have hv4 := below_up hv5 hB6))
   go_ret
   exact ⟨ret_bool (by rw [HN.out]; rfl), below_up HBB.out hv4⟩
 ·have hkb : (f.kind == 1) = false := by simpa using hk1
  by_cases hk2 : f.kind = 2
  ·have hkc : (f.kind == 2) = true := by simpa using hk2
   have hnd := HND.out
   rw [if_neg hk1, if_pos hk2, St.kept_eq] at hnd
   have HH := Lib.hid (fun V hv => HHS.out V hv f.frm)
   have HG := Lib.hid (fun V hv => HBS.out V hv f.frm)
   generalize St.hasS s.held f.frm = b1 at *
   generalize St.hasK St.gdig s.bin f.frm = b2 at *
   have HN := Lib.hid hnd
   clear hnd hk1
   generalize f.kind = kd at *
   subst hk2
   have HRH := Lib.hid (fun d os => Calls.regrown_of (HHR.out (grow (redrawn W2 d) os)))
   have HRB := Lib.hid (fun d os => Calls.regrown_of (HBR.out (grow (redrawn W2 d) os)))
   have HRS := Lib.hid (fun d os => Calls.regrown_of (HH.out (grow (redrawn W2 d) os) (below_regrown W2 d os)))
   have HRG := Lib.hid (fun d os => Calls.regrown_of (HG.out (grow (redrawn W2 d) os) (below_regrown W2 d os)))
   go_upto_region 6 with fail
   have k0 := cell_regrown p0
   have k1 := cell_regrown p1
   have k2 := cell_regrown p2
   have k3 := cell_regrown p3
   have k4 := cell_regrown p4
   have k5 := cell_regrown p5
   have k6 := cell_regrown p6
   have k7 := cell_regrown x3
   clear p0 p1 p2 p3 p4 p5 p6 p7 x0 x1 x2 x3
   cases b1
   all_goals
    refine wp_region_quiet_below (by kernel_rfl) (by kernel_rfl) ?_
    repeat (go_big_quiet_step ((first | (go_at_call 58; with_reducible exact HRH.out _ _) | (go_at_call 60; with_reducible exact HRB.out _ _) | (go_at_call 63; with_reducible exact HRS.out _ _) | (go_at_call 62; with_reducible exact HRG.out _ _))))
    refine wpQuiet_nil ?_
    intro _ hw'
    obtain ⟨⟨dq, osq⟩, hw''⟩ := hw'
    subst hw''
    have hBw9 := below_regrown W2 dq osq
    generalize grow (redrawn W2 dq) osq = w9 at *
    clear dq osq
    go_wp2_with fail
    go_ret
    exact ⟨ret_bool (by rw [HN.out]; rfl), below_up HBB.out hBw9⟩
  ·have hkc : (f.kind == 2) = false := by simpa using hk2
   have hnd := HND.out
   rw [if_neg hk1, if_neg hk2] at hnd
   have HN := Lib.hid hnd
   clear hnd
   go_wp2_with fail
   go_ret
   exact ⟨ret_bool (by rw [HN.out]), HBB.out⟩
theorem before_is (x y : Cop) (w : World) :
  Calls Tryz.prog 77 #[.agg #[.string x.dig, .string x.tier, .bool x.good, .int .i64 x.asked], .agg #[.string y.dig, .string y.tier, .bool y.good, .int .i64 y.asked]] w fun e w' => e = .returned (.bool (St.ahead x y)) ∧ Below w.heap.size w w' := by
 obtain ⟨W1, hW1, hP, hz1, hB1⟩ := box w #[.string x.dig, .string x.tier, .bool x.good, .int .i64 x.asked] 74
 obtain ⟨W2, hW2, hQ, hz2, hB2⟩ := box W1 #[.string y.dig, .string y.tier, .bool y.good, .int .i64 y.asked] 74
 have HW1 := Lib.hid hW1; have HW2 := Lib.hid hW2
 have HBB := Lib.hid (below_up hB1 hB2)
 have hP2 := hP.keep hB2
 rw [hz1] at hQ
 have d0 : W2.cell? ⟨w.heap.size, 0, none⟩ = some (.string x.dig) := (hP2.cell 0).trans rfl
 have d1 : W2.cell? ⟨w.heap.size, 1, none⟩ = some (.string x.tier) := (hP2.cell 1).trans rfl
 have e0 : W2.cell? ⟨w.heap.size + 1, 0, none⟩ = some (.string y.dig) := (hQ.cell 0).trans rfl
 have e1 : W2.cell? ⟨w.heap.size + 1, 1, none⟩ = some (.string y.tier) := (hQ.cell 1).trans rfl
 have HV : Hid (St.ahead x y = (Op.bytesLess x.dig.toList y.dig.toList || (x.dig.toList == y.dig.toList && Op.bytesLess x.tier.toList y.tier.toList))) := Lib.hid rfl
 obtain ⟨a1, h1⟩ : ∃ a1, Op.bytesLess x.dig.toList y.dig.toList = a1 := ⟨_, rfl⟩
 obtain ⟨a2, h2⟩ : ∃ a2, (x.dig.toList == y.dig.toList) = a2 := ⟨_, rfl⟩
 obtain ⟨a3, h3⟩ : ∃ a3, Op.bytesLess x.tier.toList y.tier.toList = a3 := ⟨_, rfl⟩
 rw [h1, h2, h3] at HV
 clear hW1 hW2 hP hP2 hQ hB1 hB2 hz1 hz2
 cases a1 <;> cases a2 <;> cases a3 <;>
  (go_enter Tryz.func77, Tryz.ntmps77
   go_wp2_with fail
   rw [HW1.out, HW2.out]
   go_wp2_with fail
   go_ret
   exact ⟨ret_bool (by rw [HV.out]; rfl), HBB.out⟩)
namespace St
def faultE (f : Fil) : Int := if Fd.fileB f.dig = true then fileR f else 1
end St
theorem fileFault_is (x : Fil) (hz : x.dig.size ≤ 9223372036854775807) (w : World) :
  Calls Tryz.prog 74 #[.agg #[.string x.dig, .int .i64 x.size, .int .i64 x.kind, .string x.frm]] w fun e w' => e = .returned (.int .i64 (St.faultE x)) ∧ Below w.heap.size w w' := by
 obtain ⟨W3, hW3, hX3, hz3, hB3⟩ := box w #[.string x.dig, .int .i64 x.size, .int .i64 x.kind, .string x.frm] 30
 have HW3 := Lib.hid hW3; have HB3 := Lib.hid hB3
 have d0 : W3.cell? ⟨w.heap.size, 0, none⟩ = some (.string x.dig) := (hX3.cell 0).trans rfl
 have d1 : W3.cell? ⟨w.heap.size, 1, none⟩ = some (.int .i64 x.size) := (hX3.cell 1).trans rfl
 have d2 : W3.cell? ⟨w.heap.size, 2, none⟩ = some (.int .i64 x.kind) := (hX3.cell 2).trans rfl
 have d3 : W3.cell? ⟨w.heap.size, 3, none⟩ = some (.string x.frm) := (hX3.cell 3).trans rfl
 have HDG := Lib.hid (isDigest_is x.dig hz _ rfl W3)
 have HO1 := Lib.hid (fun W => inS_is x.size 0 1000000000 W)
 have HO2 := Lib.hid (fun W => inS_is x.kind 1 3 W)
 obtain ⟨q, hq⟩ : ∃ q, St.faultE x = q := ⟨_, rfl⟩
 rw [hq]
 unfold St.faultE St.fileR at hq
 clear hW3 hX3 hB3 hz3 hz
 generalize Fd.fileB x.dig = bd at *
 generalize St.inB x.size 0 1000000000 = b1 at *
 generalize St.inB x.kind 1 3 = b2 at *
 cases bd
 ·have HQ := Lib.hid hq
  clear hq
  go_enter Tryz.func74, Tryz.ntmps74
  go_wp2_with fail
  rw [HW3.out]
  go_wp2_with (first | (go_at_call 73; (with_reducible refine HDG.out.mono ?_); rintro e w4 ⟨rfl, rfl⟩) | (go_at_call 70; first | ((with_reducible refine (HO1.out _).mono ?_); rintro e w4 ⟨rfl, rfl⟩) | ((with_reducible refine (HO2.out _).mono ?_); rintro e w4 ⟨rfl, rfl⟩)))
  go_ret
  exact ⟨ret_int (by rw [← HQ.out]; rfl), HB3.out⟩
 cases b1
 ·have HQ := Lib.hid hq
  clear hq
  go_enter Tryz.func74, Tryz.ntmps74
  go_wp2_with fail
  rw [HW3.out]
  go_wp2_with (first | (go_at_call 73; (with_reducible refine HDG.out.mono ?_); rintro e w4 ⟨rfl, rfl⟩) | (go_at_call 70; first | ((with_reducible refine (HO1.out _).mono ?_); rintro e w4 ⟨rfl, rfl⟩) | ((with_reducible refine (HO2.out _).mono ?_); rintro e w4 ⟨rfl, rfl⟩)))
  go_ret
  exact ⟨ret_int (by rw [← HQ.out]; rfl), HB3.out⟩
 cases b2
 ·have HQ := Lib.hid hq
  clear hq
  go_enter Tryz.func74, Tryz.ntmps74
  go_wp2_with fail
  rw [HW3.out]
  go_wp2_with (first | (go_at_call 73; (with_reducible refine HDG.out.mono ?_); rintro e w4 ⟨rfl, rfl⟩) | (go_at_call 70; first | ((with_reducible refine (HO1.out _).mono ?_); rintro e w4 ⟨rfl, rfl⟩) | ((with_reducible refine (HO2.out _).mono ?_); rintro e w4 ⟨rfl, rfl⟩)))
  go_ret
  exact ⟨ret_int (by rw [← HQ.out]; rfl), HB3.out⟩
 by_cases hk : x.kind = 1
 ·have hk2 : (x.kind == 1) = true := by simpa using hk
  cases he : x.frm.toList.isEmpty
  ·have HQ : Hid ((1 : Int) = q) := Lib.hid (by rw [← hq, if_pos rfl, if_pos rfl, if_pos rfl, if_pos ⟨hk, he⟩])
   clear hq hk
   go_enter Tryz.func74, Tryz.ntmps74
   go_wp2_with fail
   rw [HW3.out]
   go_wp2_with (first | (go_at_call 73; (with_reducible refine HDG.out.mono ?_); rintro e w4 ⟨rfl, rfl⟩) | (go_at_call 70; first | ((with_reducible refine (HO1.out _).mono ?_); rintro e w4 ⟨rfl, rfl⟩) | ((with_reducible refine (HO2.out _).mono ?_); rintro e w4 ⟨rfl, rfl⟩)))
   go_ret
   exact ⟨ret_int HQ.out, HB3.out⟩
  ·have HQ : Hid ((0 : Int) = q) := Lib.hid (by rw [← hq, if_pos rfl, if_pos rfl, if_pos rfl, if_neg (by rintro ⟨_, g⟩; rw [he] at g; cases g)])
   clear hq hk
   go_enter Tryz.func74, Tryz.ntmps74
   go_wp2_with fail
   rw [HW3.out]
   go_wp2_with (first | (go_at_call 73; (with_reducible refine HDG.out.mono ?_); rintro e w4 ⟨rfl, rfl⟩) | (go_at_call 70; first | ((with_reducible refine (HO1.out _).mono ?_); rintro e w4 ⟨rfl, rfl⟩) | ((with_reducible refine (HO2.out _).mono ?_); rintro e w4 ⟨rfl, rfl⟩)))
   go_ret
   exact ⟨ret_int HQ.out, HB3.out⟩
 ·have hk2 : (x.kind == 1) = false := by simpa using hk
  have HQ : Hid ((0 : Int) = q) := Lib.hid (by rw [← hq, if_pos rfl, if_pos rfl, if_pos rfl, if_neg (by rintro ⟨g, _⟩; exact hk g)])
  clear hq
  go_enter Tryz.func74, Tryz.ntmps74
  go_wp2_with fail
  rw [HW3.out]
  go_wp2_with (first | (go_at_call 73; (with_reducible refine HDG.out.mono ?_); rintro e w4 ⟨rfl, rfl⟩) | (go_at_call 70; first | ((with_reducible refine (HO1.out _).mono ?_); rintro e w4 ⟨rfl, rfl⟩) | ((with_reducible refine (HO2.out _).mono ?_); rintro e w4 ⟨rfl, rfl⟩)))
  go_ret
  exact ⟨ret_int HQ.out, HB3.out⟩
theorem idxS_is (L : List ByteArray) (sa : Option Addr) (sc : Nat) (z : ByteArray) (w : World) (hr : RowE St.eS w sa L) (hl : L.length ≤ sc ∧ sc ≤ 9223372036854775807) :
  Calls Tryz.prog 130 #[.slice sa L.length sc, .string z] w fun e w' => (∃ r : Int, e = .returned (.int .i64 r) ∧ (0 ≤ r ↔ St.hasS L z = true)) ∧ w = w' := by
 have HR := Lib.hid hr
 have HQ : Hid (∀ r : Int, (0 ≤ r ↔ (L.drop 0).any (fun x => St.eq x z) = true) → (0 ≤ r ↔ St.hasS L z = true)) := Lib.hid fun r h => h
 obtain ⟨n, hn⟩ : ∃ n, L.length = n := ⟨_, rfl⟩
 have HN := Lib.hid hn
 rw [hn] at hl ⊢
 clear hr hn
 go_enter Tryz.func130, Tryz.ntmps130
 go_wp2_with fail
 go_loopg [8] n (fun gk i wr => ∃ j : Nat, j ≤ n ∧ gk = n - j ∧ i = .int .i64 j ∧ (∀ r : Int, (0 ≤ r ↔ (L.drop j).any (fun x => St.eq x z) = true) → (0 ≤ r ↔ St.hasS L z = true)) ∧ w = wr)
 case atStart => exact ⟨0, by omega, rfl, rfl, HQ.out, rfl⟩
 case round =>
  obtain ⟨j, hj, rfl, rfl, hs, rfl⟩ := hrel
  have HSC := Lib.hid hs; clear hs
  by_cases hlt : j < n
  ·obtain ⟨x, hx⟩ : ∃ x, L[j]? = some x := ⟨_, List.getElem?_eq_getElem (by rw [HN.out]; exact hlt)⟩
   obtain ⟨b, off, ha, hb, hcell⟩ := HR.out (by rw [HN.out]; omega)
   have c0 : w.cell? ⟨b, off + j, none⟩ = some (.string x) := by
    have := hcell j x hx 0 (.string x) rfl
    rw [show off + j * St.eS.k + 0 = off + j by simp [St.eS]] at this
    exact this
   have HX : Hid (L.drop j = x :: L.drop (j + 1)) := Lib.hid (by
    obtain ⟨h1, h2⟩ := List.getElem?_eq_some_iff.1 hx
    rw [List.drop_eq_getElem_cons h1, h2])
   have hj0 : (0 : Int) ≤ (j : Int) := by omega
   have hj1 : (j : Int) < (n : Int) := by omega
   obtain ⟨bq, hbq⟩ : ∃ bq, (x.toList == z.toList) = bq := ⟨_, rfl⟩
   obtain ⟨bq2, hbq2⟩ : ∃ bq, (z.toList == x.toList) = bq := ⟨_, rfl⟩
   have hbe : bq2 = bq := by
    rw [← hbq, ← hbq2, Bool.eq_iff_iff, beq_iff_eq, beq_iff_eq]
    exact eq_comm
   subst hbe
   have HBQ : Hid (St.eq x z = bq2) := Lib.hid hbq
   rw [ha]
   clear hcell hx
   cases bq2
   ·have HNX : Hid (∀ r : Int, (0 ≤ r ↔ (L.drop (j + 1)).any (fun x => St.eq x z) = true) → (0 ≤ r ↔ St.hasS L z = true)) := Lib.hid fun r h => HSC.out r (by rw [HX.out, List.any_cons, HBQ.out, Bool.false_or]; exact h)
    go_wp2_with fail
    rw [← ha]
    go_roundg (n - (j + 1))
    case rel => exact ⟨j + 1, by omega, rfl, by go_num, HNX.out, rfl⟩
    case measure => omega
   ·go_wp2_with fail
    go_ret
    exact ⟨⟨_, rfl, HSC.out _ (by rw [HX.out, List.any_cons, HBQ.out, Bool.true_or]; exact ⟨fun _ => rfl, fun _ => by omega⟩)⟩, rfl⟩
  ·obtain rfl : j = n := by omega
   go_wp2_with fail
   go_ret
   exact ⟨⟨_, rfl, HSC.out _ (by rw [List.drop_eq_nil_of_le (by rw [HN.out]; exact Nat.le_refl _)]; simp)⟩, rfl⟩
theorem containsS_is (L : List ByteArray) (sa : Option Addr) (sc : Nat) (z : ByteArray) (w : World) (hr : RowE St.eS w sa L) (hl : L.length ≤ sc ∧ sc ≤ 9223372036854775807) :
  Calls Tryz.prog 49 #[.slice sa L.length sc, .string z] w fun e w' => e = .returned (.bool (St.hasS L z)) ∧ w = w' := by
 have HC := Lib.hid (idxS_is L sa sc z w hr hl)
 go_enter Tryz.func49, Tryz.ntmps49
 go_wp2_with (go_at_call 130; (with_reducible refine HC.out.mono ?_); rintro e w4 ⟨⟨r, rfl, hr2⟩, rfl⟩)
 go_ret
 refine ⟨ret_bool ?_, rfl⟩
 rw [Bool.eq_iff_iff, ← hr2]

theorem keptGEq_is (x : Gon) (z : ByteArray) (bk : Nat) (t : TypeId) (w : World) (hs : Blk w bk #[.string z] t) :
  Calls Tryz.prog 181 #[.agg #[.string x.dig, .int .i64 x.day], .pointer (some ⟨bk, 0, none⟩)] w fun e w' => e = .returned (.bool (x.dig.toList == z.toList)) ∧ Below w.heap.size w w' := by
 obtain ⟨W1, hW1, hA, hz1, hB1⟩ := box w #[.string x.dig, .int .i64 x.day] 112
 have HW1 := Lib.hid hW1
 have a0 : W1.cell? ⟨w.heap.size, 0, none⟩ = some (.string x.dig) := (hA.cell 0).trans rfl
 have b0 := (hs.keep hB1).one
 clear hW1 hz1
 go_enter Tryz.func181, Tryz.ntmps181
 go_upto_region 1 with fail
 rw [HW1.out]
 go_wp2_with fail
 go_ret
 exact ⟨rfl, hB1⟩
theorem keptG_enters : ∀ args w, (callFunc 181 args).run Tryz.prog w = .ok (.enter 181 args) w := enters_of Tryz.func181 (by kernel_rfl) rfl
theorem keptGIdx_is (L : List Gon) (sa : Option Addr) (sc : Nat) (z : ByteArray) (bk : Nat) (t : TypeId) (w : World) (hr : RowE St.eG w sa L) (hl : L.length ≤ sc ∧ sc ≤ 9223372036854775807) (hs : Blk w bk #[.string z] t) :
  Calls Tryz.prog 156 #[.slice sa L.length sc, .func (.func 181) #[] #[.pointer (some ⟨bk, 0, none⟩)]] w fun e w' => e = .returned (.int .i64 (St.idx (fun t => St.eq t.dig z) L 0)) ∧ Below w.heap.size w w' := by
 have eg := keptG_enters
 have HR := Lib.hid hr; have HS := Lib.hid hs
 obtain ⟨q, hq⟩ : ∃ q, St.idx (fun t => St.eq t.dig z) L 0 = q := ⟨_, rfl⟩
 rw [hq]
 have HQ : Hid (St.idx (fun t => St.eq t.dig z) (L.drop 0) 0 = q) := Lib.hid hq
 obtain ⟨n, hn⟩ : ∃ n, L.length = n := ⟨_, rfl⟩
 have HN := Lib.hid hn
 rw [hn] at hl ⊢
 clear hr hs hq hn
 go_enter Tryz.func156, Tryz.ntmps156
 go_wp2_with fail
 go_loopg [8] n (fun gk i wr => ∃ j : Nat, j ≤ n ∧ gk = n - j ∧ i = .int .i64 j ∧ St.idx (fun t => St.eq t.dig z) (L.drop j) j = q ∧ Below w.heap.size w wr)
 case atStart => exact ⟨0, by omega, rfl, rfl, HQ.out, Below.refl _ _⟩
 case round =>
  obtain ⟨j, hj, rfl, rfl, hs, hB⟩ := hrel
  have HSC := Lib.hid hs; clear hs
  by_cases hlt : j < n
  ·obtain ⟨x, hx⟩ : ∃ x, L[j]? = some x := ⟨_, List.getElem?_eq_getElem (by rw [HN.out]; exact hlt)⟩
   (obtain ⟨b, off, ha, hb, hcell⟩ := (HR.out.keep hB) (by rw [HN.out]; omega)) <;> (have c0 : wr.cell? ⟨b, off + j * 2, none⟩ = some (.string x.dig) := hcell j x hx 0 (.string x.dig) rfl) <;> (have c1 : wr.cell? ⟨b, off + j * 2 + 1, none⟩ = some (.int .i64 x.day) := hcell j x hx 1 (.int .i64 x.day) rfl) <;> (clear hcell)
   have HX := Lib.hid hx
   have HC := Lib.hid (keptGEq_is x z bk t wr (HS.out.keep hB))
   have hj0 : (0 : Int) ≤ (j : Int) := by omega
   have hj1 : (j : Int) < (n : Int) := by omega
   obtain ⟨bq, hbq⟩ : ∃ bq, (x.dig.toList == z.toList) = bq := ⟨_, rfl⟩
   rw [hbq] at HC
   have HBQ := Lib.hid hbq
   rw [ha]
   cases bq
   ·have HE := Lib.hid (St.idx_next HSC.out HX.out HBQ.out)
    clear hx hbq
    go_wp2_with (go_at_fn 181; refine HC.out.mono ?_; rintro e w4 ⟨rfl, hB4⟩)
    rw [← ha]
    go_roundg (n - (j + 1))
    case rel => exact ⟨j + 1, by omega, rfl, by go_num, HE.out, below_up hB hB4⟩
    case measure => omega
   ·have HE := Lib.hid (St.idx_here HSC.out HX.out HBQ.out)
    clear hx hbq
    go_wp2_with (go_at_fn 181; refine HC.out.mono ?_; rintro e w4 ⟨rfl, hB4⟩)
    go_ret
    exact ⟨ret_int HE.out, below_up hB hB4⟩
  ·obtain rfl : j = n := by omega
   have HE := HSC.out
   rw [← HN.out] at HE
   have HE2 := Lib.hid (St.idx_end HE)
   clear HE
   go_wp2_with fail
   go_ret
   exact ⟨ret_int HE2.out, hB⟩
theorem keptG_is (L : List Gon) (sa : Option Addr) (sc : Nat) (z : ByteArray) (bk : Nat) (t : TypeId) (w : World) (hr : RowE St.eG w sa L) (hl : L.length ≤ sc ∧ sc ≤ 9223372036854775807) (hs : Blk w bk #[.string z] t) :
  Calls Tryz.prog 85 #[.slice sa L.length sc, .func (.func 181) #[] #[.pointer (some ⟨bk, 0, none⟩)]] w fun e w' => e = .returned (.bool (decide (0 ≤ St.idx (fun t => St.eq t.dig z) L 0))) ∧ Below w.heap.size w w' := by
 have HC := Lib.hid (keptGIdx_is L sa sc z bk t w hr hl hs)
 go_enter Tryz.func85, Tryz.ntmps85
 go_wp2_with (go_at_call 156; (with_reducible refine HC.out.mono ?_); rintro e w4 ⟨rfl, hB4⟩)
 go_ret
 exact ⟨ret_bool (by first | rfl | simp), hB4⟩

theorem St.idx_any {α : Type} {p : α → Bool} (L : List α) : decide (0 ≤ St.idx p L 0) = L.any p := by
 cases h : L.any p with
 | false =>
   have : St.idx p L 0 < 0 := St.idx_neg.2 (fun x hx => by
    have := List.any_eq_false.1 h x hx
    simpa using this)
   exact decide_eq_false (by omega)
 | true =>
   obtain ⟨x, hx, hp⟩ := List.any_eq_true.1 h
   refine decide_eq_true ?_
   rcases Int.lt_or_le (St.idx p L 0) 0 with hn | hn
   ·have := St.idx_neg.1 hn x hx
    rw [hp] at this; cases this
   ·exact hn
theorem keptR_is (s : Sto) (a : StA) (d : ByteArray) (w : World) (hI : StIn w s a) :
  Calls Tryz.prog 120 #[.agg #[.int .i64 s.least, .int .i64 s.wait, .slice a.ta s.tiers.length a.tc, .slice a.fa s.files.length a.fc, .slice a.ca s.copies.length a.cc, .slice a.ha s.held.length a.hc, .slice a.ba s.bin.length a.bc], .string d] w fun e w' => e = .returned (.bool (St.kept s d)) ∧ Below w.heap.size w w' := by
 obtain ⟨W1, hW1, hP, hz1, hB1⟩ := box w #[.int .i64 s.least, .int .i64 s.wait, .slice a.ta s.tiers.length a.tc, .slice a.fa s.files.length a.fc, .slice a.ca s.copies.length a.cc, .slice a.ha s.held.length a.hc, .slice a.ba s.bin.length a.bc] 28
 have HW1 := Lib.hid hW1
 have HI1 := Lib.hid (hI.keep hB1)
 obtain ⟨q0, q1, q2, q3, q4, q5, q6⟩ := hP.sv7
 have HP := Lib.hid hP; have HB1 := Lib.hid hB1
 clear hW1 hP
 obtain ⟨W2, hW2, hX2, hz2, hB2⟩ := box W1 #[.string d] 9
 rw [hz1] at hX2
 have HW2 := Lib.hid hW2
 have HV := Lib.hid (below_up HB1.out hB2)
 have HCS := Lib.hid (containsS_is s.held a.ha a.hc d W2 ((HI1.out.keep hB2).he) hI.hl)
 have HCG := Lib.hid (keptG_is s.bin a.ba a.bc d (w.heap.size + 1) _ W2 ((HI1.out.keep hB2).bi) hI.bl hX2)
 rw [St.idx_any] at HCG
 have hkp : St.kept s d = (St.hasS s.held d || s.bin.any fun t => St.eq t.dig d) := rfl
 have HKP := Lib.hid hkp
 have b0 := hX2.one
 obtain ⟨p0, p1, p2, p3, p4, p5, p6⟩ := (HP.out.keep hB2).seven
 generalize St.hasS s.held d = h1 at *
 generalize (s.bin.any fun t => St.eq t.dig d) = h2 at *
 clear hI hW2 hX2 hz2 hB2 hkp q0 q1 q2 q3 q4 q5 q6
 go_enter Tryz.func120, Tryz.ntmps120
 go_upto_region 1 with fail
 rw [HW1.out, HW2.out]
 cases h1
 ·go_wp2_with (first
   | (go_at_call 49; (with_reducible refine HCS.out.mono ?_); rintro e w4 ⟨rfl, rfl⟩)
   | (go_at_call 85; (with_reducible refine HCG.out.mono ?_); rintro e w5 ⟨rfl, hB5⟩))
  go_ret
  exact ⟨ret_bool (by rw [HKP.out]; simp), below_up HV.out hB5⟩
 ·go_wp2_with (first
   | (go_at_call 49; (with_reducible refine HCS.out.mono ?_); rintro e w4 ⟨rfl, rfl⟩))
  go_ret
  exact ⟨ret_bool (by rw [HKP.out]; simp), HV.out⟩
theorem neededR_is (s : Sto) (a : StA) (f : Fil) (w : World) (hI : StIn w s a) :
  Calls Tryz.prog 116 #[.agg #[.int .i64 s.least, .int .i64 s.wait, .slice a.ta s.tiers.length a.tc, .slice a.fa s.files.length a.fc, .slice a.ca s.copies.length a.cc, .slice a.ha s.held.length a.hc, .slice a.ba s.bin.length a.bc], .agg #[.string f.dig, .int .i64 f.size, .int .i64 f.kind, .string f.frm]] w fun e w' => e = .returned (.bool (St.needed s f)) ∧ Below w.heap.size w w' := by
 obtain ⟨W1, hW1, hP, hz1, hB1⟩ := box w #[.int .i64 s.least, .int .i64 s.wait, .slice a.ta s.tiers.length a.tc, .slice a.fa s.files.length a.fc, .slice a.ca s.copies.length a.cc, .slice a.ha s.held.length a.hc, .slice a.ba s.bin.length a.bc] 28
 have HW1 := Lib.hid hW1
 have HI1 := Lib.hid (hI.keep hB1)
 obtain ⟨q0, q1, q2, q3, q4, q5, q6⟩ := hP.sv7
 have HP := Lib.hid hP; have HB1 := Lib.hid hB1
 clear hW1 hP
 obtain ⟨W2, hW2, hX2, hz2, hB2⟩ := box W1 #[.string f.dig, .int .i64 f.size, .int .i64 f.kind, .string f.frm] 30
 rw [hz1] at hX2
 have HW2 := Lib.hid hW2
 have HV := Lib.hid (below_up HB1.out hB2)
 have HKA := Lib.hid (keptR_is s a f.dig W2 (HI1.out.keep hB2))
 have HKB := Lib.hid (keptR_is s a f.frm W2 (HI1.out.keep hB2))
 have HND : Hid (St.needed s f = if f.kind = 1 then St.kept s f.dig else if f.kind = 2 then St.kept s f.frm else false) := Lib.hid rfl
 obtain ⟨b0, b1, b2, b3⟩ := hX2.four
 obtain ⟨p0, p1, p2, p3, p4, p5, p6⟩ := (HP.out.keep hB2).seven
 clear hI hW2 hX2 hz2 hB2 q0 q1 q2 q3 q4 q5 q6
 go_enter Tryz.func116, Tryz.ntmps116
 go_upto_region 1 with fail
 rw [HW1.out, HW2.out]
 by_cases h1 : f.kind = 1
 ·have hk1 : (f.kind == 1) = true := by simpa using h1
  have HE := HND.out
  rw [if_pos h1] at HE
  have HE := Lib.hid HE
  clear h1
  go_wp2_with (go_at_call 120; (with_reducible refine HKA.out.mono ?_); rintro e w4 ⟨rfl, hB4⟩)
  go_ret
  exact ⟨ret_bool HE.out.symm, below_up HV.out hB4⟩
 ·have hk1 : (f.kind == 1) = false := by simpa using h1
  by_cases h2 : f.kind = 2
  ·have hk2 : (f.kind == 2) = true := by simpa using h2
   have HE := HND.out
   rw [if_neg h1, if_pos h2] at HE
   have HE := Lib.hid HE
   clear h1 h2
   go_wp2_with (go_at_call 120; (with_reducible refine HKB.out.mono ?_); rintro e w4 ⟨rfl, hB4⟩)
   go_ret
   exact ⟨ret_bool HE.out.symm, below_up HV.out hB4⟩
  ·have hk2 : (f.kind == 2) = false := by simpa using h2
   have HE := HND.out
   rw [if_neg h1, if_neg h2] at HE
   have HE := Lib.hid HE
   clear h1 h2
   go_wp2_with fail
   go_ret
   exact ⟨ret_bool HE.out.symm, HV.out⟩

theorem neTir (n : ByteArray) (r c : Int) (y : Bool) (w : World) : Sem.run Tryz.prog (binOp .neq 46 (.agg #[.string n, .int .i64 r, .int .i64 c, .bool y]) (.agg #[.string n, .int .i64 r, .int .i64 c, .bool y])) w = .ok (.bool false) w := by
 have u3 := Tryz.underlying3
 have a3 := Tryz.isAgg3
 have z3 := Tryz.sizeOf3
 have u9 := Tryz.underlying9
 have a9 := Tryz.isAgg9
 have z9 := Tryz.sizeOf9
 have u4 := Tryz.underlying4
 have a4 := Tryz.isAgg4
 have z4 := Tryz.sizeOf4
 have hS : Tryz.prog.underlying 46 = some (.struct (Tryz.prog.fieldsOf 46)) := by kernel_rfl
 have hp : Tryz.prog.stoodInHeld 46 = false := by kernel_rfl
 rw [run_neq_struct, show (10000 : Nat) = 9999 + 1 from rfl, run_equalIn_agg w 9999 46 _ _ hS hp]
 simp only [Program.fieldsOf, Tryz.underlying46]
 go_simp
 try simp

theorem neFil (n : ByteArray) (r c : Int) (y : ByteArray) (w : World) : Sem.run Tryz.prog (binOp .neq 30 (.agg #[.string n, .int .i64 r, .int .i64 c, .string y]) (.agg #[.string n, .int .i64 r, .int .i64 c, .string y])) w = .ok (.bool false) w := by
 have u3 := Tryz.underlying3
 have a3 := Tryz.isAgg3
 have z3 := Tryz.sizeOf3
 have u9 := Tryz.underlying9
 have a9 := Tryz.isAgg9
 have z9 := Tryz.sizeOf9
 have u4 := Tryz.underlying4
 have a4 := Tryz.isAgg4
 have z4 := Tryz.sizeOf4
 have hS : Tryz.prog.underlying 30 = some (.struct (Tryz.prog.fieldsOf 30)) := by kernel_rfl
 have hp : Tryz.prog.stoodInHeld 30 = false := by kernel_rfl
 rw [run_neq_struct, show (10000 : Nat) = 9999 + 1 from rfl, run_equalIn_agg w 9999 30 _ _ hS hp]
 simp only [Program.fieldsOf, Tryz.underlying30]
 go_simp
 try simp

theorem neCop (n r : ByteArray) (c : Bool) (y : Int) (w : World) : Sem.run Tryz.prog (binOp .neq 74 (.agg #[.string n, .string r, .bool c, .int .i64 y]) (.agg #[.string n, .string r, .bool c, .int .i64 y])) w = .ok (.bool false) w := by
 have u3 := Tryz.underlying3
 have a3 := Tryz.isAgg3
 have z3 := Tryz.sizeOf3
 have u9 := Tryz.underlying9
 have a9 := Tryz.isAgg9
 have z9 := Tryz.sizeOf9
 have u4 := Tryz.underlying4
 have a4 := Tryz.isAgg4
 have z4 := Tryz.sizeOf4
 have hS : Tryz.prog.underlying 74 = some (.struct (Tryz.prog.fieldsOf 74)) := by kernel_rfl
 have hp : Tryz.prog.stoodInHeld 74 = false := by kernel_rfl
 rw [run_neq_struct, show (10000 : Nat) = 9999 + 1 from rfl, run_equalIn_agg w 9999 74 _ _ hS hp]
 simp only [Program.fieldsOf, Tryz.underlying74]
 go_simp
 try simp

theorem neGon (n : ByteArray) (c : Int) (w : World) : Sem.run Tryz.prog (binOp .neq 112 (.agg #[.string n, .int .i64 c]) (.agg #[.string n, .int .i64 c])) w = .ok (.bool false) w := by
 have u3 := Tryz.underlying3
 have a3 := Tryz.isAgg3
 have z3 := Tryz.sizeOf3
 have u9 := Tryz.underlying9
 have a9 := Tryz.isAgg9
 have z9 := Tryz.sizeOf9
 have u4 := Tryz.underlying4
 have a4 := Tryz.isAgg4
 have z4 := Tryz.sizeOf4
 have hS : Tryz.prog.underlying 112 = some (.struct (Tryz.prog.fieldsOf 112)) := by kernel_rfl
 have hp : Tryz.prog.stoodInHeld 112 = false := by kernel_rfl
 rw [run_neq_struct, show (10000 : Nat) = 9999 + 1 from rfl, run_equalIn_agg w 9999 112 _ _ hS hp]
 simp only [Program.fieldsOf, Tryz.underlying112]
 go_simp
 try simp
theorem guardTir : Tryz.prog.eqGuardType Tryz.prog.depth 46 = false := by kernel_rfl
theorem guardFil : Tryz.prog.eqGuardType Tryz.prog.depth 30 = false := by kernel_rfl
theorem guardCop : Tryz.prog.eqGuardType Tryz.prog.depth 74 = false := by kernel_rfl
theorem guardGon : Tryz.prog.eqGuardType Tryz.prog.depth 112 = false := by kernel_rfl
theorem eqT_same (O : List Tir) (a b : Option Addr) (ca cb : Nat) (w : World) (hx : RowE St.eT w a O) (hy : RowE St.eT w b O) (hn : O.length ≤ 9223372036854775807) :
  Calls Tryz.prog 113 #[.slice a O.length ca, .slice b O.length cb] w fun e w' => e = .returned (.bool true) ∧ Below w.heap.size w w' := by
 have HX := Lib.hid hx; have HY := Lib.hid hy
 obtain ⟨n, hnn⟩ : ∃ n, O.length = n := ⟨_, rfl⟩
 have HN := Lib.hid hnn
 rw [hnn] at hn ⊢
 have hl' : ((n : Int) == (n : Int)) = true := by simp
 clear hx hy hnn
 go_enter Tryz.func113, Tryz.ntmps113
 go_wp2_with fail
 go_loopg [13] n (fun gk i wr => ∃ j : Nat, j ≤ n ∧ gk = n - j ∧ i = .int .i64 j ∧ Below w.heap.size w wr)
 case atStart => exact ⟨0, by omega, rfl, rfl, Below.refl _ _⟩
 case round =>
  obtain ⟨j, hj, rfl, rfl, hB⟩ := hrel
  by_cases hlt : j < n
  ·obtain ⟨x, hq⟩ : ∃ x, O[j]? = some x := ⟨_, List.getElem?_eq_getElem (by rw [HN.out]; exact hlt)⟩
   obtain ⟨b1, o1, ha1, hb1, hc1⟩ := HX.out.keep hB (by rw [HN.out]; omega)
   obtain ⟨b2, o2, ha2, hb2, hc2⟩ := HY.out.keep hB (by rw [HN.out]; omega)
   have c0 : wr.cell? ⟨b1, o1 + j * 4, none⟩ = some (.string x.name) := hc1 j x hq 0 (.string x.name) rfl
   have c1 : wr.cell? ⟨b1, o1 + j * 4 + 1, none⟩ = some (.int .i64 x.room) := hc1 j x hq 1 (.int .i64 x.room) rfl
   have c2 : wr.cell? ⟨b1, o1 + j * 4 + 2, none⟩ = some (.int .i64 x.cost) := hc1 j x hq 2 (.int .i64 x.cost) rfl
   have c3 : wr.cell? ⟨b1, o1 + j * 4 + 3, none⟩ = some (.bool x.away) := hc1 j x hq 3 (.bool x.away) rfl
   have d0 : wr.cell? ⟨b2, o2 + j * 4, none⟩ = some (.string x.name) := hc2 j x hq 0 (.string x.name) rfl
   have d1 : wr.cell? ⟨b2, o2 + j * 4 + 1, none⟩ = some (.int .i64 x.room) := hc2 j x hq 1 (.int .i64 x.room) rfl
   have d2 : wr.cell? ⟨b2, o2 + j * 4 + 2, none⟩ = some (.int .i64 x.cost) := hc2 j x hq 2 (.int .i64 x.cost) rfl
   have d3 : wr.cell? ⟨b2, o2 + j * 4 + 3, none⟩ = some (.bool x.away) := hc2 j x hq 3 (.bool x.away) rfl
   have hj0 : (0 : Int) ≤ (j : Int) := by omega
   have hj1 : (j : Int) < (n : Int) := by omega
   have hne := neTir x.name x.room x.cost x.away
   have hgd := guardTir
   clear hc1 hc2 hq
   rw [ha1, ha2]
   go_wp2_with fail
   go_quiet (fail)
   go_wp2_with fail
   rw [← ha1, ← ha2]
   go_roundg (n - (j + 1))
   case rel => exact ⟨j + 1, by omega, rfl, by go_num, below_drewN hB _⟩
   case measure => omega
  ·obtain rfl : j = n := by omega
   have hjn : ¬ ((j : Int) < (j : Int)) := by omega
   go_wp2_with fail
   go_ret
   exact ⟨rfl, hB⟩
theorem eqF_same (O : List Fil) (a b : Option Addr) (ca cb : Nat) (w : World) (hx : RowE St.eF w a O) (hy : RowE St.eF w b O) (hn : O.length ≤ 9223372036854775807) :
  Calls Tryz.prog 114 #[.slice a O.length ca, .slice b O.length cb] w fun e w' => e = .returned (.bool true) ∧ Below w.heap.size w w' := by
 have HX := Lib.hid hx; have HY := Lib.hid hy
 obtain ⟨n, hnn⟩ : ∃ n, O.length = n := ⟨_, rfl⟩
 have HN := Lib.hid hnn
 rw [hnn] at hn ⊢
 have hl' : ((n : Int) == (n : Int)) = true := by simp
 clear hx hy hnn
 go_enter Tryz.func114, Tryz.ntmps114
 go_wp2_with fail
 go_loopg [13] n (fun gk i wr => ∃ j : Nat, j ≤ n ∧ gk = n - j ∧ i = .int .i64 j ∧ Below w.heap.size w wr)
 case atStart => exact ⟨0, by omega, rfl, rfl, Below.refl _ _⟩
 case round =>
  obtain ⟨j, hj, rfl, rfl, hB⟩ := hrel
  by_cases hlt : j < n
  ·obtain ⟨x, hq⟩ : ∃ x, O[j]? = some x := ⟨_, List.getElem?_eq_getElem (by rw [HN.out]; exact hlt)⟩
   obtain ⟨b1, o1, ha1, hb1, hc1⟩ := HX.out.keep hB (by rw [HN.out]; omega)
   obtain ⟨b2, o2, ha2, hb2, hc2⟩ := HY.out.keep hB (by rw [HN.out]; omega)
   have c0 : wr.cell? ⟨b1, o1 + j * 4, none⟩ = some (.string x.dig) := hc1 j x hq 0 (.string x.dig) rfl
   have c1 : wr.cell? ⟨b1, o1 + j * 4 + 1, none⟩ = some (.int .i64 x.size) := hc1 j x hq 1 (.int .i64 x.size) rfl
   have c2 : wr.cell? ⟨b1, o1 + j * 4 + 2, none⟩ = some (.int .i64 x.kind) := hc1 j x hq 2 (.int .i64 x.kind) rfl
   have c3 : wr.cell? ⟨b1, o1 + j * 4 + 3, none⟩ = some (.string x.frm) := hc1 j x hq 3 (.string x.frm) rfl
   have d0 : wr.cell? ⟨b2, o2 + j * 4, none⟩ = some (.string x.dig) := hc2 j x hq 0 (.string x.dig) rfl
   have d1 : wr.cell? ⟨b2, o2 + j * 4 + 1, none⟩ = some (.int .i64 x.size) := hc2 j x hq 1 (.int .i64 x.size) rfl
   have d2 : wr.cell? ⟨b2, o2 + j * 4 + 2, none⟩ = some (.int .i64 x.kind) := hc2 j x hq 2 (.int .i64 x.kind) rfl
   have d3 : wr.cell? ⟨b2, o2 + j * 4 + 3, none⟩ = some (.string x.frm) := hc2 j x hq 3 (.string x.frm) rfl
   have hj0 : (0 : Int) ≤ (j : Int) := by omega
   have hj1 : (j : Int) < (n : Int) := by omega
   have hne := neFil x.dig x.size x.kind x.frm
   have hgd := guardFil
   clear hc1 hc2 hq
   rw [ha1, ha2]
   go_wp2_with fail
   go_quiet (fail)
   go_wp2_with fail
   rw [← ha1, ← ha2]
   go_roundg (n - (j + 1))
   case rel => exact ⟨j + 1, by omega, rfl, by go_num, below_drewN hB _⟩
   case measure => omega
  ·obtain rfl : j = n := by omega
   have hjn : ¬ ((j : Int) < (j : Int)) := by omega
   go_wp2_with fail
   go_ret
   exact ⟨rfl, hB⟩
theorem eqC_same (O : List Cop) (a b : Option Addr) (ca cb : Nat) (w : World) (hx : RowE St.eC w a O) (hy : RowE St.eC w b O) (hn : O.length ≤ 9223372036854775807) :
  Calls Tryz.prog 42 #[.slice a O.length ca, .slice b O.length cb] w fun e w' => e = .returned (.bool true) ∧ Below w.heap.size w w' := by
 have HX := Lib.hid hx; have HY := Lib.hid hy
 obtain ⟨n, hnn⟩ : ∃ n, O.length = n := ⟨_, rfl⟩
 have HN := Lib.hid hnn
 rw [hnn] at hn ⊢
 have hl' : ((n : Int) == (n : Int)) = true := by simp
 clear hx hy hnn
 go_enter Tryz.func42, Tryz.ntmps42
 go_wp2_with fail
 go_loopg [13] n (fun gk i wr => ∃ j : Nat, j ≤ n ∧ gk = n - j ∧ i = .int .i64 j ∧ Below w.heap.size w wr)
 case atStart => exact ⟨0, by omega, rfl, rfl, Below.refl _ _⟩
 case round =>
  obtain ⟨j, hj, rfl, rfl, hB⟩ := hrel
  by_cases hlt : j < n
  ·obtain ⟨x, hq⟩ : ∃ x, O[j]? = some x := ⟨_, List.getElem?_eq_getElem (by rw [HN.out]; exact hlt)⟩
   obtain ⟨b1, o1, ha1, hb1, hc1⟩ := HX.out.keep hB (by rw [HN.out]; omega)
   obtain ⟨b2, o2, ha2, hb2, hc2⟩ := HY.out.keep hB (by rw [HN.out]; omega)
   have c0 : wr.cell? ⟨b1, o1 + j * 4, none⟩ = some (.string x.dig) := hc1 j x hq 0 (.string x.dig) rfl
   have c1 : wr.cell? ⟨b1, o1 + j * 4 + 1, none⟩ = some (.string x.tier) := hc1 j x hq 1 (.string x.tier) rfl
   have c2 : wr.cell? ⟨b1, o1 + j * 4 + 2, none⟩ = some (.bool x.good) := hc1 j x hq 2 (.bool x.good) rfl
   have c3 : wr.cell? ⟨b1, o1 + j * 4 + 3, none⟩ = some (.int .i64 x.asked) := hc1 j x hq 3 (.int .i64 x.asked) rfl
   have d0 : wr.cell? ⟨b2, o2 + j * 4, none⟩ = some (.string x.dig) := hc2 j x hq 0 (.string x.dig) rfl
   have d1 : wr.cell? ⟨b2, o2 + j * 4 + 1, none⟩ = some (.string x.tier) := hc2 j x hq 1 (.string x.tier) rfl
   have d2 : wr.cell? ⟨b2, o2 + j * 4 + 2, none⟩ = some (.bool x.good) := hc2 j x hq 2 (.bool x.good) rfl
   have d3 : wr.cell? ⟨b2, o2 + j * 4 + 3, none⟩ = some (.int .i64 x.asked) := hc2 j x hq 3 (.int .i64 x.asked) rfl
   have hj0 : (0 : Int) ≤ (j : Int) := by omega
   have hj1 : (j : Int) < (n : Int) := by omega
   have hne := neCop x.dig x.tier x.good x.asked
   have hgd := guardCop
   clear hc1 hc2 hq
   rw [ha1, ha2]
   go_wp2_with fail
   go_quiet (fail)
   go_wp2_with fail
   rw [← ha1, ← ha2]
   go_roundg (n - (j + 1))
   case rel => exact ⟨j + 1, by omega, rfl, by go_num, below_drewN hB _⟩
   case measure => omega
  ·obtain rfl : j = n := by omega
   have hjn : ¬ ((j : Int) < (j : Int)) := by omega
   go_wp2_with fail
   go_ret
   exact ⟨rfl, hB⟩
theorem eqG_same (O : List Gon) (a b : Option Addr) (ca cb : Nat) (w : World) (hx : RowE St.eG w a O) (hy : RowE St.eG w b O) (hn : O.length ≤ 9223372036854775807) :
  Calls Tryz.prog 115 #[.slice a O.length ca, .slice b O.length cb] w fun e w' => e = .returned (.bool true) ∧ Below w.heap.size w w' := by
 have HX := Lib.hid hx; have HY := Lib.hid hy
 obtain ⟨n, hnn⟩ : ∃ n, O.length = n := ⟨_, rfl⟩
 have HN := Lib.hid hnn
 rw [hnn] at hn ⊢
 have hl' : ((n : Int) == (n : Int)) = true := by simp
 clear hx hy hnn
 go_enter Tryz.func115, Tryz.ntmps115
 go_wp2_with fail
 go_loopg [13] n (fun gk i wr => ∃ j : Nat, j ≤ n ∧ gk = n - j ∧ i = .int .i64 j ∧ Below w.heap.size w wr)
 case atStart => exact ⟨0, by omega, rfl, rfl, Below.refl _ _⟩
 case round =>
  obtain ⟨j, hj, rfl, rfl, hB⟩ := hrel
  by_cases hlt : j < n
  ·obtain ⟨x, hq⟩ : ∃ x, O[j]? = some x := ⟨_, List.getElem?_eq_getElem (by rw [HN.out]; exact hlt)⟩
   obtain ⟨b1, o1, ha1, hb1, hc1⟩ := HX.out.keep hB (by rw [HN.out]; omega)
   obtain ⟨b2, o2, ha2, hb2, hc2⟩ := HY.out.keep hB (by rw [HN.out]; omega)
   have c0 : wr.cell? ⟨b1, o1 + j * 2, none⟩ = some (.string x.dig) := hc1 j x hq 0 (.string x.dig) rfl
   have c1 : wr.cell? ⟨b1, o1 + j * 2 + 1, none⟩ = some (.int .i64 x.day) := hc1 j x hq 1 (.int .i64 x.day) rfl
   have d0 : wr.cell? ⟨b2, o2 + j * 2, none⟩ = some (.string x.dig) := hc2 j x hq 0 (.string x.dig) rfl
   have d1 : wr.cell? ⟨b2, o2 + j * 2 + 1, none⟩ = some (.int .i64 x.day) := hc2 j x hq 1 (.int .i64 x.day) rfl
   have hj0 : (0 : Int) ≤ (j : Int) := by omega
   have hj1 : (j : Int) < (n : Int) := by omega
   have hne := neGon x.dig x.day
   have hgd := guardGon
   clear hc1 hc2 hq
   rw [ha1, ha2]
   go_wp2_with fail
   go_quiet (fail)
   go_wp2_with fail
   rw [← ha1, ← ha2]
   go_roundg (n - (j + 1))
   case rel => exact ⟨j + 1, by omega, rfl, by go_num, below_drewN hB _⟩
   case measure => omega
  ·obtain rfl : j = n := by omega
   have hjn : ¬ ((j : Int) < (j : Int)) := by omega
   go_wp2_with fail
   go_ret
   exact ⟨rfl, hB⟩
theorem eqS_same (O : List ByteArray) (a b : Option Addr) (ca cb : Nat) (w : World) (hx : RowE St.eS w a O) (hy : RowE St.eS w b O) (hn : O.length ≤ 9223372036854775807) :
  Calls Tryz.prog 37 #[.slice a O.length ca, .slice b O.length cb] w fun e w' => e = .returned (.bool true) ∧ Below w.heap.size w w' := by
 have HX := Lib.hid hx; have HY := Lib.hid hy
 obtain ⟨n, hnn⟩ : ∃ n, O.length = n := ⟨_, rfl⟩
 have HN := Lib.hid hnn
 rw [hnn] at hn ⊢
 have hl' : ((n : Int) == (n : Int)) = true := by simp
 clear hx hy hnn
 go_enter Tryz.func37, Tryz.ntmps37
 go_wp2_with fail
 go_loopg [13] n (fun gk i wr => ∃ j : Nat, j ≤ n ∧ gk = n - j ∧ i = .int .i64 j ∧ Below w.heap.size w wr)
 case atStart => exact ⟨0, by omega, rfl, rfl, Below.refl _ _⟩
 case round =>
  obtain ⟨j, hj, rfl, rfl, hB⟩ := hrel
  by_cases hlt : j < n
  ·obtain ⟨x, hq⟩ : ∃ x, O[j]? = some x := ⟨_, List.getElem?_eq_getElem (by rw [HN.out]; exact hlt)⟩
   obtain ⟨b1, o1, ha1, hb1, hc1⟩ := HX.out.keep hB (by rw [HN.out]; omega)
   obtain ⟨b2, o2, ha2, hb2, hc2⟩ := HY.out.keep hB (by rw [HN.out]; omega)
   have c0 : wr.cell? ⟨b1, o1 + j, none⟩ = some (.string x) := by have := hc1 j x hq 0 (.string x) rfl; rw [show o1 + j * St.eS.k + 0 = o1 + j by simp [St.eS]] at this; exact this
   have d0 : wr.cell? ⟨b2, o2 + j, none⟩ = some (.string x) := by have := hc2 j x hq 0 (.string x) rfl; rw [show o2 + j * St.eS.k + 0 = o2 + j by simp [St.eS]] at this; exact this
   have hj0 : (0 : Int) ≤ (j : Int) := by omega
   have hj1 : (j : Int) < (n : Int) := by omega
   clear hc1 hc2 hq
   rw [ha1, ha2]
   go_wp2_with fail
   go_quiet (fail)
   go_wp2_with fail
   rw [← ha1, ← ha2]
   go_roundg (n - (j + 1))
   case rel => exact ⟨j + 1, by omega, rfl, by go_num, below_drewN hB _⟩
   case measure => omega
  ·obtain rfl : j = n := by omega
   have hjn : ¬ ((j : Int) < (j : Int)) := by omega
   go_wp2_with fail
   go_ret
   exact ⟨rfl, hB⟩
theorem sameStore_is (s : Sto) (a b : StA) (w : World) (hA : StIn w s a) (hB : StIn w s b) : Calls Tryz.prog 34 #[.agg #[.int .i64 s.least, .int .i64 s.wait, .slice a.ta s.tiers.length a.tc, .slice a.fa s.files.length a.fc, .slice a.ca s.copies.length a.cc, .slice a.ha s.held.length a.hc, .slice a.ba s.bin.length a.bc], .agg #[.int .i64 s.least, .int .i64 s.wait, .slice b.ta s.tiers.length b.tc, .slice b.fa s.files.length b.fc, .slice b.ca s.copies.length b.cc, .slice b.ha s.held.length b.hc, .slice b.ba s.bin.length b.bc]] w fun e w' => e = .returned (.bool true) ∧ Below w.heap.size w w' := by
 obtain ⟨W1, hW1, hP, hz1, hB1⟩ := box w #[.int .i64 s.least, .int .i64 s.wait, .slice a.ta s.tiers.length a.tc, .slice a.fa s.files.length a.fc, .slice a.ca s.copies.length a.cc, .slice a.ha s.held.length a.hc, .slice a.ba s.bin.length a.bc] 28
 obtain ⟨W2, hW2, hQ, hz2, hB2⟩ := box W1 #[.int .i64 s.least, .int .i64 s.wait, .slice b.ta s.tiers.length b.tc, .slice b.fa s.files.length b.fc, .slice b.ca s.copies.length b.cc, .slice b.ha s.held.length b.hc, .slice b.ba s.bin.length b.bc] 28
 have HW1 := Lib.hid hW1; have HW2 := Lib.hid hW2
 have hP := hP.keep hB2
 rw [hz1] at hQ
 have hBB := below_up hB1 hB2
 have HBB := Lib.hid hBB
 have HCL : Hid (∀ V, Below W2.heap.size W2 V → (V.cell? ⟨w.heap.size, 0, none⟩ = some (.int .i64 s.least) ∧ V.cell? ⟨w.heap.size, 1, none⟩ = some (.int .i64 s.wait) ∧ V.cell? ⟨w.heap.size, 2, none⟩ = some (.slice a.ta s.tiers.length a.tc) ∧ V.cell? ⟨w.heap.size, 3, none⟩ = some (.slice a.fa s.files.length a.fc) ∧ V.cell? ⟨w.heap.size, 4, none⟩ = some (.slice a.ca s.copies.length a.cc) ∧ V.cell? ⟨w.heap.size, 5, none⟩ = some (.slice a.ha s.held.length a.hc) ∧ V.cell? ⟨w.heap.size, 6, none⟩ = some (.slice a.ba s.bin.length a.bc)) ∧ V.cell? ⟨w.heap.size + 1, 0, none⟩ = some (.int .i64 s.least) ∧ V.cell? ⟨w.heap.size + 1, 1, none⟩ = some (.int .i64 s.wait) ∧ V.cell? ⟨w.heap.size + 1, 2, none⟩ = some (.slice b.ta s.tiers.length b.tc) ∧ V.cell? ⟨w.heap.size + 1, 3, none⟩ = some (.slice b.fa s.files.length b.fc) ∧ V.cell? ⟨w.heap.size + 1, 4, none⟩ = some (.slice b.ca s.copies.length b.cc) ∧ V.cell? ⟨w.heap.size + 1, 5, none⟩ = some (.slice b.ha s.held.length b.hc) ∧ V.cell? ⟨w.heap.size + 1, 6, none⟩ = some (.slice b.ba s.bin.length b.bc)) := Lib.hid fun V hv => ⟨(hP.keep hv).seven, (hQ.keep hv).seven⟩
 have IA := Lib.hid (fun V (hv : Below W2.heap.size W2 V) => hA.keep (below_up hBB hv))
 have IB := Lib.hid (fun V (hv : Below W2.heap.size W2 V) => hB.keep (below_up hBB hv))
 have t1 := hA.tl; have t2 := hA.fl; have t3 := hA.cl; have t4 := hA.hl; have t5 := hA.bl
 have HE1 := Lib.hid (fun V hv => eqT_same s.tiers a.ta b.ta a.tc b.tc V (IA.out V hv).ti (IB.out V hv).ti (by omega))
 have HE2 := Lib.hid (fun V hv => eqF_same s.files a.fa b.fa a.fc b.fc V (IA.out V hv).fi (IB.out V hv).fi (by omega))
 have HE3 := Lib.hid (fun V hv => eqC_same s.copies a.ca b.ca a.cc b.cc V (IA.out V hv).co (IB.out V hv).co (by omega))
 have HE4 := Lib.hid (fun V hv => eqS_same s.held a.ha b.ha a.hc b.hc V (IA.out V hv).he (IB.out V hv).he (by omega))
 have HE5 := Lib.hid (fun V hv => eqG_same s.bin a.ba b.ba a.bc b.bc V (IA.out V hv).bi (IB.out V hv).bi (by omega))
 clear hA hB hW1 hW2 hP hQ hz1 hz2 hB1 hB2 hBB t1 t2 t3 t4 t5
 have hv : Below W2.heap.size W2 W2 := Below.refl _ _
 obtain ⟨⟨p0, p1, p2, p3, p4, p5, p6⟩, q0, q1, q2, q3, q4, q5, q6⟩ := HCL.out _ hv
 have e1 : (s.least == s.least) = true := by simp
 have e2 : (s.wait == s.wait) = true := by simp
 go_enter Tryz.func34, Tryz.ntmps34
 go_wp2_with fail
 rw [HW1.out, HW2.out]
 go_wp2_with (first
  | (go_at_call 113; (with_reducible refine (HE1.out _ hv).mono ?_); rintro e wq ⟨rfl, hq⟩; have hv := below_up hv hq; obtain ⟨⟨p0, p1, p2, p3, p4, p5, p6⟩, q0, q1, q2, q3, q4, q5, q6⟩ := HCL.out _ hv)
  | (go_at_call 114; (with_reducible refine (HE2.out _ hv).mono ?_); rintro e wq ⟨rfl, hq⟩; have hv := below_up hv hq; obtain ⟨⟨p0, p1, p2, p3, p4, p5, p6⟩, q0, q1, q2, q3, q4, q5, q6⟩ := HCL.out _ hv)
  | (go_at_call 42; (with_reducible refine (HE3.out _ hv).mono ?_); rintro e wq ⟨rfl, hq⟩; have hv := below_up hv hq; obtain ⟨⟨p0, p1, p2, p3, p4, p5, p6⟩, q0, q1, q2, q3, q4, q5, q6⟩ := HCL.out _ hv)
  | (go_at_call 37; (with_reducible refine (HE4.out _ hv).mono ?_); rintro e wq ⟨rfl, hq⟩; have hv := below_up hv hq; obtain ⟨⟨p0, p1, p2, p3, p4, p5, p6⟩, q0, q1, q2, q3, q4, q5, q6⟩ := HCL.out _ hv)
  | (go_at_call 115; (with_reducible refine (HE5.out _ hv).mono ?_); rintro e wq ⟨rfl, hq⟩; have hv := below_up hv hq))
 go_ret
 exact ⟨rfl, below_up HBB.out hv⟩
def Sto.zero : Sto := ⟨0, 0, [], [], [], [], []⟩
def StA.zero : StA := ⟨none, 0, none, 0, none, 0, none, 0, none, 0⟩
theorem StIn.zero (w : World) : StIn w Sto.zero StA.zero :=
 ⟨RowE.nil _ _ _, RowE.nil _ _ _, RowE.nil _ _ _, RowE.nil _ _ _, RowE.nil _ _ _, ⟨Nat.le_refl _, by decide⟩, ⟨Nat.le_refl _, by decide⟩, ⟨Nat.le_refl _, by decide⟩, ⟨Nat.le_refl _, by decide⟩, ⟨Nat.le_refl _, by decide⟩, fun _ h => (by cases h), fun _ h => (by cases h), fun _ h => (by cases h), fun _ h => (by cases h), fun _ h => (by cases h)⟩
theorem became_ok (s : Sto) (a b : StA) (w : World) (hA : StIn w s a) (hB : StIn w s b) : Calls Tryz.prog 15 #[.agg #[.int .i64 s.least, .int .i64 s.wait, .slice a.ta s.tiers.length a.tc, .slice a.fa s.files.length a.fc, .slice a.ca s.copies.length a.cc, .slice a.ha s.held.length a.hc, .slice a.ba s.bin.length a.bc], .int .i64 0, .agg #[.int .i64 s.least, .int .i64 s.wait, .slice b.ta s.tiers.length b.tc, .slice b.fa s.files.length b.fc, .slice b.ca s.copies.length b.cc, .slice b.ha s.held.length b.hc, .slice b.ba s.bin.length b.bc], .int .i64 0] w fun e w' => e = .returned (.bool true) ∧ Below w.heap.size w w' := by
 obtain ⟨W1, hW1, hP, hz1, hB1⟩ := box w #[.int .i64 s.least, .int .i64 s.wait, .slice a.ta s.tiers.length a.tc, .slice a.fa s.files.length a.fc, .slice a.ca s.copies.length a.cc, .slice a.ha s.held.length a.hc, .slice a.ba s.bin.length a.bc] 28
 obtain ⟨W2, hW2, hQ, hz2, hB2⟩ := box W1 #[.int .i64 s.least, .int .i64 s.wait, .slice b.ta s.tiers.length b.tc, .slice b.fa s.files.length b.fc, .slice b.ca s.copies.length b.cc, .slice b.ha s.held.length b.hc, .slice b.ba s.bin.length b.bc] 28
 have HW1 := Lib.hid hW1; have HW2 := Lib.hid hW2
 have hP := hP.keep hB2
 rw [hz1] at hQ
 have hBB := below_up hB1 hB2
 have HBB := Lib.hid hBB
 have HSS := Lib.hid (sameStore_is s a b W2 (hA.keep hBB) (hB.keep hBB))
 obtain ⟨p0, p1, p2, p3, p4, p5, p6⟩ := hP.seven
 obtain ⟨q0, q1, q2, q3, q4, q5, q6⟩ := hQ.seven
 clear hA hB hW1 hW2 hP hQ hz1 hz2 hB1 hB2 hBB
 go_enter Tryz.func15, Tryz.ntmps15
 go_wp2_with fail
 rw [HW1.out, HW2.out]
 go_wp2_with (go_at_call 34; (with_reducible refine HSS.out.mono ?_); rintro e wq ⟨rfl, hq⟩)
 go_ret
 exact ⟨rfl, below_up HBB.out hq⟩
theorem became_err (t : Sto) (b : StA) (q : Int) (hq : q ≠ 0) (w : World) : Calls Tryz.prog 15 #[.agg #[.int .i64 0, .int .i64 0, .slice none 0 0, .slice none 0 0, .slice none 0 0, .slice none 0 0, .slice none 0 0], .int .i64 q, .agg #[.int .i64 t.least, .int .i64 t.wait, .slice b.ta t.tiers.length b.tc, .slice b.fa t.files.length b.fc, .slice b.ca t.copies.length b.cc, .slice b.ha t.held.length b.hc, .slice b.ba t.bin.length b.bc], .int .i64 q] w fun e w' => e = .returned (.bool true) ∧ Below w.heap.size w w' := by
 obtain ⟨W1, hW1, hP, hz1, hB1⟩ := box w #[.int .i64 0, .int .i64 0, .slice none 0 0, .slice none 0 0, .slice none 0 0, .slice none 0 0, .slice none 0 0] 28
 obtain ⟨W2, hW2, hQ, hz2, hB2⟩ := box W1 #[.int .i64 0, .int .i64 0, .slice none 0 0, .slice none 0 0, .slice none 0 0, .slice none 0 0, .slice none 0 0] 28
 have HW1 := Lib.hid hW1; have HW2 := Lib.hid hW2
 have hBB := below_up hB1 hB2
 have hq1 : (q != 0) = true := by simpa using hq
 have hq2 : (q == q) = true := by simp
 obtain ⟨p0, p1, p2, p3, p4, p5, p6⟩ := hP.seven
 have HBB := Lib.hid hBB
 have HSS := Lib.hid (sameStore_is Sto.zero StA.zero StA.zero W2 (StIn.zero _) (StIn.zero _))
 clear hW1 hW2 hP hQ hz2 hB1 hB2 hBB hq
 go_enter Tryz.func15, Tryz.ntmps15
 go_upto_region 1 with fail
 rw [HW1.out]
 go_wp2_with fail
 rw [HW2.out]
 go_at_call 34
 refine HSS.out.mono ?_
 rintro e wq ⟨rfl, hq⟩
 go_wp2_with fail
 go_ret
 exact ⟨rfl, below_up HBB.out hq⟩
theorem St.dsz {s : Sto} (r : St.Right s) {d : ByteArray} (h : St.kindOf s.files d = 1) : d.size = 16 := by
 obtain ⟨f, hf, _, hd, _⟩ := St.kind_mem h
 exact St.file16 r hf
theorem StOwn.cellB {w : World} {B b : Nat} {s : Sto} {a : StA} (h : StOwn w B s a) (hb : b < B) (i : Nat) (u : Value) : StOwn (w.setCell ⟨b, i, none⟩ u) B s a :=
 ⟨h.ti.next (Below.refl _ _) hb, h.fi.next (Below.refl _ _) hb, h.co.next (Below.refl _ _) hb, h.he.next (Below.refl _ _) hb, h.bi.next (Below.refl _ _) hb⟩
theorem OwnV.far {w w' : World} {B k n g : Nat} {e e' : TypeId} {v : Value} {xs : List Value} {cur : Array Value} (h : OwnV w B e k v n xs) (hg : w.heap[g]? = some (.cells cur e' (0, 0))) (hne : e ≠ e') (hw : w.grownBy w' (some g)) : OwnV w' B e k v n xs := by
 rcases h with h | ⟨g0, cap, h, hc⟩
 ·exact .inl h
 ·refine .inr ⟨g0, cap, h, hc.of_block (hw.block g0 hc.lt.2 ?_)⟩
  obtain ⟨cur0, _, h0, _⟩ := hc
  intro e2
  cases e2
  rw [hg] at h0
  cases h0
  exact hne rfl
theorem OwnV.beside {w w' : World} {B B0 k n k' m : Nat} {e e' : TypeId} {v u : Value} {xs ys : List Value} (h : OwnV w B e k v n xs) (o : OwnV w B0 e' k' u m ys) (hne : e ≠ e') (hg : w.grownBy w' u.ownBlock) : OwnV w' B e k v n xs := by
 rcases o with ⟨rfl, _, _⟩ | ⟨g, cap, rfl, hc⟩
 ·exact h.keep ⟨hg.os, hg.tape, hg.output, hg.size, fun j hj => hg.block j hj (by simp [Value.ownBlock])⟩
 ·obtain ⟨cur, _, h0, _⟩ := hc
  exact h.far h0 hne hg
theorem below_ownE {B : Nat} {a w w' : World} {v : Value} {n k : Nat} {e : TypeId} {xs : List Value} (h : Below B a w) (ho : OwnV w B e k v n xs) (hg : w.grownBy w' v.ownBlock) (hB : B ≤ w.heap.size) : Below B a w' := by
 refine h.trans ⟨hg.os, hg.tape, hg.output, hg.size, fun j hj => ?_⟩
 refine hg.block j (by omega) fun e2 => ?_
 have h1 := (ho.lt j e2.symm).1
 omega
end Go.Proofs.YthdiccdnggloiaaGreatDoor
