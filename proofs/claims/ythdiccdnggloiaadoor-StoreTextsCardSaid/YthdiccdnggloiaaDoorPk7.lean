/- Parts of the proof, no condition: StChk9. -/
import Derived.Test.YthdiccdnggloiaaDoorPk5
import Derived.Test.YthdiccdnggloiaaDoorPk6
set_option maxRecDepth 100000
set_option maxHeartbeats 8000000
set_option linter.unusedSimpArgs false
set_option linter.unusedVariables false
namespace Go.Proofs.YthdiccdnggloiaaDoor
open Go.RowKit Go.Sort Go.Shelf Go.Maps
theorem enters_ck0 : ∀ args w, (callFunc 51 args).run Tryd.prog w = .ok (.enter 51 args) w := enters_of Tryd.func51 (by kernel_rfl) rfl
theorem enters_ck1 : ∀ args w, (callFunc 52 args).run Tryd.prog w = .ok (.enter 52 args) w := enters_of Tryd.func52 (by kernel_rfl) rfl
theorem enters_ck2 : ∀ args w, (callFunc 53 args).run Tryd.prog w = .ok (.enter 53 args) w := enters_of Tryd.func53 (by kernel_rfl) rfl
theorem enters_ck3 : ∀ args w, (callFunc 54 args).run Tryd.prog w = .ok (.enter 54 args) w := enters_of Tryd.func54 (by kernel_rfl) rfl
theorem enters_ck4 : ∀ args w, (callFunc 55 args).run Tryd.prog w = .ok (.enter 55 args) w := enters_of Tryd.func55 (by kernel_rfl) rfl
theorem check_is (s : Sto) (a : StA) (w : World) (hI : StIn w s a) :
  Calls Tryd.prog 13 #[.agg #[.int .i64 s.least, .int .i64 s.wait, .slice a.ta s.tiers.length a.tc, .slice a.fa s.files.length a.fc, .slice a.ca s.copies.length a.cc, .slice a.ha s.held.length a.hc, .slice a.ba s.bin.length a.bc]] w fun e w' => e = .returned (.int .i64 (St.err s)) ∧ Below w.heap.size w w' := by
 obtain ⟨W1, hW1, hP, hz1, hB1⟩ := box w #[.int .i64 s.least, .int .i64 s.wait, .slice a.ta s.tiers.length a.tc, .slice a.fa s.files.length a.fc, .slice a.ca s.copies.length a.cc, .slice a.ha s.held.length a.hc, .slice a.ba s.bin.length a.bc] 28
 have HW1 := Lib.hid hW1
 have HI1 := Lib.hid (hI.keep hB1)
 have q0 : W1.cell? ⟨w.heap.size, 0, none⟩ = some (.int .i64 s.least) := (hP.cell 0).trans rfl
 have q1 : W1.cell? ⟨w.heap.size, 1, none⟩ = some (.int .i64 s.wait) := (hP.cell 1).trans rfl
 have q2 : W1.cell? ⟨w.heap.size, 2, none⟩ = some (.slice a.ta s.tiers.length a.tc) := (hP.cell 2).trans rfl
 have q3 : W1.cell? ⟨w.heap.size, 3, none⟩ = some (.slice a.fa s.files.length a.fc) := (hP.cell 3).trans rfl
 have q4 : W1.cell? ⟨w.heap.size, 4, none⟩ = some (.slice a.ca s.copies.length a.cc) := (hP.cell 4).trans rfl
 have q5 : W1.cell? ⟨w.heap.size, 5, none⟩ = some (.slice a.ha s.held.length a.hc) := (hP.cell 5).trans rfl
 have q6 : W1.cell? ⟨w.heap.size, 6, none⟩ = some (.slice a.ba s.bin.length a.bc) := (hP.cell 6).trans rfl
 have HP := Lib.hid hP; have HB1 := Lib.hid hB1
 clear hW1 hP
 obtain ⟨W2, hW2, hX2, hz2, hB2⟩ := box W1 #[.func (.func 51) #[] #[], .func (.func 52) #[] #[], .func (.func 53) #[] #[], .func (.func 54) #[] #[], .func (.func 55) #[] #[]] 34
 have HW2 := Lib.hid hW2; have HX2 := Lib.hid hX2
 have HBB := Lib.hid (below_up HB1.out hB2)
 have HB2 := Lib.hid hB2
 have HI := Lib.hid hI
 obtain ⟨e0, h0⟩ : ∃ e0, St.sizesE s = e0 := ⟨_, rfl⟩
 obtain ⟨e1, h1⟩ : ∃ e1, St.scan St.tierE [] s.tiers = e1 := ⟨_, rfl⟩
 obtain ⟨e2, h2⟩ : ∃ e2, St.filesE s.files = e2 := ⟨_, rfl⟩
 obtain ⟨e3, h3⟩ : ∃ e3, St.copiesE s = e3 := ⟨_, rfl⟩
 obtain ⟨e4, h4⟩ : ∃ e4, St.keptE s = e4 := ⟨_, rfl⟩
 have HF : Hid (St.err s = if e0 = 0 then (if e1 = 0 then (if e2 = 0 then (if e3 = 0 then e4 else e3) else e2) else e1) else e0) := Lib.hid (by unfold St.err; rw [h0, h1, h2, h3, h4])
 have HC0 := Lib.hid (fun W (hb : Below w.heap.size w W) => checkSizes_is s a W (HI.out.keep hb))
 have HC1 := Lib.hid (fun W (hb : Below w.heap.size w W) => checkTiers_is s a W (HI.out.keep hb))
 have HC2 := Lib.hid (fun (g0 : e0 = 0) W (hb : Below w.heap.size w W) => checkFiles_is s a W (HI.out.keep hb) (St.sizes_iff.1 (h0.trans g0)).2.2.1)
 have HC3 := Lib.hid (fun (g0 : e0 = 0) (g1 : e1 = 0) (g2 : e2 = 0) W (hb : Below w.heap.size w W) => checkCopies_is s a W (HI.out.keep hb) (h0.trans g0) (h1.trans g1) (h2.trans g2))
 have HC4 := Lib.hid (fun (g0 : e0 = 0) (g2 : e2 = 0) W (hb : Below w.heap.size w W) => checkNeeded_is s a W (HI.out.keep hb) (h0.trans g0) (St.files_ok (h2.trans g2)).2.1)
 rw [h0] at HC0; rw [h1] at HC1; rw [h2] at HC2; rw [h3] at HC3; rw [h4] at HC4
 have HCL := Lib.hid (fun W (hb : Below W2.heap.size W2 W) => HP.out.keep (below_up HB2.out hb))
 have eg0 := enters_ck0; have eg1 := enters_ck1; have eg2 := enters_ck2; have eg3 := enters_ck3; have eg4 := enters_ck4
 clear h0 h1 h2 h3 h4 hI hB2 hW2 hX2 hz2 q0 q1 q2 q3 q4 q5 q6
 go_enter Tryd.func13, Tryd.ntmps13
 go_wp2_with fail
 rw [HW1.out, HW2.out]
 go_loopg [8] 5 (fun gk i wr => ∃ j : Nat, j ≤ 5 ∧ gk = 5 - j ∧ i = .int .i64 j ∧ (1 ≤ j → e0 = 0) ∧ (2 ≤ j → e1 = 0) ∧ (3 ≤ j → e2 = 0) ∧ (4 ≤ j → e3 = 0) ∧ (5 ≤ j → e4 = 0) ∧ Below W2.heap.size W2 wr)
 case atStart => exact ⟨0, by omega, rfl, rfl, fun h => by omega, fun h => by omega, fun h => by omega, fun h => by omega, fun h => by omega, Below.refl _ _⟩
 case round =>
  obtain ⟨j, hj, rfl, rfl, r1, r2, r3, r4, r5, hB⟩ := hrel
  have R1 := Lib.hid r1; have R2 := Lib.hid r2; have R3 := Lib.hid r3; have R4 := Lib.hid r4; have R5 := Lib.hid r5
  have hk := HX2.out.keep hB
  rw [hz1] at hk
  have f0 : wr.cell? ⟨w.heap.size + 1, 0, none⟩ = some (.func (.func 51) #[] #[]) := (hk.cell 0).trans rfl
  have f1 : wr.cell? ⟨w.heap.size + 1, 1, none⟩ = some (.func (.func 52) #[] #[]) := (hk.cell 1).trans rfl
  have f2 : wr.cell? ⟨w.heap.size + 1, 2, none⟩ = some (.func (.func 53) #[] #[]) := (hk.cell 2).trans rfl
  have f3 : wr.cell? ⟨w.heap.size + 1, 3, none⟩ = some (.func (.func 54) #[] #[]) := (hk.cell 3).trans rfl
  have f4 : wr.cell? ⟨w.heap.size + 1, 4, none⟩ = some (.func (.func 55) #[] #[]) := (hk.cell 4).trans rfl
  have k := HCL.out _ hB
  have m0 : wr.cell? ⟨w.heap.size, 0, none⟩ = some (.int .i64 s.least) := (k.cell 0).trans rfl
  have m1 : wr.cell? ⟨w.heap.size, 1, none⟩ = some (.int .i64 s.wait) := (k.cell 1).trans rfl
  have m2 : wr.cell? ⟨w.heap.size, 2, none⟩ = some (.slice a.ta s.tiers.length a.tc) := (k.cell 2).trans rfl
  have m3 : wr.cell? ⟨w.heap.size, 3, none⟩ = some (.slice a.fa s.files.length a.fc) := (k.cell 3).trans rfl
  have m4 : wr.cell? ⟨w.heap.size, 4, none⟩ = some (.slice a.ca s.copies.length a.cc) := (k.cell 4).trans rfl
  have m5 : wr.cell? ⟨w.heap.size, 5, none⟩ = some (.slice a.ha s.held.length a.hc) := (k.cell 5).trans rfl
  have m6 : wr.cell? ⟨w.heap.size, 6, none⟩ = some (.slice a.ba s.bin.length a.bc) := (k.cell 6).trans rfl
  have HBC := Lib.hid (below_up HBB.out hB)
  have HBR := Lib.hid hB
  clear r1 r2 r3 r4 r5 hk k hB
  have hj4 : j = 0 ∨ j = 1 ∨ j = 2 ∨ j = 3 ∨ j = 4 ∨ j = 5 := by omega
  rcases hj4 with rfl | rfl | rfl | rfl | rfl | rfl
  ·-- checkSizes: the check; HC0.out: its contract; e0: its answer; 1: the next place
   have HCC := Lib.hid (HC0.out)
   by_cases h0 : e0 = 0
   ·have HZ := Lib.hid h0
    have hzb : (e0 != 0) = false := by simpa using h0
    clear h0
    go_wp2_with (go_at_fn 51; (with_reducible refine (HCC.out _ HBC.out).mono ?_); rintro e w5 ⟨rfl, hB5⟩)
    go_roundg (5 - 1)
    case rel => exact ⟨1, by omega, rfl, by go_num, fun hh => by first | omega | exact HZ.out | exact R1.out (by omega) | exact R2.out (by omega) | exact R3.out (by omega) | exact R4.out (by omega) | exact R5.out (by omega), fun hh => by first | omega | exact HZ.out | exact R1.out (by omega) | exact R2.out (by omega) | exact R3.out (by omega) | exact R4.out (by omega) | exact R5.out (by omega), fun hh => by first | omega | exact HZ.out | exact R1.out (by omega) | exact R2.out (by omega) | exact R3.out (by omega) | exact R4.out (by omega) | exact R5.out (by omega), fun hh => by first | omega | exact HZ.out | exact R1.out (by omega) | exact R2.out (by omega) | exact R3.out (by omega) | exact R4.out (by omega) | exact R5.out (by omega), fun hh => by first | omega | exact HZ.out | exact R1.out (by omega) | exact R2.out (by omega) | exact R3.out (by omega) | exact R4.out (by omega) | exact R5.out (by omega), below_up HBR.out hB5⟩
    case measure => omega
   ·have HZ := Lib.hid h0
    have hzb : (e0 != 0) = true := by simpa using h0
    clear h0
    go_wp2_with (go_at_fn 51; (with_reducible refine (HCC.out _ HBC.out).mono ?_); rintro e w5 ⟨rfl, hB5⟩)
    go_ret
    exact ⟨ret_int (by have z := HZ.out; rw [HF.out]; rw [if_neg z]), below_up HBC.out hB5⟩
  ·-- checkTiers: the check; HC1.out: its contract; e1: its answer; 2: the next place
   have HCC := Lib.hid (HC1.out)
   by_cases h0 : e1 = 0
   ·have HZ := Lib.hid h0
    have hzb : (e1 != 0) = false := by simpa using h0
    clear h0
    go_wp2_with (go_at_fn 52; (with_reducible refine (HCC.out _ HBC.out).mono ?_); rintro e w5 ⟨rfl, hB5⟩)
    go_roundg (5 - 2)
    case rel => exact ⟨2, by omega, rfl, by go_num, fun hh => by first | omega | exact HZ.out | exact R1.out (by omega) | exact R2.out (by omega) | exact R3.out (by omega) | exact R4.out (by omega) | exact R5.out (by omega), fun hh => by first | omega | exact HZ.out | exact R1.out (by omega) | exact R2.out (by omega) | exact R3.out (by omega) | exact R4.out (by omega) | exact R5.out (by omega), fun hh => by first | omega | exact HZ.out | exact R1.out (by omega) | exact R2.out (by omega) | exact R3.out (by omega) | exact R4.out (by omega) | exact R5.out (by omega), fun hh => by first | omega | exact HZ.out | exact R1.out (by omega) | exact R2.out (by omega) | exact R3.out (by omega) | exact R4.out (by omega) | exact R5.out (by omega), fun hh => by first | omega | exact HZ.out | exact R1.out (by omega) | exact R2.out (by omega) | exact R3.out (by omega) | exact R4.out (by omega) | exact R5.out (by omega), below_up HBR.out hB5⟩
    case measure => omega
   ·have HZ := Lib.hid h0
    have hzb : (e1 != 0) = true := by simpa using h0
    clear h0
    go_wp2_with (go_at_fn 52; (with_reducible refine (HCC.out _ HBC.out).mono ?_); rintro e w5 ⟨rfl, hB5⟩)
    go_ret
    exact ⟨ret_int (by have z := HZ.out; rw [HF.out]; rw [if_pos (R1.out (by omega)), if_neg z]), below_up HBC.out hB5⟩
  ·-- checkFiles: the check; HC2.out (R1.out (by omega)): its contract; e2: its answer; 3: the next place
   have HCC := Lib.hid (HC2.out (R1.out (by omega)))
   by_cases h0 : e2 = 0
   ·have HZ := Lib.hid h0
    have hzb : (e2 != 0) = false := by simpa using h0
    clear h0
    go_wp2_with (go_at_fn 53; (with_reducible refine (HCC.out _ HBC.out).mono ?_); rintro e w5 ⟨rfl, hB5⟩)
    go_roundg (5 - 3)
    case rel => exact ⟨3, by omega, rfl, by go_num, fun hh => by first | omega | exact HZ.out | exact R1.out (by omega) | exact R2.out (by omega) | exact R3.out (by omega) | exact R4.out (by omega) | exact R5.out (by omega), fun hh => by first | omega | exact HZ.out | exact R1.out (by omega) | exact R2.out (by omega) | exact R3.out (by omega) | exact R4.out (by omega) | exact R5.out (by omega), fun hh => by first | omega | exact HZ.out | exact R1.out (by omega) | exact R2.out (by omega) | exact R3.out (by omega) | exact R4.out (by omega) | exact R5.out (by omega), fun hh => by first | omega | exact HZ.out | exact R1.out (by omega) | exact R2.out (by omega) | exact R3.out (by omega) | exact R4.out (by omega) | exact R5.out (by omega), fun hh => by first | omega | exact HZ.out | exact R1.out (by omega) | exact R2.out (by omega) | exact R3.out (by omega) | exact R4.out (by omega) | exact R5.out (by omega), below_up HBR.out hB5⟩
    case measure => omega
   ·have HZ := Lib.hid h0
    have hzb : (e2 != 0) = true := by simpa using h0
    clear h0
    go_wp2_with (go_at_fn 53; (with_reducible refine (HCC.out _ HBC.out).mono ?_); rintro e w5 ⟨rfl, hB5⟩)
    go_ret
    exact ⟨ret_int (by have z := HZ.out; rw [HF.out]; rw [if_pos (R1.out (by omega)), if_pos (R2.out (by omega)), if_neg z]), below_up HBC.out hB5⟩
  ·-- checkCopies: the check; HC3.out (R1.out (by omega)) (R2.out (by omega)) (R3.out (by omega)): its contract; e3: its answer; 4: the next place
   have HCC := Lib.hid (HC3.out (R1.out (by omega)) (R2.out (by omega)) (R3.out (by omega)))
   by_cases h0 : e3 = 0
   ·have HZ := Lib.hid h0
    have hzb : (e3 != 0) = false := by simpa using h0
    clear h0
    go_wp2_with (go_at_fn 54; (with_reducible refine (HCC.out _ HBC.out).mono ?_); rintro e w5 ⟨rfl, hB5⟩)
    go_roundg (5 - 4)
    case rel => exact ⟨4, by omega, rfl, by go_num, fun hh => by first | omega | exact HZ.out | exact R1.out (by omega) | exact R2.out (by omega) | exact R3.out (by omega) | exact R4.out (by omega) | exact R5.out (by omega), fun hh => by first | omega | exact HZ.out | exact R1.out (by omega) | exact R2.out (by omega) | exact R3.out (by omega) | exact R4.out (by omega) | exact R5.out (by omega), fun hh => by first | omega | exact HZ.out | exact R1.out (by omega) | exact R2.out (by omega) | exact R3.out (by omega) | exact R4.out (by omega) | exact R5.out (by omega), fun hh => by first | omega | exact HZ.out | exact R1.out (by omega) | exact R2.out (by omega) | exact R3.out (by omega) | exact R4.out (by omega) | exact R5.out (by omega), fun hh => by first | omega | exact HZ.out | exact R1.out (by omega) | exact R2.out (by omega) | exact R3.out (by omega) | exact R4.out (by omega) | exact R5.out (by omega), below_up HBR.out hB5⟩
    case measure => omega
   ·have HZ := Lib.hid h0
    have hzb : (e3 != 0) = true := by simpa using h0
    clear h0
    go_wp2_with (go_at_fn 54; (with_reducible refine (HCC.out _ HBC.out).mono ?_); rintro e w5 ⟨rfl, hB5⟩)
    go_ret
    exact ⟨ret_int (by have z := HZ.out; rw [HF.out]; rw [if_pos (R1.out (by omega)), if_pos (R2.out (by omega)), if_pos (R3.out (by omega)), if_neg z]), below_up HBC.out hB5⟩
  ·-- checkNeeded: the check; HC4.out (R1.out (by omega)) (R3.out (by omega)): its contract; e4: its answer; 5: the next place
   have HCC := Lib.hid (HC4.out (R1.out (by omega)) (R3.out (by omega)))
   by_cases h0 : e4 = 0
   ·have HZ := Lib.hid h0
    have hzb : (e4 != 0) = false := by simpa using h0
    clear h0
    go_wp2_with (go_at_fn 55; (with_reducible refine (HCC.out _ HBC.out).mono ?_); rintro e w5 ⟨rfl, hB5⟩)
    go_roundg (5 - 5)
    case rel => exact ⟨5, by omega, rfl, by go_num, fun hh => by first | omega | exact HZ.out | exact R1.out (by omega) | exact R2.out (by omega) | exact R3.out (by omega) | exact R4.out (by omega) | exact R5.out (by omega), fun hh => by first | omega | exact HZ.out | exact R1.out (by omega) | exact R2.out (by omega) | exact R3.out (by omega) | exact R4.out (by omega) | exact R5.out (by omega), fun hh => by first | omega | exact HZ.out | exact R1.out (by omega) | exact R2.out (by omega) | exact R3.out (by omega) | exact R4.out (by omega) | exact R5.out (by omega), fun hh => by first | omega | exact HZ.out | exact R1.out (by omega) | exact R2.out (by omega) | exact R3.out (by omega) | exact R4.out (by omega) | exact R5.out (by omega), fun hh => by first | omega | exact HZ.out | exact R1.out (by omega) | exact R2.out (by omega) | exact R3.out (by omega) | exact R4.out (by omega) | exact R5.out (by omega), below_up HBR.out hB5⟩
    case measure => omega
   ·have HZ := Lib.hid h0
    have hzb : (e4 != 0) = true := by simpa using h0
    clear h0
    go_wp2_with (go_at_fn 55; (with_reducible refine (HCC.out _ HBC.out).mono ?_); rintro e w5 ⟨rfl, hB5⟩)
    go_ret
    exact ⟨ret_int (by have z := HZ.out; rw [HF.out]; rw [if_pos (R1.out (by omega)), if_pos (R2.out (by omega)), if_pos (R3.out (by omega)), if_pos (R4.out (by omega))]), below_up HBC.out hB5⟩
  ·have g0 := R1.out (by omega)
   have g1 := R2.out (by omega)
   have g2 := R3.out (by omega)
   have g3 := R4.out (by omega)
   have g4 := R5.out (by omega)
   have HE : Hid (St.err s = 0) := Lib.hid (by rw [HF.out, if_pos g0, if_pos g1, if_pos g2, if_pos g3, g4])
   clear g0 g1 g2 g3 g4
   go_wp2_with fail
   go_ret
   exact ⟨ret_int HE.out.symm, HBC.out⟩
end Go.Proofs.YthdiccdnggloiaaDoor
