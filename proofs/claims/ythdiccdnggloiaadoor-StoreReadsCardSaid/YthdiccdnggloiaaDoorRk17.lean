/- Parts of the proof, no condition: StRdLaw, Row2, OpenRow, OpenSt. -/
import Derived.Test.YthdiccdnggloiaaDoorRk11
import Derived.Test.YthdiccdnggloiaaDoorRk14
import Derived.Test.YthdiccdnggloiaaDoorRk16
import Derived.Test.YthdiccdnggloiaaDoorRk4
import Derived.Test.YthdiccdnggloiaaDoorRk2
import Derived.Deep.Fields23
import Derived.Deep.SlicePairs
import Derived.Deep.Slices
import Derived.ProofKit
import Derived.OpenShut
import Derived.ShutString
import Derived.ChangeOld
import Derived.SizedLaws
import Derived.Lib.SmallJoins
import Derived.Test.YthdiccdnggloiaaDoorRk3
set_option maxRecDepth 100000
set_option maxHeartbeats 8000000
set_option linter.unusedSimpArgs false
set_option linter.unusedVariables false
namespace Go.Proofs.YthdiccdnggloiaaDoor
open Go.RowKit Go.Sort Go.Shelf Go.Maps
def StOr (q : Int) (t : Sto) : Sto := if q = 0 then t else Sto.zero
def FetAny (w : World) (q : Int) (R : Sto) (F : ByteArray) (e : Ending) (w' : World) : Prop := ∃ a' : StA, e = .returned (.tuple #[.agg #[.int .i64 R.least, .int .i64 R.wait, .slice a'.ta R.tiers.length a'.tc, .slice a'.fa R.files.length a'.fc, .slice a'.ca R.copies.length a'.cc, .slice a'.ha R.held.length a'.hc, .slice a'.ba R.bin.length a'.bc], .string F, .int .i64 q]) ∧ StIn w' R a' ∧ (q ≠ 0 → a' = StA.zero) ∧ Below w.heap.size w w'
def ScrAny (w : World) (q : Int) (R : Sto) (n : Int) (e : Ending) (w' : World) : Prop := ∃ a' : StA, e = .returned (.tuple #[.agg #[.int .i64 R.least, .int .i64 R.wait, .slice a'.ta R.tiers.length a'.tc, .slice a'.fa R.files.length a'.fc, .slice a'.ca R.copies.length a'.cc, .slice a'.ha R.held.length a'.hc, .slice a'.ba R.bin.length a'.bc], .int .i64 n, .int .i64 q]) ∧ StIn w' R a' ∧ (q ≠ 0 → a' = StA.zero) ∧ Below w.heap.size w w'
theorem fet_any {w : World} {q : Int} {t : Sto} {f : ByteArray} {e : Ending} {w' : World} (h : (q ≠ 0 ∧ FetErr w q e w') ∨ (q = 0 ∧ FetOk w t f e w')) : FetAny w q (StOr q t) (if q = 0 then f else ⟨#[]⟩) e w' := by
 rcases h with ⟨hq, rfl, hb⟩ | ⟨hq, a', rfl, hi, hb⟩
 ·have e1 : StOr q t = Sto.zero := if_neg hq
  rw [e1, if_neg hq]
  exact ⟨StA.zero, rfl, StIn.zero _, fun _ => rfl, hb⟩
 ·subst hq
  exact ⟨a', rfl, hi, fun h => absurd rfl h, hb⟩
theorem scr_any {w : World} {q : Int} {t : Sto} {n : Int} {e : Ending} {w' : World} (h : (q ≠ 0 ∧ ScrErr w q e w') ∨ (q = 0 ∧ ScrOk w t n e w')) : ScrAny w q (StOr q t) (if q = 0 then n else 0) e w' := by
 rcases h with ⟨hq, rfl, hb⟩ | ⟨hq, a', rfl, hi, hb⟩
 ·have e1 : StOr q t = Sto.zero := if_neg hq
  rw [e1, if_neg hq]
  exact ⟨StA.zero, rfl, StIn.zero _, fun _ => rfl, hb⟩
 ·subst hq
  exact ⟨a', rfl, hi, fun h => absurd rfl h, hb⟩
theorem became_any (t : Sto) (q : Int) (a b : StA) (ha : q ≠ 0 → a = StA.zero) (w : World) (hA : StIn w (StOr q t) a) (hB : StIn w (StOr q t) b) : Calls Tryd.prog 8 #[.agg #[.int .i64 (StOr q t).least, .int .i64 (StOr q t).wait, .slice a.ta (StOr q t).tiers.length a.tc, .slice a.fa (StOr q t).files.length a.fc, .slice a.ca (StOr q t).copies.length a.cc, .slice a.ha (StOr q t).held.length a.hc, .slice a.ba (StOr q t).bin.length a.bc], .int .i64 q, .agg #[.int .i64 (StOr q t).least, .int .i64 (StOr q t).wait, .slice b.ta (StOr q t).tiers.length b.tc, .slice b.fa (StOr q t).files.length b.fc, .slice b.ca (StOr q t).copies.length b.cc, .slice b.ha (StOr q t).held.length b.hc, .slice b.ba (StOr q t).bin.length b.bc], .int .i64 q] w fun e w' => e = .returned (.bool true) ∧ Below w.heap.size w w' := by
 by_cases hq : q = 0
 ·subst hq
  exact became_ok _ a b w hA hB
 ·have e1 : StOr q t = Sto.zero := if_neg hq
  rw [e1, ha hq]
  exact became_err Sto.zero b q hq w
theorem storeReads_wrong (s : Sto) (a : StA) (d : ByteArray) (now : Int) (tier : ByteArray) (sa : Option Addr) (sn sc : Nat) (w : World) (hI : StIn w s a) (he : St.err s ≠ 0) :
  Calls Tryd.prog 3 #[.agg #[.int .i64 s.least, .int .i64 s.wait, .slice a.ta s.tiers.length a.tc, .slice a.fa s.files.length a.fc, .slice a.ca s.copies.length a.cc, .slice a.ha s.held.length a.hc, .slice a.ba s.bin.length a.bc], .string d, .int .i64 now, .string tier, .slice sa sn sc] w fun e w' => e = .returned (.bool true) ∧ Below w.heap.size w w' := by
 obtain ⟨W1, hW1, hP, hz1, hB1⟩ := box w #[.int .i64 s.least, .int .i64 s.wait, .slice a.ta s.tiers.length a.tc, .slice a.fa s.files.length a.fc, .slice a.ca s.copies.length a.cc, .slice a.ha s.held.length a.hc, .slice a.ba s.bin.length a.bc] 28
 have HW1 := Lib.hid hW1
 have HI1 := Lib.hid (hI.keep hB1)
 have q0 : W1.cell? ⟨w.heap.size, 0, none⟩ = some (.int .i64 s.least) := (hP.cell 0).trans rfl
 have q1 : W1.cell? ⟨w.heap.size, 1, none⟩ = some (.int .i64 s.wait) := (hP.cell 1).trans rfl
 have q2 : W1.cell? ⟨w.heap.size, 2, none⟩ = some (.slice a.ta s.tiers.length a.tc) := (hP.cell 2).trans rfl
 have q3 : W1.cell? ⟨w.heap.size, 3, none⟩ = some (.slice a.fa s.files.length a.fc) := (hP.cell 3).trans rfl
 have q4 : W1.cell? ⟨w.heap.size, 4, none⟩ = some (.slice a.ca s.copies.length a.cc) := (hP.cell 4).trans rfl
 have q5 : W1.cell? ⟨w.heap.size, 5, none⟩ = some (.slice a.ha s.held.length a.hc) := (hP.cell 5).trans rfl
 have q6 : W1.cell? ⟨w.heap.size, 6, none⟩ = some (.slice a.ba s.bin.length a.bc) := (hP.cell 6).trans rfl
 have HP := Lib.hid hP; have HB1 := Lib.hid hB1
 clear hW1 hP
 have HCL : Hid (∀ W, Below W1.heap.size W1 W → W.cell? ⟨w.heap.size, 0, none⟩ = some (.int .i64 s.least) ∧ W.cell? ⟨w.heap.size, 1, none⟩ = some (.int .i64 s.wait) ∧ W.cell? ⟨w.heap.size, 2, none⟩ = some (.slice a.ta s.tiers.length a.tc) ∧ W.cell? ⟨w.heap.size, 3, none⟩ = some (.slice a.fa s.files.length a.fc) ∧ W.cell? ⟨w.heap.size, 4, none⟩ = some (.slice a.ca s.copies.length a.cc) ∧ W.cell? ⟨w.heap.size, 5, none⟩ = some (.slice a.ha s.held.length a.hc) ∧ W.cell? ⟨w.heap.size, 6, none⟩ = some (.slice a.ba s.bin.length a.bc)) := Lib.hid fun W hb => (HP.out.keep hb).seven
 have HF := Lib.hid (fetch_wrong s a d now W1 HI1.out he)
 unfold FetErr at HF
 have HSC := Lib.hid (fun V (hv : Below W1.heap.size W1 V) => scrub_wrong s a tier sa sn sc V (HI1.out.keep hv) he)
 unfold ScrErr at HSC
 have HSE := Lib.hid (fun V (hv : Below W1.heap.size W1 V) => storeError_is s a V (HI1.out.keep hv))
 have HBE : Hid (∀ V, Calls Tryd.prog 8 #[.agg #[.int .i64 0, .int .i64 0, .slice none 0 0, .slice none 0 0, .slice none 0 0, .slice none 0 0, .slice none 0 0], .int .i64 (St.err s), .agg #[.int .i64 0, .int .i64 0, .slice none 0 0, .slice none 0 0, .slice none 0 0, .slice none 0 0, .slice none 0 0], .int .i64 (St.err s)] V fun e w' => e = .returned (.bool true) ∧ Below V.heap.size V w') := Lib.hid fun V => became_err Sto.zero StA.zero _ he V
 have hq1 : (St.err s != 0) = true := by simpa using he
 generalize St.err s = q at *
 clear hI he hz1
 go_enter Tryd.func3, Tryd.ntmps3
 go_upto_region 1 with fail
 rw [HW1.out]
 go_upto_region 2 with (go_at_call 5; (with_reducible refine HF.out.mono ?_); rintro e w2 ⟨rfl, hB2⟩)
 obtain ⟨W3, hW3, hX3, hz3, hB3⟩ := box w2 #[.int .i64 0, .int .i64 0, .slice none 0 0, .slice none 0 0, .slice none 0 0, .slice none 0 0, .slice none 0 0] 28
 have HW3 := Lib.hid hW3; have HX3 := Lib.hid hX3
 have HV3 := Lib.hid (below_up hB2 hB3)
 rw [HW3.out]
 clear hW3 hX3 hz3 hB3 q0 q1 q2 q3 q4 q5 q6
 obtain ⟨q0, q1, q2, q3, q4, q5, q6⟩ := HCL.out _ HV3.out
 go_upto_region 3 with (go_at_call 6; (with_reducible refine (HSC.out _ HV3.out).mono ?_); rintro e w4 ⟨rfl, hB4⟩)
 obtain ⟨W5, hW5, hX5, hz5, hB5⟩ := box w4 #[.int .i64 0, .int .i64 0, .slice none 0 0, .slice none 0 0, .slice none 0 0, .slice none 0 0, .slice none 0 0] 28
 have HW5 := Lib.hid hW5; have HX5 := Lib.hid hX5
 have HV35 := Lib.hid (below_up hB4 hB5)
 have HV5 := Lib.hid (below_up HV3.out HV35.out)
 rw [HW5.out]
 clear hW5 hX5 hz5 hB5 q0 q1 q2 q3 q4 q5 q6
 obtain ⟨q0, q1, q2, q3, q4, q5, q6⟩ := HCL.out _ HV5.out
 go_upto_region 5 with (go_at_call 7; (with_reducible refine (HSE.out _ HV5.out).mono ?_); rintro e w6 ⟨rfl, hB6⟩)
 obtain ⟨x0, x1, x2, x3, x4, x5, x6⟩ := (HX3.out.keep (below_up HV35.out hB6)).seven
 obtain ⟨y0, y1, y2, y3, y4, y5, y6⟩ := (HX5.out.keep hB6).seven
 go_wp2_with (go_at_call 8; (with_reducible refine (HBE.out _).mono ?_); rintro e w7 ⟨rfl, hB7⟩; first | (obtain ⟨y0, y1, y2, y3, y4, y5, y6⟩ := (HX5.out.keep (below_up hB6 hB7)).seven; have hB8 := below_up hB6 hB7) | skip)
 go_ret
 exact ⟨ret_bool (by simp), below_up HB1.out (below_up HV5.out (below_up hB8 hB7))⟩
theorem storeReads_right (s : Sto) (a : StA) (d : ByteArray) (now : Int) (tier : ByteArray) (S : List ByteArray) (sa : Option Addr) (sc : Nat) (w : World) (hI : StIn w s a) (r : St.Right s) (hd : d.size ≤ 9223372036854775807) (hS : RowE St.eS w sa S) (hsc : S.length ≤ sc ∧ sc ≤ 9223372036854775807) :
  Calls Tryd.prog 3 #[.agg #[.int .i64 s.least, .int .i64 s.wait, .slice a.ta s.tiers.length a.tc, .slice a.fa s.files.length a.fc, .slice a.ca s.copies.length a.cc, .slice a.ha s.held.length a.hc, .slice a.ba s.bin.length a.bc], .string d, .int .i64 now, .string tier, .slice sa S.length sc] w fun e w' => e = .returned (.bool true) ∧ Below w.heap.size w w' := by
 obtain ⟨W1, hW1, hP, hz1, hB1⟩ := box w #[.int .i64 s.least, .int .i64 s.wait, .slice a.ta s.tiers.length a.tc, .slice a.fa s.files.length a.fc, .slice a.ca s.copies.length a.cc, .slice a.ha s.held.length a.hc, .slice a.ba s.bin.length a.bc] 28
 have HW1 := Lib.hid hW1
 have HI1 := Lib.hid (hI.keep hB1)
 have q0 : W1.cell? ⟨w.heap.size, 0, none⟩ = some (.int .i64 s.least) := (hP.cell 0).trans rfl
 have q1 : W1.cell? ⟨w.heap.size, 1, none⟩ = some (.int .i64 s.wait) := (hP.cell 1).trans rfl
 have q2 : W1.cell? ⟨w.heap.size, 2, none⟩ = some (.slice a.ta s.tiers.length a.tc) := (hP.cell 2).trans rfl
 have q3 : W1.cell? ⟨w.heap.size, 3, none⟩ = some (.slice a.fa s.files.length a.fc) := (hP.cell 3).trans rfl
 have q4 : W1.cell? ⟨w.heap.size, 4, none⟩ = some (.slice a.ca s.copies.length a.cc) := (hP.cell 4).trans rfl
 have q5 : W1.cell? ⟨w.heap.size, 5, none⟩ = some (.slice a.ha s.held.length a.hc) := (hP.cell 5).trans rfl
 have q6 : W1.cell? ⟨w.heap.size, 6, none⟩ = some (.slice a.ba s.bin.length a.bc) := (hP.cell 6).trans rfl
 have HP := Lib.hid hP; have HB1 := Lib.hid hB1
 clear hW1 hP
 have HCL : Hid (∀ W, Below W1.heap.size W1 W → W.cell? ⟨w.heap.size, 0, none⟩ = some (.int .i64 s.least) ∧ W.cell? ⟨w.heap.size, 1, none⟩ = some (.int .i64 s.wait) ∧ W.cell? ⟨w.heap.size, 2, none⟩ = some (.slice a.ta s.tiers.length a.tc) ∧ W.cell? ⟨w.heap.size, 3, none⟩ = some (.slice a.fa s.files.length a.fc) ∧ W.cell? ⟨w.heap.size, 4, none⟩ = some (.slice a.ca s.copies.length a.cc) ∧ W.cell? ⟨w.heap.size, 5, none⟩ = some (.slice a.ha s.held.length a.hc) ∧ W.cell? ⟨w.heap.size, 6, none⟩ = some (.slice a.ba s.bin.length a.bc)) := Lib.hid fun W hb => (HP.out.keep hb).seven
 have HF := Lib.hid ((fetch_right s a d now W1 HI1.out r hd).mono fun e w' h => fet_any h)
 have HG := Lib.hid (fun V (hv : Below W1.heap.size W1 V) => (fetched_right s a d now V (HI1.out.keep hv) r).mono fun e w' h => fet_any h)
 have HSC := Lib.hid (fun V (hv : Below W1.heap.size W1 V) => (scrub_right s a tier S sa sc V (HI1.out.keep hv) r ((hS.keep HB1.out).keep hv) hsc).mono fun e w' h => scr_any h)
 have HSD := Lib.hid (fun V (hv : Below W1.heap.size W1 V) => (scrubbed_right s a tier S sa sc V (HI1.out.keep hv) r ((hS.keep HB1.out).keep hv) hsc).mono fun e w' h => scr_any h)
 have HSE := Lib.hid (fun V (hv : Below W1.heap.size W1 V) => storeError_is s a V (HI1.out.keep hv))
 rw [St.err_iff.2 r] at HSE
 have HB1A := Lib.hid (fun (x y : StA) (hx : St.fetE s d now ≠ 0 → x = StA.zero) V hA hB => became_any (St.fetS s d now) (St.fetE s d now) x y hx V hA hB)
 have HB2A := Lib.hid (fun (x y : StA) (hx : St.scrE s tier S ≠ 0 → x = StA.zero) V hA hB => became_any (St.scrS s tier S) (St.scrE s tier S) x y hx V hA hB)
 generalize St.fetE s d now = qa at *
 generalize St.scrE s tier S = qb at *
 generalize StOr qa (St.fetS s d now) = RA at *
 generalize StOr qb (St.scrS s tier S) = RB at *
 generalize (if qa = 0 then St.fetT s d else ⟨#[]⟩) = FA at *
 generalize (if qb = 0 then St.scrN s tier S else 0) = NB at *
 unfold FetAny at HF HG
 unfold ScrAny at HSC HSD
 clear hI r hS hd hz1
 go_enter Tryd.func3, Tryd.ntmps3
 go_upto_region 1 with fail
 rw [HW1.out]
 go_upto_region 2 with (go_at_call 5; (with_reducible refine HF.out.mono ?_); rintro e w2 ⟨a1, rfl, hi1, hz1, hB2⟩)
 obtain ⟨W3, hW3, hX3, _, hB3⟩ := box w2 #[.int .i64 RA.least, .int .i64 RA.wait, .slice a1.ta RA.tiers.length a1.tc, .slice a1.fa RA.files.length a1.fc, .slice a1.ca RA.copies.length a1.cc, .slice a1.ha RA.held.length a1.hc, .slice a1.ba RA.bin.length a1.bc] 28
 have HW3 := Lib.hid hW3; have HX3 := Lib.hid hX3; have HI3 := Lib.hid (hi1.keep hB3)
 have HV3 := Lib.hid (below_up hB2 hB3)
 rw [HW3.out]
 clear hW3 hX3 hB3 q0 q1 q2 q3 q4 q5 q6 hi1
 obtain ⟨q0, q1, q2, q3, q4, q5, q6⟩ := HCL.out _ HV3.out
 go_upto_region 3 with (go_at_call 6; (with_reducible refine (HSC.out _ HV3.out).mono ?_); rintro e w4 ⟨a2, rfl, hi2, hz2, hB4⟩)
 obtain ⟨W5, hW5, hX5, _, hB5⟩ := box w4 #[.int .i64 RB.least, .int .i64 RB.wait, .slice a2.ta RB.tiers.length a2.tc, .slice a2.fa RB.files.length a2.fc, .slice a2.ca RB.copies.length a2.cc, .slice a2.ha RB.held.length a2.hc, .slice a2.ba RB.bin.length a2.bc] 28
 have HW5 := Lib.hid hW5; have HX5 := Lib.hid hX5; have HI5 := Lib.hid (hi2.keep hB5)
 have HV35 := Lib.hid (below_up hB4 hB5)
 have HV5 := Lib.hid (below_up HV3.out HV35.out)
 rw [HW5.out]
 clear hW5 hX5 hB5 q0 q1 q2 q3 q4 q5 q6 hi2
 obtain ⟨q0, q1, q2, q3, q4, q5, q6⟩ := HCL.out _ HV5.out
 go_upto_region 7 with (first
  | (go_at_call 7; (with_reducible refine (HSE.out _ HV5.out).mono ?_); rintro e w6 ⟨rfl, hB6⟩; obtain ⟨q0, q1, q2, q3, q4, q5, q6⟩ := HCL.out _ (below_up HV5.out hB6))
  | (go_at_call 9; (with_reducible refine (HG.out _ (below_up HV5.out hB6)).mono ?_); rintro e w7 ⟨a3, rfl, hi3, hz3, hB7⟩))
 obtain ⟨W8, hW8, hX8, _, hB8⟩ := box w7 #[.int .i64 RA.least, .int .i64 RA.wait, .slice a3.ta RA.tiers.length a3.tc, .slice a3.fa RA.files.length a3.fc, .slice a3.ca RA.copies.length a3.cc, .slice a3.ha RA.held.length a3.hc, .slice a3.ba RA.bin.length a3.bc] 28
 have HW8 := Lib.hid hW8; have HX8 := Lib.hid hX8; have HI8 := Lib.hid (hi3.keep hB8)
 have HV58 := Lib.hid (below_up (below_up hB6 hB7) hB8)
 have HV8 := Lib.hid (below_up HV5.out HV58.out)
 rw [HW8.out]
 clear hW8 hX8 hB8 q0 q1 q2 q3 q4 q5 q6 hi3 hz3
 obtain ⟨q0, q1, q2, q3, q4, q5, q6⟩ := HCL.out _ HV8.out
 go_upto_region 8 with (go_at_call 10; (with_reducible refine (HSD.out _ HV8.out).mono ?_); rintro e w9 ⟨a4, rfl, hi4, hz4, hB9⟩)
 obtain ⟨W10, hW10, hX10, _, hB10⟩ := box w9 #[.int .i64 RB.least, .int .i64 RB.wait, .slice a4.ta RB.tiers.length a4.tc, .slice a4.fa RB.files.length a4.fc, .slice a4.ca RB.copies.length a4.cc, .slice a4.ha RB.held.length a4.hc, .slice a4.ba RB.bin.length a4.bc] 28
 have HW10 := Lib.hid hW10; have HX10 := Lib.hid hX10; have HI10 := Lib.hid (hi4.keep hB10)
 have HV810 := Lib.hid (below_up hB9 hB10)
 have HV510 := Lib.hid (below_up HV58.out HV810.out)
 have HV310 := Lib.hid (below_up HV35.out HV510.out)
 have HV10 := Lib.hid (below_up HV8.out HV810.out)
 rw [HW10.out]
 clear hW10 hX10 hB10 q0 q1 q2 q3 q4 q5 q6 hi4 hz4
 have HBA := Lib.hid (HB1A.out a1 a3 hz1 W10 (HI3.out.keep HV310.out) (HI8.out.keep HV810.out))
 have HBB := Lib.hid (fun V (hv : Below W10.heap.size W10 V) => HB2A.out a2 a4 hz2 V ((HI5.out.keep HV510.out).keep hv) (HI10.out.keep hv))
 obtain ⟨x0, x1, x2, x3, x4, x5, x6⟩ := (HX3.out.keep HV310.out).seven
 obtain ⟨y0, y1, y2, y3, y4, y5, y6⟩ := (HX8.out.keep HV810.out).seven
 have hff : (FA.toList == FA.toList) = true := by simp
 have hnn : (NB == NB) = true := by simp
 go_wp2_with (first
  | (go_at_call 8; (with_reducible refine HBA.out.mono ?_); rintro e w11 ⟨rfl, hB11⟩; obtain ⟨u0, u1, u2, u3, u4, u5, u6⟩ := (HX5.out.keep (below_up HV510.out hB11)).seven; obtain ⟨v0, v1, v2, v3, v4, v5, v6⟩ := (HX10.out.keep hB11).seven)
  | (go_at_call 8; (with_reducible refine (HBB.out _ hB11).mono ?_); rintro e w12 ⟨rfl, hB12⟩))
 go_ret
 exact ⟨ret_bool (by simp), below_up HB1.out (below_up HV10.out (below_up hB11 hB12))⟩
theorem storeReads_walk (s : Sto) (a : StA) (d : ByteArray) (now : Int) (tier : ByteArray) (S : List ByteArray) (sa : Option Addr) (sc : Nat) (w : World) (hI : StIn w s a) (hd : d.size ≤ 9223372036854775807) (hS : RowE St.eS w sa S) (hsc : S.length ≤ sc ∧ sc ≤ 9223372036854775807) :
  Calls Tryd.prog 3 #[.agg #[.int .i64 s.least, .int .i64 s.wait, .slice a.ta s.tiers.length a.tc, .slice a.fa s.files.length a.fc, .slice a.ca s.copies.length a.cc, .slice a.ha s.held.length a.hc, .slice a.ba s.bin.length a.bc], .string d, .int .i64 now, .string tier, .slice sa S.length sc] w fun e w' => e = .returned (.bool true) ∧ Below w.heap.size w w' := by
 by_cases he : St.err s = 0
 ·exact storeReads_right s a d now tier S sa sc w hI (St.err_iff.1 he) hd hS hsc
 ·exact storeReads_wrong s a d now tier sa _ sc w hI he
end Go.Proofs.YthdiccdnggloiaaDoor
namespace Go.Proofs.YthdiccdnggloiaaDoor
open Go.RowKit Go.Sort
def Row2 (w : World) (a : Option Addr) (len : Nat) (f g : Nat → Value) : Prop :=
 0 < len → ∃ b off, a = some ⟨b, off, none⟩ ∧ b < w.heap.size ∧ ∀ i, i < len → w.cell? ⟨b, off + i * 2, none⟩ = some (f i) ∧ w.cell? ⟨b, off + i * 2 + 1, none⟩ = some (g i)
theorem Row2.keep {w w' : World} {a : Option Addr} {len : Nat} {f g : Nat → Value} (h : Row2 w a len f g) (hb : Below w.heap.size w w') : Row2 w' a len f g := by
 intro hl
 obtain ⟨b, off, rfl, hlt, hc⟩ := h hl
 exact ⟨b, off, rfl, Nat.lt_of_lt_of_le hlt hb.size, fun i hi => ⟨(hb.cell (p := ⟨b, off + i * 2, none⟩) hlt).trans (hc i hi).1, (hb.cell (p := ⟨b, off + i * 2 + 1, none⟩) hlt).trans (hc i hi).2⟩⟩
end Go.Proofs.YthdiccdnggloiaaDoor
namespace Go.Proofs.YthdiccdnggloiaaDoor
open Go.ChangeShapes Go.WideShapes Go.ChangeAt Go.RowKit Go.Joins Go.Deep
section
variable {H : Type} {enc : TypeId × Value → H} {w : World} {base : Nat} {spare : Nat → Bool} {held : Bool}
theorem addr_addR (b off n : Nat) : (⟨b, off, none⟩ : Addr).add n = ⟨b, off + n, none⟩ := by unfold Addr.add; split <;> simp_all
theorem open_rowE {α : Type} (E : Enc α) (hk : 0 < E.k) (Q : α → Prop) {t e : TypeId} (ht : Tryd.prog.underlying t = some (.slice e)) (hc : Tryd.prog.cellsOf e = E.k)
  (he : ∀ n cs y, DataW.trod enc Tryd.prog w base spare held n e cs = some y → ∃ x, cs = E.cells x ∧ Q x) {v : Value} {n : Nat} {y : DataW H × List MemPlace} (hf : DataW.trod enc Tryd.prog w base spare held n t [v] = some y) :
  ∃ (a : Option Addr) (cap : Nat) (L : List α), v = .slice a L.length cap ∧ L.length ≤ cap ∧ cap ≤ 9223372036854775807 ∧ RowE E w a L ∧ ∀ x ∈ L, Q x := by
 rcases open_slice ht hf with ⟨hcs, _⟩ | ⟨x, len, cap, m, n, D, Pl, hcs, _, hl, hm, hmm, _, hx⟩
 ·simp at hcs
  subst hcs
  exact ⟨none, 0, [], rfl, by simp, by omega, RowE.nil _ _ _, fun x h => by cases h⟩
 ·simp at hcs
  subst hcs
  have hlm : len ≤ m := by rw [hmm]; split <;> omega
  have each : ∀ i, i < m → ∃ z : α, Q z ∧ ∀ (k : Nat) (u : Value), (E.cells z)[k]? = some u → w.cell? (x.add (i * E.k + k)) = some u := by
   intro i hi
   obtain ⟨cs', h1, h2⟩ := hx i hi
   rw [hc] at h1
   obtain ⟨_, hlen, hcell⟩ := World.cells?_some h1
   obtain ⟨z, hz, hq⟩ := he _ _ _ h2
   refine ⟨z, hq, fun k u hu => ?_⟩
   rw [← hz] at hu
   have hkk : k < E.k := by have := (List.getElem?_eq_some_iff.1 hu).1; omega
   have := hcell k (by omega)
   rw [Addr.add_add] at this
   rw [this, hu]
  by_cases h0 : len = 0
  ·subst h0
   exact ⟨some x, cap, [], rfl, by simp, by unfold maxLen at hm; omega, RowE.nil _ _ _, fun x h => by cases h⟩
  ·obtain ⟨z0, _⟩ := each 0 (by omega)
   obtain ⟨Z, hZ⟩ : ∃ Z : Nat → α, ∀ i, i < m → Q (Z i) ∧ ∀ (k : Nat) (u : Value), (E.cells (Z i))[k]? = some u → w.cell? (x.add (i * E.k + k)) = some u :=
    ⟨fun i => if h : i < m then Classical.choose (each i h) else z0, fun i hi => by simp only [dif_pos hi]; exact Classical.choose_spec (each i hi)⟩
   have hlen : ((List.range len).map Z).length = len := by simp
   refine ⟨some x, cap, (List.range len).map Z, by rw [hlen], by rw [hlen]; exact hl, by unfold maxLen at hm; omega, fun _ => ?_, fun u hu => ?_⟩
   ·obtain ⟨b, off, spot⟩ := x
    obtain ⟨u0, hu0⟩ : ∃ u, (E.cells (Z 0))[0]? = some u := ⟨_, List.getElem?_eq_getElem (by rw [E.len]; exact hk)⟩
    have hc0 := (hZ 0 (by omega)).2 0 u0 hu0
    have hspot : spot = none := by simpa [Addr.add] using World.cell?_spot hc0
    subst hspot
    refine ⟨b, off, rfl, by simpa [Addr.add] using World.block_lt_of_cell? w _ hc0, fun i z hz k u hu => ?_⟩
    have hi : i < len := by have := (List.getElem?_eq_some_iff.1 hz).1; omega
    rw [List.getElem?_map, List.getElem?_range hi] at hz
    obtain rfl : Z i = z := Option.some.inj hz
    have := (hZ i (by omega)).2 k u hu
    rw [addr_addR] at this
    rw [Nat.add_assoc]; exact this
   ·obtain ⟨i, hi, rfl⟩ := List.mem_map.1 hu
    exact (hZ i (by have := List.mem_range.1 hi; omega)).1
end
end Go.Proofs.YthdiccdnggloiaaDoor
namespace Go.Proofs.YthdiccdnggloiaaDoor
open Go.ChangeShapes Go.WideShapes Go.ChangeAt Go.RowKit Go.Joins Go.Deep
set_option maxRecDepth 100000
section
variable {H : Type} {enc : TypeId × Value → H} {w : World} {base : Nat} {spare : Nat → Bool} {held : Bool}
theorem some_atS {α : Type} {xs : List α} {n k : Nat} (h : xs.length = n) (hk : k < n) : ∃ y, xs[k]? = some y := ⟨_, List.getElem?_eq_getElem (by omega)⟩
theorem cellsTier : Tryd.prog.cellsOf 53 = 4 := by kernel_rfl
theorem open_tier {cs : List Value} {fuel : Nat} {y : DataW H × List MemPlace} (hf : DataW.trod enc Tryd.prog w base spare held fuel 53 cs = some y) : ∃ x : Tir, cs = St.eT.cells x ∧ (x.name.size ≤ 9223372036854775807) := by
 obtain ⟨xs, n, _, _, hl, hlen, hg⟩ := DataW.trod_struct Tryd.underlying53 hf
 have hlen : xs.length = 4 := hlen
 rw [cellsTier] at hl
 obtain ⟨c0, c1, c2, c3, rfl⟩ : ∃ c0 c1 c2 c3, cs = [c0, c1, c2, c3] := by match cs, hl with | [c0, c1, c2, c3], _ => exact ⟨c0, c1, c2, c3, rfl⟩
 obtain ⟨y0, e0⟩ := some_atS hlen (show 0 < 4 by omega)
 obtain ⟨y1, e1⟩ := some_atS hlen (show 1 < 4 by omega)
 obtain ⟨y2, e2⟩ := some_atS hlen (show 2 < 4 by omega)
 obtain ⟨y3, e3⟩ := some_atS hlen (show 3 < 4 by omega)
 have g0 : DataW.trod enc Tryd.prog w base spare held n 9 [c0] = some y0 := (hg 0 _ rfl).trans e0
 have g1 : DataW.trod enc Tryd.prog w base spare held n 3 [c1] = some y1 := (hg 1 _ rfl).trans e1
 have g2 : DataW.trod enc Tryd.prog w base spare held n 3 [c2] = some y2 := (hg 2 _ rfl).trans e2
 have g3 : DataW.trod enc Tryd.prog w base spare held n 4 [c3] = some y3 := (hg 3 _ rfl).trans e3
 clear hg hf
 obtain ⟨v0, q0, _, s0⟩ := DataW.trod_string Tryd.underlying9 g0
 obtain ⟨v1, q1, _, _⟩ := DataW.trod_int Tryd.underlying3 g1
 obtain ⟨v2, q2, _, _⟩ := DataW.trod_int Tryd.underlying3 g2
 obtain ⟨v3, q3, _⟩ := DataW.trod_bool Tryd.underlying4 g3
 simp only [List.cons.injEq, and_true] at q0 q1 q2 q3
 subst q0 q1 q2 q3
 exact ⟨⟨v0, v1, v2, v3⟩, rfl, by unfold maxLen at s0; omega⟩
theorem cellsFile : Tryd.prog.cellsOf 47 = 4 := by kernel_rfl
theorem open_file {cs : List Value} {fuel : Nat} {y : DataW H × List MemPlace} (hf : DataW.trod enc Tryd.prog w base spare held fuel 47 cs = some y) : ∃ x : Fil, cs = St.eF.cells x ∧ (x.dig.size ≤ 9223372036854775807 ∧ x.frm.size ≤ 9223372036854775807) := by
 obtain ⟨xs, n, _, _, hl, hlen, hg⟩ := DataW.trod_struct Tryd.underlying47 hf
 have hlen : xs.length = 4 := hlen
 rw [cellsFile] at hl
 obtain ⟨c0, c1, c2, c3, rfl⟩ : ∃ c0 c1 c2 c3, cs = [c0, c1, c2, c3] := by match cs, hl with | [c0, c1, c2, c3], _ => exact ⟨c0, c1, c2, c3, rfl⟩
 obtain ⟨y0, e0⟩ := some_atS hlen (show 0 < 4 by omega)
 obtain ⟨y1, e1⟩ := some_atS hlen (show 1 < 4 by omega)
 obtain ⟨y2, e2⟩ := some_atS hlen (show 2 < 4 by omega)
 obtain ⟨y3, e3⟩ := some_atS hlen (show 3 < 4 by omega)
 have g0 : DataW.trod enc Tryd.prog w base spare held n 9 [c0] = some y0 := (hg 0 _ rfl).trans e0
 have g1 : DataW.trod enc Tryd.prog w base spare held n 3 [c1] = some y1 := (hg 1 _ rfl).trans e1
 have g2 : DataW.trod enc Tryd.prog w base spare held n 3 [c2] = some y2 := (hg 2 _ rfl).trans e2
 have g3 : DataW.trod enc Tryd.prog w base spare held n 9 [c3] = some y3 := (hg 3 _ rfl).trans e3
 clear hg hf
 obtain ⟨v0, q0, _, s0⟩ := DataW.trod_string Tryd.underlying9 g0
 obtain ⟨v1, q1, _, _⟩ := DataW.trod_int Tryd.underlying3 g1
 obtain ⟨v2, q2, _, _⟩ := DataW.trod_int Tryd.underlying3 g2
 obtain ⟨v3, q3, _, s3⟩ := DataW.trod_string Tryd.underlying9 g3
 simp only [List.cons.injEq, and_true] at q0 q1 q2 q3
 subst q0 q1 q2 q3
 exact ⟨⟨v0, v1, v2, v3⟩, rfl, ⟨by unfold maxLen at s0; omega, by unfold maxLen at s3; omega⟩⟩
theorem cellsCopy : Tryd.prog.cellsOf 62 = 4 := by kernel_rfl
theorem open_copy {cs : List Value} {fuel : Nat} {y : DataW H × List MemPlace} (hf : DataW.trod enc Tryd.prog w base spare held fuel 62 cs = some y) : ∃ x : Cop, cs = St.eC.cells x ∧ (x.dig.size ≤ 9223372036854775807 ∧ x.tier.size ≤ 9223372036854775807) := by
 obtain ⟨xs, n, _, _, hl, hlen, hg⟩ := DataW.trod_struct Tryd.underlying62 hf
 have hlen : xs.length = 4 := hlen
 rw [cellsCopy] at hl
 obtain ⟨c0, c1, c2, c3, rfl⟩ : ∃ c0 c1 c2 c3, cs = [c0, c1, c2, c3] := by match cs, hl with | [c0, c1, c2, c3], _ => exact ⟨c0, c1, c2, c3, rfl⟩
 obtain ⟨y0, e0⟩ := some_atS hlen (show 0 < 4 by omega)
 obtain ⟨y1, e1⟩ := some_atS hlen (show 1 < 4 by omega)
 obtain ⟨y2, e2⟩ := some_atS hlen (show 2 < 4 by omega)
 obtain ⟨y3, e3⟩ := some_atS hlen (show 3 < 4 by omega)
 have g0 : DataW.trod enc Tryd.prog w base spare held n 9 [c0] = some y0 := (hg 0 _ rfl).trans e0
 have g1 : DataW.trod enc Tryd.prog w base spare held n 9 [c1] = some y1 := (hg 1 _ rfl).trans e1
 have g2 : DataW.trod enc Tryd.prog w base spare held n 4 [c2] = some y2 := (hg 2 _ rfl).trans e2
 have g3 : DataW.trod enc Tryd.prog w base spare held n 3 [c3] = some y3 := (hg 3 _ rfl).trans e3
 clear hg hf
 obtain ⟨v0, q0, _, s0⟩ := DataW.trod_string Tryd.underlying9 g0
 obtain ⟨v1, q1, _, s1⟩ := DataW.trod_string Tryd.underlying9 g1
 obtain ⟨v2, q2, _⟩ := DataW.trod_bool Tryd.underlying4 g2
 obtain ⟨v3, q3, _, _⟩ := DataW.trod_int Tryd.underlying3 g3
 simp only [List.cons.injEq, and_true] at q0 q1 q2 q3
 subst q0 q1 q2 q3
 exact ⟨⟨v0, v1, v2, v3⟩, rfl, ⟨by unfold maxLen at s0; omega, by unfold maxLen at s1; omega⟩⟩
theorem cellsGone : Tryd.prog.cellsOf 88 = 2 := by kernel_rfl
theorem open_gone {cs : List Value} {fuel : Nat} {y : DataW H × List MemPlace} (hf : DataW.trod enc Tryd.prog w base spare held fuel 88 cs = some y) : ∃ x : Gon, cs = St.eG.cells x ∧ (x.dig.size ≤ 9223372036854775807) := by
 obtain ⟨xs, n, _, _, hl, hlen, hg⟩ := DataW.trod_struct Tryd.underlying88 hf
 have hlen : xs.length = 2 := hlen
 rw [cellsGone] at hl
 obtain ⟨c0, c1, rfl⟩ : ∃ c0 c1, cs = [c0, c1] := by match cs, hl with | [c0, c1], _ => exact ⟨c0, c1, rfl⟩
 obtain ⟨y0, e0⟩ := some_atS hlen (show 0 < 2 by omega)
 obtain ⟨y1, e1⟩ := some_atS hlen (show 1 < 2 by omega)
 have g0 : DataW.trod enc Tryd.prog w base spare held n 9 [c0] = some y0 := (hg 0 _ rfl).trans e0
 have g1 : DataW.trod enc Tryd.prog w base spare held n 3 [c1] = some y1 := (hg 1 _ rfl).trans e1
 clear hg hf
 obtain ⟨v0, q0, _, s0⟩ := DataW.trod_string Tryd.underlying9 g0
 obtain ⟨v1, q1, _, _⟩ := DataW.trod_int Tryd.underlying3 g1
 simp only [List.cons.injEq, and_true] at q0 q1
 subst q0 q1
 exact ⟨⟨v0, v1⟩, rfl, by unfold maxLen at s0; omega⟩
theorem cellsStr : Tryd.prog.cellsOf 9 = 1 := by kernel_rfl
theorem open_strE {cs : List Value} {fuel : Nat} {y : DataW H × List MemPlace} (hf : DataW.trod enc Tryd.prog w base spare held fuel 9 cs = some y) : ∃ x : ByteArray, cs = St.eS.cells x ∧ x.size ≤ 9223372036854775807 := by
 obtain ⟨v, q, _, s⟩ := DataW.trod_string Tryd.underlying9 hf
 exact ⟨v, q, by unfold maxLen at s; omega⟩
theorem cellsStore : Tryd.prog.cellsOf 28 = 7 := by kernel_rfl
theorem open_store_cells {cs : List Value} {fuel : Nat} {y : DataW H × List MemPlace} (hf : DataW.trod enc Tryd.prog w base spare held fuel 28 cs = some y) : ∃ (s : Sto) (a : StA), cs = [.int .i64 s.least, .int .i64 s.wait, .slice a.ta s.tiers.length a.tc, .slice a.fa s.files.length a.fc, .slice a.ca s.copies.length a.cc, .slice a.ha s.held.length a.hc, .slice a.ba s.bin.length a.bc] ∧ StIn w s a := by
 obtain ⟨xs, n, _, _, hl, hlen, hg⟩ := DataW.trod_struct Tryd.underlying28 hf
 have hlen : xs.length = 7 := hlen
 rw [cellsStore] at hl
 obtain ⟨c0, c1, c2, c3, c4, c5, c6, rfl⟩ : ∃ c0 c1 c2 c3 c4 c5 c6, cs = [c0, c1, c2, c3, c4, c5, c6] := by match cs, hl with | [c0, c1, c2, c3, c4, c5, c6], _ => exact ⟨c0, c1, c2, c3, c4, c5, c6, rfl⟩
 obtain ⟨y0, e0⟩ := some_atS hlen (show 0 < 7 by omega)
 obtain ⟨y1, e1⟩ := some_atS hlen (show 1 < 7 by omega)
 obtain ⟨y2, e2⟩ := some_atS hlen (show 2 < 7 by omega)
 obtain ⟨y3, e3⟩ := some_atS hlen (show 3 < 7 by omega)
 obtain ⟨y4, e4⟩ := some_atS hlen (show 4 < 7 by omega)
 obtain ⟨y5, e5⟩ := some_atS hlen (show 5 < 7 by omega)
 obtain ⟨y6, e6⟩ := some_atS hlen (show 6 < 7 by omega)
 have g0 : DataW.trod enc Tryd.prog w base spare held n 3 [c0] = some y0 := (hg 0 _ rfl).trans e0
 have g1 : DataW.trod enc Tryd.prog w base spare held n 3 [c1] = some y1 := (hg 1 _ rfl).trans e1
 have g2 : DataW.trod enc Tryd.prog w base spare held n 22 [c2] = some y2 := (hg 2 _ rfl).trans e2
 have g3 : DataW.trod enc Tryd.prog w base spare held n 23 [c3] = some y3 := (hg 3 _ rfl).trans e3
 have g4 : DataW.trod enc Tryd.prog w base spare held n 24 [c4] = some y4 := (hg 4 _ rfl).trans e4
 have g5 : DataW.trod enc Tryd.prog w base spare held n 25 [c5] = some y5 := (hg 5 _ rfl).trans e5
 have g6 : DataW.trod enc Tryd.prog w base spare held n 26 [c6] = some y6 := (hg 6 _ rfl).trans e6
 clear hg hf
 obtain ⟨least, q0, _, _⟩ := DataW.trod_int Tryd.underlying3 g0
 obtain ⟨wait, q1, _, _⟩ := DataW.trod_int Tryd.underlying3 g1
 simp only [List.cons.injEq, and_true] at q0 q1
 subst q0 q1
 obtain ⟨a2, k2, L2, rfl, l2, m2, r2, z2⟩ := open_rowE St.eT (by decide) _ Tryd.underlying22 cellsTier (fun _ _ _ h => open_tier h) g2
 obtain ⟨a3, k3, L3, rfl, l3, m3, r3, z3⟩ := open_rowE St.eF (by decide) _ Tryd.underlying23 cellsFile (fun _ _ _ h => open_file h) g3
 obtain ⟨a4, k4, L4, rfl, l4, m4, r4, z4⟩ := open_rowE St.eC (by decide) _ Tryd.underlying24 cellsCopy (fun _ _ _ h => open_copy h) g4
 obtain ⟨a5, k5, L5, rfl, l5, m5, r5, z5⟩ := open_rowE St.eS (by decide) _ Tryd.underlying25 cellsStr (fun _ _ _ h => open_strE h) g5
 obtain ⟨a6, k6, L6, rfl, l6, m6, r6, z6⟩ := open_rowE St.eG (by decide) _ Tryd.underlying26 cellsGone (fun _ _ _ h => open_gone h) g6
 exact ⟨⟨least, wait, L2, L3, L4, L5, L6⟩, ⟨a2, k2, a3, k3, a4, k4, a5, k5, a6, k6⟩, rfl, ⟨r2, r3, r4, r5, r6, ⟨l2, m2⟩, ⟨l3, m3⟩, ⟨l4, m4⟩, ⟨l5, m5⟩, ⟨l6, m6⟩, z2, z3, z4, z5, z6⟩⟩
theorem open_store {r : Reach} {b0 : Nat} {v : Value} {d : DataW H} {p : List MemPlace} (hv : Value.okWide Tryd.prog w r b0 28 v) (h : DataW.Trod enc Tryd.prog w base spare held 28 v d p) :
  ∃ (s : Sto) (a : StA), v = .agg #[.int .i64 s.least, .int .i64 s.wait, .slice a.ta s.tiers.length a.tc, .slice a.fa s.files.length a.fc, .slice a.ca s.copies.length a.cc, .slice a.ha s.held.length a.hc, .slice a.ba s.bin.length a.bc] ∧ StIn w s a := by
 obtain ⟨cs, rfl, hsz⟩ := okWide_struct Tryd.underlying28 hv
 obtain ⟨fuel, hf⟩ := h
 have hf : DataW.trod enc Tryd.prog w base spare held fuel 28 cs.toList = some (d, p) := by simpa [Value.cells] using hf
 obtain ⟨s, a, hq, hI⟩ := open_store_cells hf
 refine ⟨s, a, ?_, hI⟩
 rw [← hq]
theorem open_strs {r : Reach} {b0 : Nat} {v : Value} {d : DataW H} {p : List MemPlace} (hv : Value.okWide Tryd.prog w r b0 25 v) (h : DataW.Trod enc Tryd.prog w base spare held 25 v d p) :
  ∃ (a : Option Addr) (cap : Nat) (L : List ByteArray), v = .slice a L.length cap ∧ (L.length ≤ cap ∧ cap ≤ 9223372036854775807) ∧ RowE St.eS w a L := by
 obtain ⟨a, len, cap, rfl⟩ := okWide_slice Tryd.underlying25 hv
 obtain ⟨fuel, hf⟩ := h
 have hf : DataW.trod enc Tryd.prog w base spare held fuel 25 [.slice a len cap] = some (d, p) := by simpa [Value.cells] using hf
 obtain ⟨a5, k5, L5, e5, l5, m5, r5, _⟩ := open_rowE St.eS (by decide) _ Tryd.underlying25 cellsStr (fun _ _ _ h => open_strE h) hf
 exact ⟨a5, k5, L5, e5, ⟨l5, m5⟩, r5⟩
end
end Go.Proofs.YthdiccdnggloiaaDoor
