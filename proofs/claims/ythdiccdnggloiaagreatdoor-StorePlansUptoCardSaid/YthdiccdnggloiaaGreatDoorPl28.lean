/- Parts of the proof, no condition: StTni. -/
import Derived.Test.YthdiccdnggloiaaGreatDoorPl27
import Derived.Test.YthdiccdnggloiaaGreatDoorPl26
import Derived.Test.YthdiccdnggloiaaGreatDoorPl18
set_option maxRecDepth 100000
set_option maxHeartbeats 4000000
set_option linter.unusedSimpArgs false
set_option linter.unusedVariables false
namespace Go.Proofs.YthdiccdnggloiaaGreatDoor
open Go.RowKit Go.Sort Go.Shelf Go.Maps
theorem planS_wrong (s : Sto) (a : StA) (w : World) (hI : StIn w s a) (he : St.err s ≠ 0) :
  Calls Tryz.prog 44 #[.agg #[.int .i64 s.least, .int .i64 s.wait, .slice a.ta s.tiers.length a.tc, .slice a.fa s.files.length a.fc, .slice a.ca s.copies.length a.cc, .slice a.ha s.held.length a.hc, .slice a.ba s.bin.length a.bc]] w fun e w' => e = .returned (.tuple #[.slice none 0 0, .slice none 0 0, .int .i64 (St.err s)]) ∧ Below w.heap.size w w' := by
 obtain ⟨W1, hW1, hP, hz1, hB1⟩ := box w #[.int .i64 s.least, .int .i64 s.wait, .slice a.ta s.tiers.length a.tc, .slice a.fa s.files.length a.fc, .slice a.ca s.copies.length a.cc, .slice a.ha s.held.length a.hc, .slice a.ba s.bin.length a.bc] 28
 have HW1 := Lib.hid hW1
 have HI1 := Lib.hid (hI.keep hB1)
 obtain ⟨q0, q1, q2, q3, q4, q5, q6⟩ := hP.sv7
 have HP := Lib.hid hP; have HB1 := Lib.hid hB1
 clear hW1 hP
 have HCK := Lib.hid (check_is s a W1 HI1.out)
 have hq1 : (St.err s != 0) = true := by simpa using he
 generalize St.err s = q at *
 clear hI he hz1
 go_enter Tryz.func44, Tryz.ntmps44
 go_upto_region 1 with fail
 rw [HW1.out]
 go_wp2_with (go_at_call 32; (with_reducible refine HCK.out.mono ?_); rintro e w3 ⟨rfl, hB3⟩)
 refine bodyPost_ret (v := .tuple #[.slice none 0 0, .slice none 0 0, .int .i64 q]) (by simp [results, Tryz.results44, go_sem]) rfl ?_
 exact ⟨rfl, below_up HB1.out hB3⟩
end Go.Proofs.YthdiccdnggloiaaGreatDoor
