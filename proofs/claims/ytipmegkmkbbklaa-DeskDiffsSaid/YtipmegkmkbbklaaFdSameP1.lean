/- samePhoto, some of its cases. -/
import Derived.Test.YtipmegkmkbbklaaFdSame
namespace Go.Proofs.Ytipmegkmkbbklaa
open Go.RowKit Go.Sort Go.Shelf
set_option linter.unusedVariables false
set_option maxRecDepth 100000 in
set_option maxHeartbeats 4000000 in
theorem samePhoto_6 (p r : Ph) (w : World) (hI : p.In w) (hJ : r.In w) (hF : p.Fits) (hG : r.Fits) (h0 : (p.id == r.id) = true) (h1 : (p.file.toList == r.file.toList) = true) (h2 : (p.mom == r.mom) = true) (h3 : (p.zone == r.zone) = true) (h4 : (Fd.eqRow p.wn r.wn fun i => p.lat i == r.lat i && p.lon i == r.lon i) = true) (h5 : (p.W == r.W) = true) (h6 : (p.H == r.H) = false) : Calls Try.prog 84 #[.agg #[.int .i64 p.id, .string p.file, .int .i64 p.mom, .int .i64 p.zone, .slice p.wa p.wn p.wc, .int .i64 p.W, .int .i64 p.H, .int .i64 p.turn, .int .i64 p.stars, .slice p.ta p.tn p.tc, .string p.cap, .slice p.pa p.pn p.pc, .bool p.hid], .agg #[.int .i64 r.id, .string r.file, .int .i64 r.mom, .int .i64 r.zone, .slice r.wa r.wn r.wc, .int .i64 r.W, .int .i64 r.H, .int .i64 r.turn, .int .i64 r.stars, .slice r.ta r.tn r.tc, .string r.cap, .slice r.pa r.pn r.pc, .bool r.hid]] w fun e w' => e = .returned (.bool false) ∧ Below w.heap.size w w' := by
  obtain ⟨W1, hW1, hP, hz1, hB1⟩ := box w #[.int .i64 p.id, .string p.file, .int .i64 p.mom, .int .i64 p.zone, .slice p.wa p.wn p.wc, .int .i64 p.W, .int .i64 p.H, .int .i64 p.turn, .int .i64 p.stars, .slice p.ta p.tn p.tc, .string p.cap, .slice p.pa p.pn p.pc, .bool p.hid] 26
  obtain ⟨W2, hW2, hR, hz2, hb2⟩ := box W1 #[.int .i64 r.id, .string r.file, .int .i64 r.mom, .int .i64 r.zone, .slice r.wa r.wn r.wc, .int .i64 r.W, .int .i64 r.H, .int .i64 r.turn, .int .i64 r.stars, .slice r.ta r.tn r.tc, .string r.cap, .slice r.pa r.pn r.pc, .bool r.hid] 26
  have hP := hP.keep hb2
  rw [hz1] at hR
  have hB12 := below_up hB1 hb2
  have hB2 := Below.refl W2.heap.size W2
  have HW1 := Lib.hid hW1; have HW2 := Lib.hid hW2
  have hI := hI.keep hB12; have hJ := hJ.keep hB12
  have HEP := Lib.hid (fun W (hB : Below W2.heap.size W2 W) => eqPlaces_is p.wa p.wn p.wc p.lat p.lon r.wa r.wn r.wc r.lat r.lon W (hI.keep hB).places (hJ.keep hB).places hF.wn hG.wn _ (fun _ => rfl))
  have HET := Lib.hid (fun W (hB : Below W2.heap.size W2 W) => eqStrings_is p.ta p.tn p.tc p.tag r.ta r.tn r.tc r.tag W (hI.keep hB).tags (hJ.keep hB).tags hF.tn hG.tn _ (fun _ => rfl))
  have HEI := Lib.hid (fun W (hB : Below W2.heap.size W2 W) => eqInts_is p.pa p.pn p.pc p.who r.pa r.pn r.pc r.who W (hI.keep hB).people (hJ.keep hB).people hF.pn hG.pn _ (fun _ => rfl))
  clear hW1 hW2 hz1 hz2 hB1 hb2 hI hJ hF hG
  obtain ⟨q0, q1, q2, q3, q4, -, -, -, -, -, -, -, -⟩ := hP.photo
  obtain ⟨v0, v1, v2, v3, v4, -, -, -, -, -, -, -, -⟩ := hR.photo
  rw [h4] at HEP
  clear h4
  go_enter Try.func84, Try.ntmps84
  go_wp2_with fail
  rw [HW1.out, HW2.out]
  go_wp2_with (first | (go_at_call 34; refine (HEP.out _ hB2).mono ?_; rintro e w3 ⟨rfl, hB3⟩; obtain ⟨-, -, -, -, -, t5, t6, -, -, -, -, -, -⟩ := (hP.keep hB3).photo; obtain ⟨-, -, -, -, -, u5, u6, -, -, -, -, -, -⟩ := (hR.keep hB3).photo))
  go_ret
  exact ⟨rfl, below_up hB12 hB3⟩
set_option maxRecDepth 100000 in
set_option maxHeartbeats 4000000 in
theorem samePhoto_7 (p r : Ph) (w : World) (hI : p.In w) (hJ : r.In w) (hF : p.Fits) (hG : r.Fits) (h0 : (p.id == r.id) = true) (h1 : (p.file.toList == r.file.toList) = true) (h2 : (p.mom == r.mom) = true) (h3 : (p.zone == r.zone) = true) (h4 : (Fd.eqRow p.wn r.wn fun i => p.lat i == r.lat i && p.lon i == r.lon i) = true) (h5 : (p.W == r.W) = true) (h6 : (p.H == r.H) = true) (h7 : (p.turn == r.turn) = false) : Calls Try.prog 84 #[.agg #[.int .i64 p.id, .string p.file, .int .i64 p.mom, .int .i64 p.zone, .slice p.wa p.wn p.wc, .int .i64 p.W, .int .i64 p.H, .int .i64 p.turn, .int .i64 p.stars, .slice p.ta p.tn p.tc, .string p.cap, .slice p.pa p.pn p.pc, .bool p.hid], .agg #[.int .i64 r.id, .string r.file, .int .i64 r.mom, .int .i64 r.zone, .slice r.wa r.wn r.wc, .int .i64 r.W, .int .i64 r.H, .int .i64 r.turn, .int .i64 r.stars, .slice r.ta r.tn r.tc, .string r.cap, .slice r.pa r.pn r.pc, .bool r.hid]] w fun e w' => e = .returned (.bool false) ∧ Below w.heap.size w w' := by
  obtain ⟨W1, hW1, hP, hz1, hB1⟩ := box w #[.int .i64 p.id, .string p.file, .int .i64 p.mom, .int .i64 p.zone, .slice p.wa p.wn p.wc, .int .i64 p.W, .int .i64 p.H, .int .i64 p.turn, .int .i64 p.stars, .slice p.ta p.tn p.tc, .string p.cap, .slice p.pa p.pn p.pc, .bool p.hid] 26
  obtain ⟨W2, hW2, hR, hz2, hb2⟩ := box W1 #[.int .i64 r.id, .string r.file, .int .i64 r.mom, .int .i64 r.zone, .slice r.wa r.wn r.wc, .int .i64 r.W, .int .i64 r.H, .int .i64 r.turn, .int .i64 r.stars, .slice r.ta r.tn r.tc, .string r.cap, .slice r.pa r.pn r.pc, .bool r.hid] 26
  have hP := hP.keep hb2
  rw [hz1] at hR
  have hB12 := below_up hB1 hb2
  have hB2 := Below.refl W2.heap.size W2
  have HW1 := Lib.hid hW1; have HW2 := Lib.hid hW2
  have hI := hI.keep hB12; have hJ := hJ.keep hB12
  have HEP := Lib.hid (fun W (hB : Below W2.heap.size W2 W) => eqPlaces_is p.wa p.wn p.wc p.lat p.lon r.wa r.wn r.wc r.lat r.lon W (hI.keep hB).places (hJ.keep hB).places hF.wn hG.wn _ (fun _ => rfl))
  have HET := Lib.hid (fun W (hB : Below W2.heap.size W2 W) => eqStrings_is p.ta p.tn p.tc p.tag r.ta r.tn r.tc r.tag W (hI.keep hB).tags (hJ.keep hB).tags hF.tn hG.tn _ (fun _ => rfl))
  have HEI := Lib.hid (fun W (hB : Below W2.heap.size W2 W) => eqInts_is p.pa p.pn p.pc p.who r.pa r.pn r.pc r.who W (hI.keep hB).people (hJ.keep hB).people hF.pn hG.pn _ (fun _ => rfl))
  clear hW1 hW2 hz1 hz2 hB1 hb2 hI hJ hF hG
  obtain ⟨q0, q1, q2, q3, q4, -, -, -, -, -, -, -, -⟩ := hP.photo
  obtain ⟨v0, v1, v2, v3, v4, -, -, -, -, -, -, -, -⟩ := hR.photo
  rw [h4] at HEP
  clear h4
  go_enter Try.func84, Try.ntmps84
  go_wp2_with fail
  rw [HW1.out, HW2.out]
  go_wp2_with (first | (go_at_call 34; refine (HEP.out _ hB2).mono ?_; rintro e w3 ⟨rfl, hB3⟩; obtain ⟨-, -, -, -, -, t5, t6, t7, -, -, -, -, -⟩ := (hP.keep hB3).photo; obtain ⟨-, -, -, -, -, u5, u6, u7, -, -, -, -, -⟩ := (hR.keep hB3).photo))
  go_ret
  exact ⟨rfl, below_up hB12 hB3⟩
set_option maxRecDepth 100000 in
set_option maxHeartbeats 4000000 in
theorem samePhoto_8 (p r : Ph) (w : World) (hI : p.In w) (hJ : r.In w) (hF : p.Fits) (hG : r.Fits) (h0 : (p.id == r.id) = true) (h1 : (p.file.toList == r.file.toList) = true) (h2 : (p.mom == r.mom) = true) (h3 : (p.zone == r.zone) = true) (h4 : (Fd.eqRow p.wn r.wn fun i => p.lat i == r.lat i && p.lon i == r.lon i) = true) (h5 : (p.W == r.W) = true) (h6 : (p.H == r.H) = true) (h7 : (p.turn == r.turn) = true) (h8 : (p.stars == r.stars) = false) : Calls Try.prog 84 #[.agg #[.int .i64 p.id, .string p.file, .int .i64 p.mom, .int .i64 p.zone, .slice p.wa p.wn p.wc, .int .i64 p.W, .int .i64 p.H, .int .i64 p.turn, .int .i64 p.stars, .slice p.ta p.tn p.tc, .string p.cap, .slice p.pa p.pn p.pc, .bool p.hid], .agg #[.int .i64 r.id, .string r.file, .int .i64 r.mom, .int .i64 r.zone, .slice r.wa r.wn r.wc, .int .i64 r.W, .int .i64 r.H, .int .i64 r.turn, .int .i64 r.stars, .slice r.ta r.tn r.tc, .string r.cap, .slice r.pa r.pn r.pc, .bool r.hid]] w fun e w' => e = .returned (.bool false) ∧ Below w.heap.size w w' := by
  obtain ⟨W1, hW1, hP, hz1, hB1⟩ := box w #[.int .i64 p.id, .string p.file, .int .i64 p.mom, .int .i64 p.zone, .slice p.wa p.wn p.wc, .int .i64 p.W, .int .i64 p.H, .int .i64 p.turn, .int .i64 p.stars, .slice p.ta p.tn p.tc, .string p.cap, .slice p.pa p.pn p.pc, .bool p.hid] 26
  obtain ⟨W2, hW2, hR, hz2, hb2⟩ := box W1 #[.int .i64 r.id, .string r.file, .int .i64 r.mom, .int .i64 r.zone, .slice r.wa r.wn r.wc, .int .i64 r.W, .int .i64 r.H, .int .i64 r.turn, .int .i64 r.stars, .slice r.ta r.tn r.tc, .string r.cap, .slice r.pa r.pn r.pc, .bool r.hid] 26
  have hP := hP.keep hb2
  rw [hz1] at hR
  have hB12 := below_up hB1 hb2
  have hB2 := Below.refl W2.heap.size W2
  have HW1 := Lib.hid hW1; have HW2 := Lib.hid hW2
  have hI := hI.keep hB12; have hJ := hJ.keep hB12
  have HEP := Lib.hid (fun W (hB : Below W2.heap.size W2 W) => eqPlaces_is p.wa p.wn p.wc p.lat p.lon r.wa r.wn r.wc r.lat r.lon W (hI.keep hB).places (hJ.keep hB).places hF.wn hG.wn _ (fun _ => rfl))
  have HET := Lib.hid (fun W (hB : Below W2.heap.size W2 W) => eqStrings_is p.ta p.tn p.tc p.tag r.ta r.tn r.tc r.tag W (hI.keep hB).tags (hJ.keep hB).tags hF.tn hG.tn _ (fun _ => rfl))
  have HEI := Lib.hid (fun W (hB : Below W2.heap.size W2 W) => eqInts_is p.pa p.pn p.pc p.who r.pa r.pn r.pc r.who W (hI.keep hB).people (hJ.keep hB).people hF.pn hG.pn _ (fun _ => rfl))
  clear hW1 hW2 hz1 hz2 hB1 hb2 hI hJ hF hG
  obtain ⟨q0, q1, q2, q3, q4, -, -, -, -, -, -, -, -⟩ := hP.photo
  obtain ⟨v0, v1, v2, v3, v4, -, -, -, -, -, -, -, -⟩ := hR.photo
  rw [h4] at HEP
  clear h4
  go_enter Try.func84, Try.ntmps84
  go_wp2_with fail
  rw [HW1.out, HW2.out]
  go_wp2_with (first | (go_at_call 34; refine (HEP.out _ hB2).mono ?_; rintro e w3 ⟨rfl, hB3⟩; obtain ⟨-, -, -, -, -, t5, t6, t7, t8, -, -, -, -⟩ := (hP.keep hB3).photo; obtain ⟨-, -, -, -, -, u5, u6, u7, u8, -, -, -, -⟩ := (hR.keep hB3).photo))
  go_ret
  exact ⟨rfl, below_up hB12 hB3⟩
end Go.Proofs.Ytipmegkmkbbklaa
