/- Parts of the proof, no condition: StEv3, StRef4, StEvD, StEqM, StRef3, StRef5. -/
import Derived.Test.YthdiccdnggloiaaGreatDoorEv13
import Derived.Test.YthdiccdnggloiaaGreatDoorEv14
import Derived.Test.YthdiccdnggloiaaGreatDoorEv5
import Derived.Test.YthdiccdnggloiaaGreatDoorEv6
import Derived.Test.YthdiccdnggloiaaGreatDoorEv3
import Derived.Lib.QuietBelow
import Derived.Test.YthdiccdnggloiaaGreatDoorEv12
import Derived.Test.YthdiccdnggloiaaGreatDoorEv9
set_option maxRecDepth 100000
set_option maxHeartbeats 16000000
set_option linter.unusedSimpArgs false
set_option linter.unusedVariables false
namespace Go.Proofs.YthdiccdnggloiaaGreatDoor
open Go.RowKit Go.Sort Go.Shelf Go.Maps
def EvcErr (w : World) (q : Int) (e : Ending) (w' : World) : Prop := e = .returned (.tuple #[.slice none 0 0, .int .i64 q]) ∧ Below w.heap.size w w'
def EvRun (s : Sto) (t : Tir) (bytes : Int) (R : List Cop) (ok : Bool) : Prop := ∃ L f, St.Goers s t.name L ∧ St.run s.files bytes L (t.room - St.used s.files t.name s.copies) = (R, f) ∧ ok = decide (bytes ≤ f)
theorem EvPost.out {s : Sto} {t : Tir} {bytes : Int} {w w' : World} {e : Ending} (h : EvPost s t bytes w e w') : ∃ R ok g cap n, EvRun s t bytes R ok ∧ R.length = n ∧ e = .returned (.tuple #[.slice g n cap, .bool ok]) ∧ OwnV w' w.heap.size 52 4 (.slice g n cap) n (St.eM.flat (R.map (St.drop_ t.name))) ∧ Below w.heap.size w w' := by
 obtain ⟨L, g, cap, hG, rfl, ho, hb⟩ := h
 exact ⟨_, _, g, cap, _, ⟨L, _, hG, rfl, rfl⟩, rfl, rfl, ho, hb⟩
def EvcOk (s : Sto) (t : Tir) (bytes : Int) (w : World) (e : Ending) (w' : World) : Prop := ∃ R ok, EvRun s t bytes R ok ∧ ((ok = false ∧ EvcErr w 12 e w') ∨ (ok = true ∧ ∃ g cap, e = .returned (.tuple #[.slice g R.length cap, .int .i64 0]) ∧ OwnV w' w.heap.size 52 4 (.slice g R.length cap) R.length (St.eM.flat (R.map (St.drop_ t.name))) ∧ Below w.heap.size w w'))
theorem evictS_wrong (s : Sto) (a : StA) (tier : ByteArray) (bytes : Int) (w : World) (hI : StIn w s a) (he : St.err s ≠ 0) :
  Calls Tryz.prog 20 #[.agg #[.int .i64 s.least, .int .i64 s.wait, .slice a.ta s.tiers.length a.tc, .slice a.fa s.files.length a.fc, .slice a.ca s.copies.length a.cc, .slice a.ha s.held.length a.hc, .slice a.ba s.bin.length a.bc], .string tier, .int .i64 bytes] w (EvcErr w (St.err s)) := by
 obtain ⟨W1, hW1, hP, hz1, hB1⟩ := box w #[.int .i64 s.least, .int .i64 s.wait, .slice a.ta s.tiers.length a.tc, .slice a.fa s.files.length a.fc, .slice a.ca s.copies.length a.cc, .slice a.ha s.held.length a.hc, .slice a.ba s.bin.length a.bc] 28
 have HW1 := Lib.hid hW1
 have HI1 := Lib.hid (hI.keep hB1)
 have q0 : W1.cell? ⟨w.heap.size, 0, none⟩ = some (.int .i64 s.least) := (hP.cell 0).trans rfl
 have q1 : W1.cell? ⟨w.heap.size, 1, none⟩ = some (.int .i64 s.wait) := (hP.cell 1).trans rfl
 have q2 : W1.cell? ⟨w.heap.size, 2, none⟩ = some (.slice a.ta s.tiers.length a.tc) := (hP.cell 2).trans rfl
 have q3 : W1.cell? ⟨w.heap.size, 3, none⟩ = some (.slice a.fa s.files.length a.fc) := (hP.cell 3).trans rfl
 have q4 : W1.cell? ⟨w.heap.size, 4, none⟩ = some (.slice a.ca s.copies.length a.cc) := (hP.cell 4).trans rfl
 have q5 : W1.cell? ⟨w.heap.size, 5, none⟩ = some (.slice a.ha s.held.length a.hc) := (hP.cell 5).trans rfl
 have q6 : W1.cell? ⟨w.heap.size, 6, none⟩ = some (.slice a.ba s.bin.length a.bc) := (hP.cell 6).trans rfl
 have HP := Lib.hid hP; have HB1 := Lib.hid hB1
 clear hW1 hP
 have HCK := Lib.hid (check_is s a W1 HI1.out)
 have hq1 : (St.err s != 0) = true := by simpa using he
 generalize St.err s = q at *
 clear hI he hz1
 go_enter Tryz.func20, Tryz.ntmps20
 go_upto_region 1 with fail
 rw [HW1.out]
 go_wp2_with (go_at_call 32; (with_reducible refine HCK.out.mono ?_); rintro e w3 ⟨rfl, hB3⟩)
 go_ret2
 exact ⟨rfl, below_up HB1.out hB3⟩
theorem evictS_none (s : Sto) (a : StA) (tier : ByteArray) (bytes : Int) (w : World) (hI : StIn w s a) (r : St.Right s) (hn : St.tierAt s.tiers tier < 0) :
  Calls Tryz.prog 20 #[.agg #[.int .i64 s.least, .int .i64 s.wait, .slice a.ta s.tiers.length a.tc, .slice a.fa s.files.length a.fc, .slice a.ca s.copies.length a.cc, .slice a.ha s.held.length a.hc, .slice a.ba s.bin.length a.bc], .string tier, .int .i64 bytes] w (EvcErr w 7) := by
 obtain ⟨W1, hW1, hP, hz1, hB1⟩ := box w #[.int .i64 s.least, .int .i64 s.wait, .slice a.ta s.tiers.length a.tc, .slice a.fa s.files.length a.fc, .slice a.ca s.copies.length a.cc, .slice a.ha s.held.length a.hc, .slice a.ba s.bin.length a.bc] 28
 have HW1 := Lib.hid hW1
 have HI1 := Lib.hid (hI.keep hB1)
 have q0 : W1.cell? ⟨w.heap.size, 0, none⟩ = some (.int .i64 s.least) := (hP.cell 0).trans rfl
 have q1 : W1.cell? ⟨w.heap.size, 1, none⟩ = some (.int .i64 s.wait) := (hP.cell 1).trans rfl
 have q2 : W1.cell? ⟨w.heap.size, 2, none⟩ = some (.slice a.ta s.tiers.length a.tc) := (hP.cell 2).trans rfl
 have q3 : W1.cell? ⟨w.heap.size, 3, none⟩ = some (.slice a.fa s.files.length a.fc) := (hP.cell 3).trans rfl
 have q4 : W1.cell? ⟨w.heap.size, 4, none⟩ = some (.slice a.ca s.copies.length a.cc) := (hP.cell 4).trans rfl
 have q5 : W1.cell? ⟨w.heap.size, 5, none⟩ = some (.slice a.ha s.held.length a.hc) := (hP.cell 5).trans rfl
 have q6 : W1.cell? ⟨w.heap.size, 6, none⟩ = some (.slice a.ba s.bin.length a.bc) := (hP.cell 6).trans rfl
 have HP := Lib.hid hP; have HB1 := Lib.hid hB1
 clear hW1 hP
 have HCK := Lib.hid (check_is s a W1 HI1.out)
 rw [St.err_iff.2 r] at HCK
 have HTA := Lib.hid (fun V (hv : Below W1.heap.size W1 V) => tierAt_is s a tier V (HI1.out.keep hv))
 have HCL : Hid (∀ W, Below W1.heap.size W1 W → W.cell? ⟨w.heap.size, 0, none⟩ = some (.int .i64 s.least) ∧ W.cell? ⟨w.heap.size, 1, none⟩ = some (.int .i64 s.wait) ∧ W.cell? ⟨w.heap.size, 2, none⟩ = some (.slice a.ta s.tiers.length a.tc) ∧ W.cell? ⟨w.heap.size, 3, none⟩ = some (.slice a.fa s.files.length a.fc) ∧ W.cell? ⟨w.heap.size, 4, none⟩ = some (.slice a.ca s.copies.length a.cc) ∧ W.cell? ⟨w.heap.size, 5, none⟩ = some (.slice a.ha s.held.length a.hc) ∧ W.cell? ⟨w.heap.size, 6, none⟩ = some (.slice a.ba s.bin.length a.bc)) := Lib.hid fun W hb => (HP.out.keep hb).seven
 generalize St.tierAt s.tiers tier = n at *
 have hnb : decide (n < 0) = true := decide_eq_true hn
 clear hI hz1
 go_enter Tryz.func20, Tryz.ntmps20
 go_upto_region 1 with fail
 rw [HW1.out]
 go_wp2_with (first
  | (go_at_call 32; (with_reducible refine HCK.out.mono ?_); rintro e w3 ⟨rfl, hv⟩; obtain ⟨q0, q1, q2, q3, q4, q5, q6⟩ := HCL.out _ hv)
  | (go_at_call 91; (with_reducible refine (HTA.out _ hv).mono ?_); rintro e w4 ⟨rfl, hq⟩; have hv := below_up hv hq))
 go_ret2
 exact ⟨rfl, below_up HB1.out hv⟩
theorem evictS_range (s : Sto) (a : StA) (tier : ByteArray) (bytes : Int) (w : World) (hI : StIn w s a) (r : St.Right s) (hn : 0 ≤ St.tierAt s.tiers tier) (hb : St.inB bytes 0 1000000000000 = false) :
  Calls Tryz.prog 20 #[.agg #[.int .i64 s.least, .int .i64 s.wait, .slice a.ta s.tiers.length a.tc, .slice a.fa s.files.length a.fc, .slice a.ca s.copies.length a.cc, .slice a.ha s.held.length a.hc, .slice a.ba s.bin.length a.bc], .string tier, .int .i64 bytes] w (EvcErr w 2) := by
 obtain ⟨W1, hW1, hP, hz1, hB1⟩ := box w #[.int .i64 s.least, .int .i64 s.wait, .slice a.ta s.tiers.length a.tc, .slice a.fa s.files.length a.fc, .slice a.ca s.copies.length a.cc, .slice a.ha s.held.length a.hc, .slice a.ba s.bin.length a.bc] 28
 have HW1 := Lib.hid hW1
 have HI1 := Lib.hid (hI.keep hB1)
 have q0 : W1.cell? ⟨w.heap.size, 0, none⟩ = some (.int .i64 s.least) := (hP.cell 0).trans rfl
 have q1 : W1.cell? ⟨w.heap.size, 1, none⟩ = some (.int .i64 s.wait) := (hP.cell 1).trans rfl
 have q2 : W1.cell? ⟨w.heap.size, 2, none⟩ = some (.slice a.ta s.tiers.length a.tc) := (hP.cell 2).trans rfl
 have q3 : W1.cell? ⟨w.heap.size, 3, none⟩ = some (.slice a.fa s.files.length a.fc) := (hP.cell 3).trans rfl
 have q4 : W1.cell? ⟨w.heap.size, 4, none⟩ = some (.slice a.ca s.copies.length a.cc) := (hP.cell 4).trans rfl
 have q5 : W1.cell? ⟨w.heap.size, 5, none⟩ = some (.slice a.ha s.held.length a.hc) := (hP.cell 5).trans rfl
 have q6 : W1.cell? ⟨w.heap.size, 6, none⟩ = some (.slice a.ba s.bin.length a.bc) := (hP.cell 6).trans rfl
 have HP := Lib.hid hP; have HB1 := Lib.hid hB1
 clear hW1 hP
 have HCK := Lib.hid (check_is s a W1 HI1.out)
 rw [St.err_iff.2 r] at HCK
 have HTA := Lib.hid (fun V (hv : Below W1.heap.size W1 V) => tierAt_is s a tier V (HI1.out.keep hv))
 have HOU := Lib.hid (fun V => outsideS_is bytes 0 1000000000000 V)
 rw [hb] at HOU
 have HCL : Hid (∀ W, Below W1.heap.size W1 W → W.cell? ⟨w.heap.size, 0, none⟩ = some (.int .i64 s.least) ∧ W.cell? ⟨w.heap.size, 1, none⟩ = some (.int .i64 s.wait) ∧ W.cell? ⟨w.heap.size, 2, none⟩ = some (.slice a.ta s.tiers.length a.tc) ∧ W.cell? ⟨w.heap.size, 3, none⟩ = some (.slice a.fa s.files.length a.fc) ∧ W.cell? ⟨w.heap.size, 4, none⟩ = some (.slice a.ca s.copies.length a.cc) ∧ W.cell? ⟨w.heap.size, 5, none⟩ = some (.slice a.ha s.held.length a.hc) ∧ W.cell? ⟨w.heap.size, 6, none⟩ = some (.slice a.ba s.bin.length a.bc)) := Lib.hid fun W hb => (HP.out.keep hb).seven
 generalize St.tierAt s.tiers tier = n at *
 have hnb : decide (n < 0) = false := decide_eq_false (by omega)
 have hnc : (n < 0) = False := eq_false (by omega)
 clear hI hz1
 go_enter Tryz.func20, Tryz.ntmps20
 go_upto_region 1 with fail
 rw [HW1.out]
 go_wp2_with (first
  | (go_at_call 32; (with_reducible refine HCK.out.mono ?_); rintro e w3 ⟨rfl, hv⟩; obtain ⟨q0, q1, q2, q3, q4, q5, q6⟩ := HCL.out _ hv)
  | (go_at_call 91; (with_reducible refine (HTA.out _ hv).mono ?_); rintro e w4 ⟨rfl, hq⟩; have hv := below_up hv hq)
  | (go_at_call 92; (with_reducible refine (HOU.out _).mono ?_); rintro e wo ⟨rfl, rfl⟩))
 go_ret2
 exact ⟨rfl, below_up HB1.out hv⟩
theorem evictS_ok (s : Sto) (a : StA) (t : Tir) (k : Nat) (hk : s.tiers[k]? = some t) (hka : St.tierAt s.tiers t.name = (k : Int)) (bytes : Int) (w : World) (hI : StIn w s a) (r : St.Right s) (hb : St.inB bytes 0 1000000000000 = true) :
  Calls Tryz.prog 20 #[.agg #[.int .i64 s.least, .int .i64 s.wait, .slice a.ta s.tiers.length a.tc, .slice a.fa s.files.length a.fc, .slice a.ca s.copies.length a.cc, .slice a.ha s.held.length a.hc, .slice a.ba s.bin.length a.bc], .string t.name, .int .i64 bytes] w (EvcOk s t bytes w) := by
 obtain ⟨W1, hW1, hP, hz1, hB1⟩ := box w #[.int .i64 s.least, .int .i64 s.wait, .slice a.ta s.tiers.length a.tc, .slice a.fa s.files.length a.fc, .slice a.ca s.copies.length a.cc, .slice a.ha s.held.length a.hc, .slice a.ba s.bin.length a.bc] 28
 have HW1 := Lib.hid hW1
 have HI1 := Lib.hid (hI.keep hB1)
 have q0 : W1.cell? ⟨w.heap.size, 0, none⟩ = some (.int .i64 s.least) := (hP.cell 0).trans rfl
 have q1 : W1.cell? ⟨w.heap.size, 1, none⟩ = some (.int .i64 s.wait) := (hP.cell 1).trans rfl
 have q2 : W1.cell? ⟨w.heap.size, 2, none⟩ = some (.slice a.ta s.tiers.length a.tc) := (hP.cell 2).trans rfl
 have q3 : W1.cell? ⟨w.heap.size, 3, none⟩ = some (.slice a.fa s.files.length a.fc) := (hP.cell 3).trans rfl
 have q4 : W1.cell? ⟨w.heap.size, 4, none⟩ = some (.slice a.ca s.copies.length a.cc) := (hP.cell 4).trans rfl
 have q5 : W1.cell? ⟨w.heap.size, 5, none⟩ = some (.slice a.ha s.held.length a.hc) := (hP.cell 5).trans rfl
 have q6 : W1.cell? ⟨w.heap.size, 6, none⟩ = some (.slice a.ba s.bin.length a.bc) := (hP.cell 6).trans rfl
 have HP := Lib.hid hP; have HB1 := Lib.hid hB1
 clear hW1 hP
 have hmem := List.mem_of_getElem? hk
 have hkl : k < s.tiers.length := (List.getElem?_eq_some_iff.1 hk).1
 obtain ⟨_, y1, y2, y3, y4, y5⟩ := St.sizes_iff.1 r.sizes
 have HCK := Lib.hid (check_is s a W1 HI1.out)
 rw [St.err_iff.2 r] at HCK
 have HTA := Lib.hid (fun V (hv : Below W1.heap.size W1 V) => tierAt_is s a t.name V (HI1.out.keep hv))
 rw [hka] at HTA
 have HOU := Lib.hid (fun V => outsideS_is bytes 0 1000000000000 V)
 rw [hb] at HOU
 have hby := St.inB_iff.1 hb
 have HLK := Lib.hid (fun V (hv : Below W1.heap.size W1 V) => look_is s a V (HI1.out.keep hv) (by omega))
 have HEV := Lib.hid (fun V mb (hv : Below W1.heap.size W1 V) (hM : FMap V mb s.files) => (evict_is s a mb t hmem bytes hby V (HI1.out.keep hv) hM r).mono fun e w' h => h.out)
 obtain ⟨b, off, ha, hbb, hcell⟩ := HI1.out.ti (by omega)
 have HCT : Hid (∀ V, Below W1.heap.size W1 V → V.cell? ⟨b, off + k * 4, none⟩ = some (.string t.name) ∧ V.cell? ⟨b, off + k * 4 + 1, none⟩ = some (.int .i64 t.room) ∧ V.cell? ⟨b, off + k * 4 + 2, none⟩ = some (.int .i64 t.cost) ∧ V.cell? ⟨b, off + k * 4 + 3, none⟩ = some (.bool t.away)) := Lib.hid fun V hv =>
  ⟨(hv.cell hbb).trans (hcell k t hk 0 (.string t.name) rfl), (hv.cell hbb).trans (hcell k t hk 1 (.int .i64 t.room) rfl), (hv.cell hbb).trans (hcell k t hk 2 (.int .i64 t.cost) rfl), (hv.cell hbb).trans (hcell k t hk 3 (.bool t.away) rfl)⟩
 have HCL : Hid (∀ W, Below W1.heap.size W1 W → W.cell? ⟨w.heap.size, 0, none⟩ = some (.int .i64 s.least) ∧ W.cell? ⟨w.heap.size, 1, none⟩ = some (.int .i64 s.wait) ∧ W.cell? ⟨w.heap.size, 2, none⟩ = some (.slice a.ta s.tiers.length a.tc) ∧ W.cell? ⟨w.heap.size, 3, none⟩ = some (.slice a.fa s.files.length a.fc) ∧ W.cell? ⟨w.heap.size, 4, none⟩ = some (.slice a.ca s.copies.length a.cc) ∧ W.cell? ⟨w.heap.size, 5, none⟩ = some (.slice a.ha s.held.length a.hc) ∧ W.cell? ⟨w.heap.size, 6, none⟩ = some (.slice a.ba s.bin.length a.bc)) := Lib.hid fun W hb => (HP.out.keep hb).seven
 have hnb : decide ((k : Int) < 0) = false := decide_eq_false (by omega)
 have hk0 : (0 : Int) ≤ (k : Int) := by omega
 have htl := hI.tl
 obtain ⟨nt, hnt⟩ : ∃ nt, s.tiers.length = nt := ⟨_, rfl⟩
 rw [hnt] at hkl y1 htl q2 HCL HW1 HCK HTA HLK HEV ⊢
 have hk1 : (k : Int) < (nt : Int) := by omega
 have HHI := Lib.hid hI
 clear hI hz1 hcell hbb hk hka hmem hnt r hb hby y2 y3 y4 y5
 rw [ha] at q2 HCL HW1 HCK HTA HLK HEV ⊢
 go_enter Tryz.func20, Tryz.ntmps20
 go_upto_region 1 with fail
 rw [HW1.out]
 go_upto_region 9 with (first
  | (go_at_call 32; (with_reducible refine HCK.out.mono ?_); rintro e w3 ⟨rfl, hv⟩; obtain ⟨q0, q1, q2, q3, q4, q5, q6⟩ := HCL.out _ hv)
  | (go_at_call 91; (with_reducible refine (HTA.out _ hv).mono ?_); rintro e w4 ⟨rfl, hq⟩; have hv := below_up hv hq; obtain ⟨q0, q1, q2, q3, q4, q5, q6⟩ := HCL.out _ hv; obtain ⟨d0, d1, d2, d3⟩ := HCT.out _ hv)
  | (go_at_call 92; (with_reducible refine (HOU.out _).mono ?_); rintro e wo ⟨rfl, rfl⟩))
 have hv := hv.drew
 clear q0 q1 q2 q3 q4 q5 q6 d0 d1 d2 d3
 obtain ⟨q0, q1, q2, q3, q4, q5, q6⟩ := HCL.out _ hv
 obtain ⟨d0, d1, d2, d3⟩ := HCT.out _ hv
 go_region_held3 (fun w' => w'.cell? ⟨w.heap.size, 0, none⟩ = some (.int .i64 s.least) ∧ w'.cell? ⟨w.heap.size, 1, none⟩ = some (.int .i64 s.wait) ∧ w'.cell? ⟨w.heap.size, 2, none⟩ = some (.slice (some ⟨b, off, none⟩) nt a.tc) ∧ w'.cell? ⟨w.heap.size, 3, none⟩ = some (.slice a.fa s.files.length a.fc) ∧ w'.cell? ⟨w.heap.size, 4, none⟩ = some (.slice a.ca s.copies.length a.cc) ∧ w'.cell? ⟨w.heap.size, 5, none⟩ = some (.slice a.ha s.held.length a.hc) ∧ w'.cell? ⟨w.heap.size, 6, none⟩ = some (.slice a.ba s.bin.length a.bc) ∧ w'.cell? ⟨b, off + k * 4, none⟩ = some (.string t.name) ∧ w'.cell? ⟨b, off + k * 4 + 1, none⟩ = some (.int .i64 t.room) ∧ w'.cell? ⟨b, off + k * 4 + 2, none⟩ = some (.int .i64 t.cost) ∧ w'.cell? ⟨b, off + k * 4 + 3, none⟩ = some (.bool t.away))
  (first | (with_reducible exact ⟨q0, q1, q2, q3, q4, q5, q6, d0, d1, d2, d3⟩) | go_keep)
  (first
   | (go_at_call 93; (with_reducible refine (HLK.out _ hv).mono ?_); rintro e w5 ⟨mb, rfl, hmb, hM, hq⟩; have hv := below_up hv hq; obtain ⟨q0, q1, q2, q3, q4, q5, q6⟩ := HCL.out _ hv; obtain ⟨d0, d1, d2, d3⟩ := HCT.out _ hv)
   | (go_at_call 94; (with_reducible refine (HEV.out _ mb hv hM).mono ?_); rintro e w6 ⟨R, ok, g, cap, n, hE, hn, rfl, ho, hq⟩; have hs5 := hv.size; have hv := below_up hv hq; obtain ⟨q0, q1, q2, q3, q4, q5, q6⟩ := HCL.out _ hv; obtain ⟨d0, d1, d2, d3⟩ := HCT.out _ hv)
   | fail)
 have HO := Lib.hid (ho.down (show w.heap.size ≤ w5.heap.size by have := HB1.out.size; omega))
 have HE := Lib.hid (And.intro hE hn)
 have HBZ := Lib.hid (below_up HB1.out hv)
 clear hE hn ho hv q0 q1 q2 q3 q4 q5 q6 d0 d1 d2 d3
 cases ok
 ·go_wp2_with fail
  go_ret2
  exact ⟨R, false, HE.out.1, .inl ⟨rfl, rfl, HBZ.out⟩⟩
 ·go_wp2_with fail
  go_ret2
  refine ⟨R, true, HE.out.1, .inr ⟨rfl, g, cap, ?_⟩⟩
  rw [HE.out.2]
  exact ⟨rfl, HO.out, HBZ.out⟩
theorem freeIn_is (s : Sto) (a : StA) (x : Tir) (k : Nat) (hk : s.tiers[k]? = some x) (hka : St.tierAt s.tiers x.name = (k : Int)) (w : World) (hI : StIn w s a) (hz : St.Szs s.files) (hc : s.copies.length ≤ 4000) (hr : 0 ≤ x.room ∧ x.room ≤ 1000000000000) :
  Calls Tryz.prog 36 #[.agg #[.int .i64 s.least, .int .i64 s.wait, .slice a.ta s.tiers.length a.tc, .slice a.fa s.files.length a.fc, .slice a.ca s.copies.length a.cc, .slice a.ha s.held.length a.hc, .slice a.ba s.bin.length a.bc], .string x.name] w fun e w' => e = .returned (.int .i64 (x.room - St.used s.files x.name s.copies)) ∧ Below w.heap.size w w' := by
 obtain ⟨W1, hW1, hP, hz1, hB1⟩ := box w #[.int .i64 s.least, .int .i64 s.wait, .slice a.ta s.tiers.length a.tc, .slice a.fa s.files.length a.fc, .slice a.ca s.copies.length a.cc, .slice a.ha s.held.length a.hc, .slice a.ba s.bin.length a.bc] 28
 have HW1 := Lib.hid hW1
 have HI1 := Lib.hid (hI.keep hB1)
 have q0 : W1.cell? ⟨w.heap.size, 0, none⟩ = some (.int .i64 s.least) := (hP.cell 0).trans rfl
 have q1 : W1.cell? ⟨w.heap.size, 1, none⟩ = some (.int .i64 s.wait) := (hP.cell 1).trans rfl
 have q2 : W1.cell? ⟨w.heap.size, 2, none⟩ = some (.slice a.ta s.tiers.length a.tc) := (hP.cell 2).trans rfl
 have q3 : W1.cell? ⟨w.heap.size, 3, none⟩ = some (.slice a.fa s.files.length a.fc) := (hP.cell 3).trans rfl
 have q4 : W1.cell? ⟨w.heap.size, 4, none⟩ = some (.slice a.ca s.copies.length a.cc) := (hP.cell 4).trans rfl
 have q5 : W1.cell? ⟨w.heap.size, 5, none⟩ = some (.slice a.ha s.held.length a.hc) := (hP.cell 5).trans rfl
 have q6 : W1.cell? ⟨w.heap.size, 6, none⟩ = some (.slice a.ba s.bin.length a.bc) := (hP.cell 6).trans rfl
 have HP := Lib.hid hP; have HB1 := Lib.hid hB1
 clear hW1 hP
 have hcl := hI.cl
 have htl := hI.tl
 have HZ := Lib.hid hz
 have hklt := (List.getElem?_eq_some_iff.1 hk).1
 have HT := Lib.hid (fun d os => Calls.regrown_of (w := W1) (d := d) (os := os) (tierOf_is s a x.name _ (HI1.out.keep (below_regrown W1 d os))))
 rw [hka] at HT
 obtain ⟨tb, toff, hta, htb, htc⟩ := HI1.out.ti (by omega)
 have t1 : W1.cell? ⟨tb, toff + k * 4 + 1, none⟩ = some (.int .i64 x.room) := htc k x hk 1 (.int .i64 x.room) rfl
 have HFO := Lib.hid (fun (d : ByteArray) W (hb : Below W1.heap.size W1 W) => fileOf_is s a d W (HI1.out.keep hb))
 have HCL : Hid (∀ W, Below W1.heap.size W1 W → W.cell? ⟨w.heap.size, 0, none⟩ = some (.int .i64 s.least) ∧ W.cell? ⟨w.heap.size, 1, none⟩ = some (.int .i64 s.wait) ∧ W.cell? ⟨w.heap.size, 2, none⟩ = some (.slice a.ta s.tiers.length a.tc) ∧ W.cell? ⟨w.heap.size, 3, none⟩ = some (.slice a.fa s.files.length a.fc) ∧ W.cell? ⟨w.heap.size, 4, none⟩ = some (.slice a.ca s.copies.length a.cc) ∧ W.cell? ⟨w.heap.size, 5, none⟩ = some (.slice a.ha s.held.length a.hc) ∧ W.cell? ⟨w.heap.size, 6, none⟩ = some (.slice a.ba s.bin.length a.bc)) := Lib.hid fun W hb =>
  have k := HP.out.keep hb
  ⟨(k.cell 0).trans rfl, (k.cell 1).trans rfl, (k.cell 2).trans rfl, (k.cell 3).trans rfl, (k.cell 4).trans rfl, (k.cell 5).trans rfl, (k.cell 6).trans rfl⟩
 obtain ⟨tot, htot⟩ : ∃ tot, x.room - St.used s.files x.name s.copies = tot := ⟨_, rfl⟩
 rw [htot]
 have hub := St.used_bd hz x.name s.copies
 have htt : -5000000000000 ≤ tot ∧ tot ≤ 1000000000000 := by omega
 have HT0 : Hid (x.room = tot + St.used s.files x.name (s.copies.drop 0)) := Lib.hid (by rw [List.drop_zero]; omega)
 clear hI hz htot hub hka htc hk
 obtain ⟨n, hn⟩ : ∃ n, s.copies.length = n := ⟨_, rfl⟩
 have HN := Lib.hid hn
 obtain ⟨nt, hnt⟩ : ∃ nt, s.tiers.length = nt := ⟨_, rfl⟩
 rw [hn] at q4 hcl hc HW1 HT HFO HCL ⊢
 rw [hnt] at q2 htl hklt HW1 HT HFO HCL ⊢
 rw [hta] at q2 HW1 HT HFO HCL ⊢
 clear hn hnt
 have hk0 : (0 : Int) ≤ (k : Int) := by omega
 have hk1 : (k : Int) < (nt : Int) := by omega
 go_enter Tryz.func36, Tryz.ntmps36
 go_wp2_with fail
 rw [HW1.out]
 have k0 := cell_regrown q0
 have k1 := cell_regrown q1
 have k2 := cell_regrown q2
 have k3 := cell_regrown q3
 have k4 := cell_regrown q4
 have k5 := cell_regrown q5
 have k6 := cell_regrown q6
 have k7 := cell_regrown t1
 refine wp_region_quiet_below (by kernel_rfl) (by kernel_rfl) ?_
 repeat (go_big_quiet_step ((go_at_call 72; with_reducible exact HT.out _ _)))
 refine wpQuiet_nil ?_
 intro _ hw'
 obtain ⟨⟨dq, osq⟩, hw''⟩ := hw'
 subst hw''
 have hBw2 := below_regrown W1 dq osq
 generalize grow (redrawn W1 dq) osq = w2 at *
 clear dq osq
 clear k0 k1 k2 k3 k4 k5 k6 k7 q0 q1 q2 q3 q4 q5 q6 t1
 obtain ⟨m0, m1, m2, m3, m4, m5, m6⟩ := HCL.out _ hBw2
 have HB2 := Lib.hid hBw2
 go_wp2_with fail
 clear m0 m1 m2 m3 m4 m5 m6 hBw2
 go_loopg [5, 21] n (fun gk v i wr => ∃ (j : Nat) (z : Int), j ≤ n ∧ gk = n - j ∧ i = .int .i64 j ∧ v = .int .i64 z ∧ z = tot + St.used s.files x.name (s.copies.drop j) ∧ Below W1.heap.size W1 wr)
 case atStart => exact ⟨0, x.room, by omega, rfl, rfl, rfl, HT0.out, HB2.out⟩
 case round =>
  obtain ⟨j, z, hj, rfl, rfl, rfl, hz, hB⟩ := hrel
  by_cases hlt : j < n
  ·obtain ⟨y, hy⟩ : ∃ y, s.copies[j]? = some y := ⟨_, List.getElem?_eq_getElem (by rw [HN.out]; exact hlt)⟩
   obtain ⟨b, off, ha, hb, hcell⟩ := (HI1.out.keep hB).co (by rw [HN.out]; omega)
   have c0 : wr.cell? ⟨b, off + j * 4, none⟩ = some (.string y.dig) := hcell j y hy 0 (.string y.dig) rfl
   have c1 : wr.cell? ⟨b, off + j * 4 + 1, none⟩ = some (.string y.tier) := hcell j y hy 1 (.string y.tier) rfl
   have c2 : wr.cell? ⟨b, off + j * 4 + 2, none⟩ = some (.bool y.good) := hcell j y hy 2 (.bool y.good) rfl
   have c3 : wr.cell? ⟨b, off + j * 4 + 3, none⟩ = some (.int .i64 y.asked) := hcell j y hy 3 (.int .i64 y.asked) rfl
   clear hcell
   obtain ⟨W3, hW3, hX3, hz3, hB3⟩ := box wr #[.string y.dig, .string y.tier, .bool y.good, .int .i64 y.asked] 74
   have HW3 := Lib.hid hW3
   have d0 : W3.cell? ⟨wr.heap.size, 0, none⟩ = some (.string y.dig) := (hX3.cell 0).trans rfl
   have d1 : W3.cell? ⟨wr.heap.size, 1, none⟩ = some (.string y.tier) := (hX3.cell 1).trans rfl
   have HAL := Lib.hid (below_up hB hB3)
   have HFF := Lib.hid (HFO.out y.dig _ HAL.out)
   obtain ⟨f, hf⟩ : ∃ f, St.filD s.files y.dig = f := ⟨_, rfl⟩
   obtain ⟨fb, hfb⟩ : ∃ fb, (St.fileOf s.files y.dig).isSome = fb := ⟨_, rfl⟩
   rw [hf, hfb] at HFF
   unfold St.fval at HFF
   have hfz : 0 ≤ f.size ∧ f.size ≤ 1000000000 := by rw [← hf, St.filD_size]; exact St.size_bd HZ.out y.dig
   have hstep := St.used_drop (F := s.files) (n := x.name) hy
   have hub := St.used_bd HZ.out x.name (s.copies.drop (j + 1))
   have hl1 : (s.copies.drop (j + 1)).length ≤ 4000 := by rw [List.length_drop]; have := HN.out; omega
   have hsz : St.sizeOf s.files y.dig = f.size := by rw [← hf, St.filD_size]
   rw [hsz] at hstep
   obtain ⟨m0, m1, m2, m3, m4, m5, m6⟩ := HCL.out _ HAL.out
   have hj0 : (0 : Int) ≤ (j : Int) := by omega
   have hj1 : (j : Int) < (n : Int) := by omega
   obtain ⟨ud, hud⟩ : ∃ ud, St.used s.files x.name (s.copies.drop (j + 1)) = ud := ⟨_, rfl⟩
   have HUD := Lib.hid hud
   rw [hud] at hstep hub
   clear hud
   obtain ⟨bq, hbq⟩ : ∃ bq, (y.tier.toList == x.name.toList) = bq := ⟨_, rfl⟩
   have hbq' : St.eq y.tier x.name = bq := hbq
   rw [hbq'] at hstep
   rw [hstep] at hz
   have hbnd : 0 ≤ ud ∧ ud ≤ 4000000000000 := by omega
   have HB3 := Lib.hid hB3
   clear hy hB hX3 hz3 hB3 hW3 hf hfb hsz hstep hub hl1 hbq'
   rw [ha] at m4 HFF ⊢
   cases bq
   ·rw [if_neg (by decide)] at hz
    have HZN : Hid (z = tot + ud) := Lib.hid (by omega)
    have hzb : -5000000000000 ≤ z ∧ z ≤ 5000000000000 := by omega
    clear hz
    go_upto_region 5 with fail
    rw [HW3.out]
    go_wp2_with fail
    rw [← ha]
    go_roundg (n - (j + 1))
    case rel => exact ⟨j + 1, z, by omega, rfl, by go_num, rfl, by rw [HUD.out]; exact HZN.out, HAL.out⟩
    case measure => omega
   ·rw [if_pos rfl] at hz
    have HZN : Hid (z - f.size = tot + ud) := Lib.hid (by omega)
    have hzb : -5000000000000 ≤ z ∧ z ≤ 5001000000000 := by omega
    clear hz
    go_upto_region 5 with fail
    rw [HW3.out]
    go_wp2_with (go_at_call 76; (with_reducible refine HFF.out.mono ?_); rintro e w4 ⟨rfl, hB4⟩)
    rw [← ha]
    go_roundg (n - (j + 1))
    case rel => exact ⟨j + 1, z - f.size, by omega, rfl, by go_num, rfl, by rw [HUD.out]; exact HZN.out, below_allocs (below_up HAL.out hB4) _⟩
    case measure => omega
  ·obtain rfl : j = n := by omega
   have hz2 : z = tot := by
    rw [hz, List.drop_eq_nil_of_le (by rw [HN.out]; exact Nat.le_refl _)]; simp [St.used]
   have HZ2 := Lib.hid hz2
   clear hz hz2
   go_wp2_with fail
   go_ret
   exact ⟨ret_int HZ2.out, below_up HB1.out hB⟩
def EvdPost (s : Sto) (t : Tir) (bytes : Int) (w : World) (e : Ending) (w' : World) : Prop :=
 ∃ R ok g cap n, EvRun s t bytes R ok ∧ R.length = n ∧ e = .returned (.tuple #[.slice g n cap, .bool ok]) ∧ OwnV w' w.heap.size 52 4 (.slice g n cap) n (St.eM.flat (R.map (St.drop_ t.name))) ∧ Below w.heap.size w w'
theorem evictedR_is (s : Sto) (a : StA) (t : Tir) (k : Nat) (hk : s.tiers[k]? = some t) (hka : St.tierAt s.tiers t.name = (k : Int)) (bytes : Int) (hby : 0 ≤ bytes ∧ bytes ≤ 1000000000000) (w : World) (hI : StIn w s a) (r : St.Right s) :
  Calls Tryz.prog 23 #[.agg #[.int .i64 s.least, .int .i64 s.wait, .slice a.ta s.tiers.length a.tc, .slice a.fa s.files.length a.fc, .slice a.ca s.copies.length a.cc, .slice a.ha s.held.length a.hc, .slice a.ba s.bin.length a.bc], .string t.name, .int .i64 bytes] w (EvdPost s t bytes w) := by
 obtain ⟨W1, hW1, hP, hz1, hB1⟩ := box w #[.int .i64 s.least, .int .i64 s.wait, .slice a.ta s.tiers.length a.tc, .slice a.fa s.files.length a.fc, .slice a.ca s.copies.length a.cc, .slice a.ha s.held.length a.hc, .slice a.ba s.bin.length a.bc] 28
 have HW1 := Lib.hid hW1
 have HI1 := Lib.hid (hI.keep hB1)
 have q0 : W1.cell? ⟨w.heap.size, 0, none⟩ = some (.int .i64 s.least) := (hP.cell 0).trans rfl
 have q1 : W1.cell? ⟨w.heap.size, 1, none⟩ = some (.int .i64 s.wait) := (hP.cell 1).trans rfl
 have q2 : W1.cell? ⟨w.heap.size, 2, none⟩ = some (.slice a.ta s.tiers.length a.tc) := (hP.cell 2).trans rfl
 have q3 : W1.cell? ⟨w.heap.size, 3, none⟩ = some (.slice a.fa s.files.length a.fc) := (hP.cell 3).trans rfl
 have q4 : W1.cell? ⟨w.heap.size, 4, none⟩ = some (.slice a.ca s.copies.length a.cc) := (hP.cell 4).trans rfl
 have q5 : W1.cell? ⟨w.heap.size, 5, none⟩ = some (.slice a.ha s.held.length a.hc) := (hP.cell 5).trans rfl
 have q6 : W1.cell? ⟨w.heap.size, 6, none⟩ = some (.slice a.ba s.bin.length a.bc) := (hP.cell 6).trans rfl
 have HP := Lib.hid hP; have HB1 := Lib.hid hB1
 clear hW1 hP
 have ht := List.mem_of_getElem? hk
 obtain ⟨_, y1, y2, y3, y4, y5⟩ := St.sizes_iff.1 r.sizes
 have hSZ := St.szs_of (F := s.files) (fun f hf => (r.dig f hf).2)
 have htg := St.tier_good r ht
 have hub := St.used_bd hSZ t.name s.copies
 have hrm := r.room t ht
 have HFI := Lib.hid (fun V (hv : Below W1.heap.size W1 V) => freeIn_is s a t k hk hka V (HI1.out.keep hv) hSZ y3 htg.2.1)
 have HGR := Lib.hid (fun V (hv : Below W1.heap.size W1 V) => goersR_is s a t.name V (HI1.out.keep hv) r)
 unfold GrsPost at HGR
 have HFO := Lib.hid (fun (d : ByteArray) V (hv : Below W1.heap.size W1 V) => fileOf_is s a d V (HI1.out.keep hv))
 have HCL : Hid (∀ W, Below W1.heap.size W1 W → W.cell? ⟨w.heap.size, 0, none⟩ = some (.int .i64 s.least) ∧ W.cell? ⟨w.heap.size, 1, none⟩ = some (.int .i64 s.wait) ∧ W.cell? ⟨w.heap.size, 2, none⟩ = some (.slice a.ta s.tiers.length a.tc) ∧ W.cell? ⟨w.heap.size, 3, none⟩ = some (.slice a.fa s.files.length a.fc) ∧ W.cell? ⟨w.heap.size, 4, none⟩ = some (.slice a.ca s.copies.length a.cc) ∧ W.cell? ⟨w.heap.size, 5, none⟩ = some (.slice a.ha s.held.length a.hc) ∧ W.cell? ⟨w.heap.size, 6, none⟩ = some (.slice a.ba s.bin.length a.bc)) := Lib.hid fun W hb => (HP.out.keep hb).seven
 have hsz := hz1
 obtain ⟨f0, hf0⟩ : ∃ f0, t.room - St.used s.files t.name s.copies = f0 := ⟨_, rfl⟩
 have hf0b : 0 ≤ f0 ∧ f0 ≤ 1000000000000 := by omega
 have HSZ := Lib.hid hSZ; have HF0 := Lib.hid hf0; have HS1 := Lib.hid hsz
 have HGL : Hid (∀ L, St.Goers s t.name L → L.length ≤ 8000) := Lib.hid fun L ⟨M, hL, hp, _⟩ => by
  have h1 : (St.evG s t.name).length ≤ s.copies.length := List.length_filter_le _ _
  have h2 : (St.evK s t.name).length ≤ s.copies.length := List.length_filter_le _ _
  rw [hL, List.length_append, hp.length_eq]; omega
 rw [hf0] at HFI
 obtain ⟨_, hby1⟩ := hby
 clear hI r hk hka ht y1 y2 y3 y4 y5 hSZ htg hub hrm hsz hz1 hf0
 go_enter Tryz.func23, Tryz.ntmps23
 go_upto_region 1 with fail
 rw [HW1.out]
 have hv : Below W1.heap.size W1 W1 := Below.refl _ _
 go_wp2_with (first
  | (go_at_call 36; (with_reducible refine (HFI.out _ hv).mono ?_); rintro e w3 ⟨rfl, hq⟩; have hv := below_up hv hq; clear q0 q1 q2 q3 q4 q5 q6; obtain ⟨q0, q1, q2, q3, q4, q5, q6⟩ := HCL.out _ hv)
  | (go_at_call 96; (with_reducible refine (HGR.out _ hv).mono ?_); rintro e w4 ⟨L, A, ca, hG, rfl, hL, hq⟩; have hv3 := hv.size; have hv := below_up hv hq; clear q0 q1 q2 q3 q4 q5 q6; obtain ⟨N, hN⟩ : ∃ N, L.length = N := ⟨_, rfl⟩; rw [hN] at hL ⊢))
 have HGO := Lib.hid hG; have HLN := Lib.hid hN
 have hN8 : N ≤ 8000 := by rw [← hN]; exact HGL.out _ hG
 have HAV := Lib.hid hv
 have HRE : Hid (RowE St.eC w4 A L) := Lib.hid (RowE.ofV (E := St.eC) (ca := ca) (by rw [hN]; exact hL))
 clear hG hN hL hv hq
 go_loopg [8, 9, 21] N (fun gk fv lv i wr => ∃ (j : Nat) (f : Int), j ≤ N ∧ gk = N - j ∧ i = .int .i64 j ∧ fv = .int .i64 f ∧ 0 ≤ f ∧ f ≤ 1000000000000 + 1000000000 * (j : Int) ∧ St.run s.files bytes L f0 = (L.take j ++ (St.run s.files bytes (L.drop j) f).1, (St.run s.files bytes (L.drop j) f).2) ∧ wr.ownsRow w4.heap.size 52 4 lv ((L.take j).map (St.drop_ t.name)).length (St.eM.flat ((L.take j).map (St.drop_ t.name))) ∧ Below w4.heap.size w4 wr)
 case atStart => exact ⟨0, f0, by omega, rfl, rfl, rfl, hf0b.1, by omega, rfl, World.ownsRow_nil _ _ _ _, Below.refl _ _⟩
 case round =>
  obtain ⟨j, f, hj, rfl, rfl, rfl, hf1, hf2, hrun, hown, hB⟩ := hrel
  have HRUN := Lib.hid hrun
  by_cases hlt : j < N
  ·obtain ⟨x, hx⟩ : ∃ x, L[j]? = some x := ⟨_, List.getElem?_eq_getElem (by rw [HLN.out]; exact hlt)⟩
   obtain ⟨b, off, ha, hb, hcell⟩ := (HRE.out.keep hB) (by rw [HLN.out]; omega)
   have c0 : wr.cell? ⟨b, off + j * 4, none⟩ = some (.string x.dig) := hcell j x hx 0 (.string x.dig) rfl
   have c1 : wr.cell? ⟨b, off + j * 4 + 1, none⟩ = some (.string x.tier) := hcell j x hx 1 (.string x.tier) rfl
   have c2 : wr.cell? ⟨b, off + j * 4 + 2, none⟩ = some (.bool x.good) := hcell j x hx 2 (.bool x.good) rfl
   have c3 : wr.cell? ⟨b, off + j * 4 + 3, none⟩ = some (.int .i64 x.asked) := hcell j x hx 3 (.int .i64 x.asked) rfl
   clear hcell
   have hdr : L.drop j = x :: L.drop (j + 1) := by
    rw [List.drop_eq_getElem_cons (by rw [HLN.out]; exact hlt)]
    congr 1
    exact Option.some.inj ((List.getElem?_eq_getElem (by rw [HLN.out]; exact hlt)).symm.trans hx)
   have htk : L.take (j + 1) = L.take j ++ [x] := by rw [List.take_add_one, hx]; rfl
   obtain ⟨W3, hW3, hX3, hz3, hB3⟩ := box wr #[.string x.dig, .string x.tier, .bool x.good, .int .i64 x.asked] 74
   have HW3 := Lib.hid hW3
   have HAW := Lib.hid (below_up hB hB3)
   have HAV3 := Lib.hid (below_up HAV.out HAW.out)
   have HX : Hid (∀ V, Below W3.heap.size W3 V → V.cell? ⟨wr.heap.size, 0, none⟩ = some (.string x.dig) ∧ V.cell? ⟨wr.heap.size, 1, none⟩ = some (.string x.tier) ∧ V.cell? ⟨wr.heap.size, 2, none⟩ = some (.bool x.good) ∧ V.cell? ⟨wr.heap.size, 3, none⟩ = some (.int .i64 x.asked)) := Lib.hid fun V hv => (hX3.keep hv).four
   have hown3 := own_keepE hown hB3
   obtain ⟨fl, hf⟩ : ∃ fl, St.filD s.files x.dig = fl := ⟨_, rfl⟩
   obtain ⟨fb, hfb⟩ : ∃ fb, (St.fileOf s.files x.dig).isSome = fb := ⟨_, rfl⟩
   have HFF := Lib.hid (HFO.out x.dig _ HAV3.out)
   rw [hf, hfb] at HFF
   unfold St.fval at HFF
   have hfz : 0 ≤ fl.size ∧ fl.size ≤ 1000000000 := by rw [← hf, St.filD_size]; exact St.size_bd HSZ.out x.dig
   have hsz : St.sizeOf s.files x.dig = fl.size := by rw [← hf, St.filD_size]
   have HRN := Lib.hid (fun h : ¬ bytes ≤ f => (congrArg (fun l => St.run s.files bytes l f) hdr).trans (St.run_next h))
   rw [hsz] at HRN
   have HTK := Lib.hid htk
   have hj0 : (0 : Int) ≤ (j : Int) := by omega
   have hj1 : (j : Int) < (N : Int) := by omega
   have hj8 : (j : Int) ≤ 8000 := by omega
   obtain ⟨e0, e1, e2, e3⟩ := HX.out _ (Below.refl _ _)
   obtain ⟨n0, n1, n2, n3, n4, n5, n6⟩ := HCL.out _ HAV3.out
   obtain ⟨m, hm⟩ : ∃ m, ((L.take j).map (St.drop_ t.name)).length = m := ⟨_, rfl⟩
   have hm8 : m ≤ 8000 := by rw [← hm, List.length_map, List.length_take]; omega
   obtain ⟨FL, hFL⟩ : ∃ FL, St.eM.flat ((L.take j).map (St.drop_ t.name)) = FL := ⟨_, rfl⟩
   have HMF := Lib.hid (And.intro hm hFL)
   rw [hm, hFL] at hown3
   clear hx hB hX3 hz3 hB3 hW3 hown hdr htk hf hfb hrun hm hFL hsz
   rw [ha]
   by_cases hge : bytes ≤ f
   ·have hrun := HRUN.out
    rw [St.run_stop hge, List.append_nil] at hrun
    have HRU := Lib.hid hrun
    have HO := Lib.hid ((OwnV.of_own hown3).down (show w.heap.size ≤ w4.heap.size by have := HS1.out; have := HAV.out.size; omega))
    obtain ⟨g, cap, rfl⟩ := ownV_slice (OwnV.of_own hown3)
    have HBZ := Lib.hid (below_up HB1.out HAV3.out)
    clear hown3 hrun HRUN
    have hgb : decide (bytes ≤ f) = true := decide_eq_true hge
    have hgt : (bytes ≤ f) = True := eq_true hge
    go_upto_region 6 with fail
    rw [HW3.out]
    clear c0 c1 c2 c3
    go_wp2_with fail
    go_ret2
    refine ⟨L.take j, true, g, cap, m, ⟨L, f, HGO.out, by rw [HF0.out]; exact HRU.out, by simp [hge]⟩, ?_, (by simp), ?_, HBZ.out⟩
    ·rw [← HMF.out.1, List.length_map]
    ·rw [HMF.out.2]; exact HO.out
   ·have hrun : St.run s.files bytes L f0 = (L.take (j + 1) ++ (St.run s.files bytes (L.drop (j + 1)) (f + fl.size)).1, (St.run s.files bytes (L.drop (j + 1)) (f + fl.size)).2) := by
     rw [HRUN.out, HRN.out hge, HTK.out, List.append_assoc]; rfl
    have HRU := Lib.hid hrun
    have HM1 : Hid (((L.take (j + 1)).map (St.drop_ t.name)).length = m + 1) := Lib.hid (by rw [HTK.out, List.map_append, List.length_append, HMF.out.1]; rfl)
    have HF1 : Hid (St.eM.flat ((L.take (j + 1)).map (St.drop_ t.name)) = FL ++ [.int .i64 2, .string x.dig, .string t.name, .string ByteArray.empty]) := Lib.hid (by rw [HTK.out, List.map_append, Enc.flat_append, HMF.out.2]; rfl)
    clear hrun HRUN
    have hgb : decide (bytes ≤ f) = false := decide_eq_false hge
    have hgt : (bytes ≤ f) = False := eq_false hge
    go_upto_region 6 with fail
    rw [HW3.out]
    clear c0 c1 c2 c3
    go_upto_region 8 with (go_at_call 76; (with_reducible refine HFF.out.mono ?_); rintro e w5 ⟨rfl, hB5⟩)
    obtain ⟨W6, hW6, hX6, hz6, hB6⟩ := box w5 #[.string fl.dig, .int .i64 fl.size, .int .i64 fl.kind, .string fl.frm] 30
    have HW6 := Lib.hid hW6
    have HB6 := Lib.hid (below_up hB5 hB6)
    have HA6 := Lib.hid (below_up HAW.out HB6.out)
    have hown6 := own_keepE hown3 HB6.out
    have hs6 := HA6.out.size
    obtain ⟨u0, u1, u2, u3⟩ := hX6.four
    rw [HW6.out]
    clear e0 e1 e2 e3 n0 n1 n2 n3 n4 n5 n6
    obtain ⟨e0, e1, e2, e3⟩ := HX.out _ HB6.out
    clear hW6 hX6 hz6 hB6 hB5
    go_wp2_with (at_builtin; refine list_appM rfl _ _ rfl _ _ m FL (by rfl) (by rfl) hown6 (by omega) (by omega) (by rfl) (by simp [Value.oneCell']) ?_; intro g8 cap8 w8 hown8 hgrow8; have hB8 := below_grownE (below_allocs HA6.out _) (hown6.alloc _) hgrow8 (by simp; omega))
    rw [← ha]
    go_roundg (N - (j + 1))
    case rel => exact ⟨j + 1, f + fl.size, by omega, rfl, by go_num, rfl, by omega, by omega, HRU.out, by rw [HM1.out, HF1.out]; exact hown8, hB8⟩
    case measure => omega
  ·obtain rfl : N = j := by omega
   have hrun := HRUN.out
   rw [← HLN.out, List.take_length, List.drop_length] at hrun
   rw [← HLN.out, List.take_length] at hown
   obtain ⟨mm, hmm⟩ : ∃ mm, (L.map (St.drop_ t.name)).length = mm := ⟨_, rfl⟩
   have HMM := Lib.hid hmm
   rw [hmm] at hown
   have HO := Lib.hid ((OwnV.of_own hown).down (show w.heap.size ≤ w4.heap.size by have := HS1.out; have := HAV.out.size; omega))
   obtain ⟨g, cap, rfl⟩ := ownV_slice (OwnV.of_own hown)
   have HRU := Lib.hid hrun
   have HBZ := Lib.hid (below_up HB1.out (below_up HAV.out hB))
   clear hown hrun hB HRUN hmm
   go_wp2_with fail
   go_ret2
   refine ⟨L, _, g, cap, mm, ⟨L, f, HGO.out, by rw [HF0.out]; exact HRU.out.trans (by rw [St.run, List.append_nil]), rfl⟩, by rw [← HMM.out, List.length_map], (by simp), HO.out, HBZ.out⟩

theorem neMov (k : Int) (d f t : ByteArray) (w : World) : Sem.run Tryz.prog (binOp .neq 52 (.agg #[.int .i64 k, .string d, .string f, .string t]) (.agg #[.int .i64 k, .string d, .string f, .string t])) w = .ok (.bool false) w := by
 have u3 := Tryz.underlying3
 have a3 := Tryz.isAgg3
 have z3 := Tryz.sizeOf3
 have u9 := Tryz.underlying9
 have a9 := Tryz.isAgg9
 have z9 := Tryz.sizeOf9
 have u4 := Tryz.underlying4
 have a4 := Tryz.isAgg4
 have z4 := Tryz.sizeOf4
 have hS : Tryz.prog.underlying 52 = some (.struct (Tryz.prog.fieldsOf 52)) := by kernel_rfl
 have hp : Tryz.prog.stoodInHeld 52 = false := by kernel_rfl
 rw [run_neq_struct, show (10000 : Nat) = 9999 + 1 from rfl, run_equalIn_agg w 9999 52 _ _ hS hp]
 simp only [Program.fieldsOf, Tryz.underlying52]
 go_simp
 try simp
theorem guardMov : Tryz.prog.eqGuardType Tryz.prog.depth 52 = false := by kernel_rfl
theorem eqM_same (O : List Mov) (a b : Option Addr) (ca cb : Nat) (w : World) (hx : RowE St.eM w a O) (hy : RowE St.eM w b O) (hn : O.length ≤ 9223372036854775807) :
  Calls Tryz.prog 24 #[.slice a O.length ca, .slice b O.length cb] w fun e w' => e = .returned (.bool true) ∧ Below w.heap.size w w' := by
 have HX := Lib.hid hx; have HY := Lib.hid hy
 obtain ⟨n, hnn⟩ : ∃ n, O.length = n := ⟨_, rfl⟩
 have HN := Lib.hid hnn
 rw [hnn] at hn ⊢
 have hl' : ((n : Int) == (n : Int)) = true := by simp
 clear hx hy hnn
 go_enter Tryz.func24, Tryz.ntmps24
 go_wp2_with fail
 go_loopg [13] n (fun gk i wr => ∃ j : Nat, j ≤ n ∧ gk = n - j ∧ i = .int .i64 j ∧ Below w.heap.size w wr)
 case atStart => exact ⟨0, by omega, rfl, rfl, Below.refl _ _⟩
 case round =>
  obtain ⟨j, hj, rfl, rfl, hB⟩ := hrel
  by_cases hlt : j < n
  ·obtain ⟨x, hq⟩ : ∃ x, O[j]? = some x := ⟨_, List.getElem?_eq_getElem (by rw [HN.out]; exact hlt)⟩
   obtain ⟨b1, o1, ha1, hb1, hc1⟩ := HX.out.keep hB (by rw [HN.out]; omega)
   obtain ⟨b2, o2, ha2, hb2, hc2⟩ := HY.out.keep hB (by rw [HN.out]; omega)
   have c0 : wr.cell? ⟨b1, o1 + j * 4, none⟩ = some (.int .i64 x.kind) := hc1 j x hq 0 (.int .i64 x.kind) rfl
   have c1 : wr.cell? ⟨b1, o1 + j * 4 + 1, none⟩ = some (.string x.dig) := hc1 j x hq 1 (.string x.dig) rfl
   have c2 : wr.cell? ⟨b1, o1 + j * 4 + 2, none⟩ = some (.string x.frm) := hc1 j x hq 2 (.string x.frm) rfl
   have c3 : wr.cell? ⟨b1, o1 + j * 4 + 3, none⟩ = some (.string x.dst) := hc1 j x hq 3 (.string x.dst) rfl
   have d0 : wr.cell? ⟨b2, o2 + j * 4, none⟩ = some (.int .i64 x.kind) := hc2 j x hq 0 (.int .i64 x.kind) rfl
   have d1 : wr.cell? ⟨b2, o2 + j * 4 + 1, none⟩ = some (.string x.dig) := hc2 j x hq 1 (.string x.dig) rfl
   have d2 : wr.cell? ⟨b2, o2 + j * 4 + 2, none⟩ = some (.string x.frm) := hc2 j x hq 2 (.string x.frm) rfl
   have d3 : wr.cell? ⟨b2, o2 + j * 4 + 3, none⟩ = some (.string x.dst) := hc2 j x hq 3 (.string x.dst) rfl
   have hj0 : (0 : Int) ≤ (j : Int) := by omega
   have hj1 : (j : Int) < (n : Int) := by omega
   have hne := neMov x.kind x.dig x.frm x.dst
   have hgd := guardMov
   clear hc1 hc2 hq
   rw [ha1, ha2]
   go_wp2_with fail
   go_quiet (fail)
   go_wp2_with fail
   rw [← ha1, ← ha2]
   go_roundg (n - (j + 1))
   case rel => exact ⟨j + 1, by omega, rfl, by go_num, below_drewN hB _⟩
   case measure => omega
  ·obtain rfl : j = n := by omega
   have hjn : ¬ ((j : Int) < (j : Int)) := by omega
   go_wp2_with fail
   go_ret
   exact ⟨rfl, hB⟩
theorem keptError_is (s : Sto) (a : StA) (w : World) (hI : StIn w s a) :
  Calls Tryz.prog 79 #[.agg #[.int .i64 s.least, .int .i64 s.wait, .slice a.ta s.tiers.length a.tc, .slice a.fa s.files.length a.fc, .slice a.ca s.copies.length a.cc, .slice a.ha s.held.length a.hc, .slice a.ba s.bin.length a.bc]] w fun e w' => e = .returned (.int .i64 (St.keptE s)) ∧ Below w.heap.size w w' := by
 obtain ⟨W1, hW1, hP, hz1, hB1⟩ := box w #[.int .i64 s.least, .int .i64 s.wait, .slice a.ta s.tiers.length a.tc, .slice a.fa s.files.length a.fc, .slice a.ca s.copies.length a.cc, .slice a.ha s.held.length a.hc, .slice a.ba s.bin.length a.bc] 28
 have HW1 := Lib.hid hW1
 have HI1 := Lib.hid (hI.keep hB1)
 have q0 : W1.cell? ⟨w.heap.size, 0, none⟩ = some (.int .i64 s.least) := (hP.cell 0).trans rfl
 have q1 : W1.cell? ⟨w.heap.size, 1, none⟩ = some (.int .i64 s.wait) := (hP.cell 1).trans rfl
 have q2 : W1.cell? ⟨w.heap.size, 2, none⟩ = some (.slice a.ta s.tiers.length a.tc) := (hP.cell 2).trans rfl
 have q3 : W1.cell? ⟨w.heap.size, 3, none⟩ = some (.slice a.fa s.files.length a.fc) := (hP.cell 3).trans rfl
 have q4 : W1.cell? ⟨w.heap.size, 4, none⟩ = some (.slice a.ca s.copies.length a.cc) := (hP.cell 4).trans rfl
 have q5 : W1.cell? ⟨w.heap.size, 5, none⟩ = some (.slice a.ha s.held.length a.hc) := (hP.cell 5).trans rfl
 have q6 : W1.cell? ⟨w.heap.size, 6, none⟩ = some (.slice a.ba s.bin.length a.bc) := (hP.cell 6).trans rfl
 have HP := Lib.hid hP; have HB1 := Lib.hid hB1
 clear hW1 hP
 have hhl := hI.hl; have hbl := hI.bl
 obtain ⟨qa, hqa⟩ : ∃ qa, St.scan (St.heldE s.files) [] s.held = qa := ⟨_, rfl⟩
 obtain ⟨qb, hqb⟩ : ∃ qb, St.scan (St.binE s.files s.held) [] s.bin = qb := ⟨_, rfl⟩
 have HF : Hid (St.keptE s = if qa = 0 then qb else qa) := Lib.hid (by unfold St.keptE; rw [hqa, hqb])
 have HQ1 : Hid (St.scan (St.heldE s.files) (s.held.take 0) (s.held.drop 0) = qa) := Lib.hid hqa
 have HQ2 : Hid (St.scan (St.binE s.files s.held) (s.bin.take 0) (s.bin.drop 0) = qb) := Lib.hid hqb
 have HOR := Lib.hid (fun (d : ByteArray) W (hb : Below W1.heap.size W1 W) => original_is s a d W (HI1.out.keep hb))
 have HHS := Lib.hid (fun (d : ByteArray) W (hb : Below W1.heap.size W1 W) => containsS_is s.held a.ha a.hc d W (HI1.out.keep hb).he hhl)
 have HID := Lib.hid (fun (n : Int) W => inS_is n 0 73048 W)
 have HCL : Hid (∀ W, Below W1.heap.size W1 W → W.cell? ⟨w.heap.size, 0, none⟩ = some (.int .i64 s.least) ∧ W.cell? ⟨w.heap.size, 1, none⟩ = some (.int .i64 s.wait) ∧ W.cell? ⟨w.heap.size, 2, none⟩ = some (.slice a.ta s.tiers.length a.tc) ∧ W.cell? ⟨w.heap.size, 3, none⟩ = some (.slice a.fa s.files.length a.fc) ∧ W.cell? ⟨w.heap.size, 4, none⟩ = some (.slice a.ca s.copies.length a.cc) ∧ W.cell? ⟨w.heap.size, 5, none⟩ = some (.slice a.ha s.held.length a.hc) ∧ W.cell? ⟨w.heap.size, 6, none⟩ = some (.slice a.ba s.bin.length a.bc)) := Lib.hid fun W hb =>
  have k := HP.out.keep hb
  ⟨(k.cell 0).trans rfl, (k.cell 1).trans rfl, (k.cell 2).trans rfl, (k.cell 3).trans rfl, (k.cell 4).trans rfl, (k.cell 5).trans rfl, (k.cell 6).trans rfl⟩
 clear hI hqa hqb
 obtain ⟨n, hn⟩ : ∃ n, s.held.length = n := ⟨_, rfl⟩
 have HN := Lib.hid hn
 obtain ⟨nt, hnt⟩ : ∃ nt, s.bin.length = nt := ⟨_, rfl⟩
 have HNT := Lib.hid hnt
 rw [hn] at q5 hhl HW1 HOR HHS HCL ⊢
 rw [hnt] at q6 hbl HW1 HOR HCL ⊢
 clear hn hnt
 go_enter Tryz.func79, Tryz.ntmps79
 go_wp2_with fail
 rw [HW1.out]
 go_wp2_with fail
 clear q0 q1 q2 q3 q4 q5 q6
 go_loopg [10] n (fun gk i wr => ∃ j : Nat, j ≤ n ∧ gk = n - j ∧ i = .int .i64 j ∧ St.scan (St.heldE s.files) (s.held.take j) (s.held.drop j) = qa ∧ Below W1.heap.size W1 wr)
 case atStart => exact ⟨0, by omega, rfl, rfl, HQ1.out, Below.refl _ _⟩
 case round =>
  obtain ⟨j, hj, rfl, rfl, hs, hBW⟩ := hrel
  have HS := Lib.hid hs; clear hs
  have HBR := Lib.hid (below_up HB1.out hBW)
  by_cases hlt : j < n
  ·obtain ⟨x, hx⟩ : ∃ x, s.held[j]? = some x := ⟨_, List.getElem?_eq_getElem (by rw [HN.out]; exact hlt)⟩
   obtain ⟨b, off, ha, hb, hcell⟩ := (HI1.out.keep hBW).he (by rw [HN.out]; omega)
   have HCE : Hid (∀ (W : World), Below W1.heap.size W1 W → ∀ (i : Nat) (y : ByteArray), s.held[i]? = some y → W.cell? ⟨b, off + i, none⟩ = some (.string y)) := Lib.hid fun W hb i y hy => by
    obtain ⟨b2, off2, ha2, hb2, hc2⟩ := (HI1.out.keep hb).he (by rw [HN.out]; omega)
    rw [ha] at ha2; cases ha2
    have := hc2 i y hy 0 (.string y) rfl
    rw [show off + i * St.eS.k + 0 = off + i by simp [St.eS]] at this
    exact this
   have c0 := HCE.out _ hBW j x hx
   clear hcell
   have HX := Lib.hid hx
   obtain ⟨kd, hkd⟩ : ∃ kd, decide (St.kindOf s.files x = 1) = kd := ⟨_, rfl⟩
   have HOX := Lib.hid (HOR.out x _ hBW)
   rw [hkd] at HOX
   have HDF : Hid (St.heldE s.files (s.held.take j) x = if kd = true then (match (s.held.take j).getLast? with | some p => (if St.le x p = true then 5 else 0) | none => 0) else 7) := Lib.hid (by unfold St.heldE; rw [← hkd]; simp only [decide_eq_true_eq]; rfl)
   obtain ⟨m0, m1, m2, m3, m4, m5, m6⟩ := HCL.out _ hBW
   have hj0 : (0 : Int) ≤ (j : Int) := by omega
   have hj1 : (j : Int) < (n : Int) := by omega
   have HBW := Lib.hid hBW
   clear hx hkd hBW
   rw [ha] at m5 HOX HCL ⊢
   cases kd
   ·have HBD : Hid (St.heldE s.files (s.held.take j) x = 7) := Lib.hid (by rw [HDF.out]; rfl)
    have HE := Lib.hid (St.scan_here HS.out HX.out (by rw [HBD.out]; decide))
    go_wp2_with (go_at_call 75; (with_reducible refine HOX.out.mono ?_); rintro e w6 ⟨rfl, hB6⟩)
    go_ret
    exact ⟨ret_int (by rw [HF.out, HE.out, HBD.out]; rfl), below_up HBR.out hB6⟩
   ·have HDG : Hid (St.heldE s.files (s.held.take j) x = (match (s.held.take j).getLast? with | some p => (if St.le x p = true then 5 else 0) | none => 0)) := Lib.hid (by rw [HDF.out, if_pos rfl])
    go_upto_region 6 with (go_at_call 75; (with_reducible refine HOX.out.mono ?_); rintro e w6 ⟨rfl, hB6⟩; have HBJ := Lib.hid (below_up HBW.out hB6); have HAL := Lib.hid (below_up HBR.out hB6))
    clear m0 m1 m2 m3 m4 m5 m6 c0
    obtain ⟨m0, m1, m2, m3, m4, m5, m6⟩ := HCL.out _ HBJ.out
    rcases Nat.eq_zero_or_pos j with rfl | hjp
    ·have HBD : Hid (St.heldE s.files (s.held.take 0) x = 0) := Lib.hid (by rw [HDG.out, St.last_zero])
     have HE := Lib.hid (St.scan_next HS.out HX.out HBD.out)
     go_wp2_with fail
     rw [← ha]
     go_roundg (n - (0 + 1))
     case rel => exact ⟨0 + 1, by omega, rfl, by go_num, HE.out, HBJ.out⟩
     case measure => omega
    ·obtain ⟨p, hp, hlast⟩ := St.last_at (L := s.held) (by rw [HN.out]; exact hlt) hjp
     obtain ⟨i, rfl⟩ : ∃ i, j = i + 1 := ⟨j - 1, by omega⟩
     rw [Nat.add_sub_cancel] at hp
     have p0 := HCE.out _ HBJ.out i p hp
     obtain ⟨bl, hbq⟩ : ∃ bl, (Op.bytesLess x.toList p.toList || x.toList == p.toList) = bl := ⟨_, rfl⟩
     have HBQ : Hid (St.le x p = bl) := Lib.hid hbq
     have HDZ : Hid (St.heldE s.files (s.held.take (i + 1)) x = if bl = true then 5 else 0) := Lib.hid (by rw [HDG.out, hlast, ← HBQ.out])
     clear hp hlast
     cases bl
     ·have HBD : Hid (St.heldE s.files (s.held.take (i + 1)) x = 0) := Lib.hid (by rw [HDZ.out]; rfl)
      have HE := Lib.hid (St.scan_next HS.out HX.out HBD.out)
      go_wp2_with fail
      rw [← ha]
      go_roundg (n - (i + 1 + 1))
      case rel => exact ⟨i + 1 + 1, by omega, rfl, by go_num, HE.out, HBJ.out⟩
      case measure => omega
     ·have HBD : Hid (St.heldE s.files (s.held.take (i + 1)) x = 5) := Lib.hid (by rw [HDZ.out]; rfl)
      have HE := Lib.hid (St.scan_here HS.out HX.out (by rw [HBD.out]; decide))
      go_wp2_with fail
      go_ret
      exact ⟨ret_int (by rw [HF.out, HE.out, HBD.out]; rfl), HAL.out⟩
  ·obtain rfl : j = n := by omega
   have HE := HS.out
   rw [← HN.out] at HE
   have hq0 := St.scan_done HE
   have HF2 : Hid (St.keptE s = qb) := Lib.hid (by rw [HF.out, if_pos hq0])
   clear HE hq0
   obtain ⟨m0, m1, m2, m3, m4, m5, m6⟩ := HCL.out _ hBW
   have HBK := Lib.hid hBW
   clear hBW
   go_wp2_with fail
   clear m0 m1 m2 m3 m4 m5 m6
   go_loopg [35] nt (fun gk i wq => ∃ k : Nat, k ≤ nt ∧ gk = nt - k ∧ i = .int .i64 k ∧ St.scan (St.binE s.files s.held) (s.bin.take k) (s.bin.drop k) = qb ∧ Below W1.heap.size W1 wq)
   case atStart => exact ⟨0, by omega, rfl, rfl, HQ2.out, HBK.out⟩
   case round =>
    obtain ⟨k, hk, rfl, rfl, hs, hBWq⟩ := hrel
    have HS2 := Lib.hid hs; clear hs
    have HBQ := Lib.hid (below_up HB1.out hBWq)
    by_cases hlt2 : k < nt
    ·obtain ⟨x, hx⟩ : ∃ x, s.bin[k]? = some x := ⟨_, List.getElem?_eq_getElem (by rw [HNT.out]; exact hlt2)⟩
     obtain ⟨b, off, ha, hb, hcell⟩ := (HI1.out.keep hBWq).bi (by rw [HNT.out]; omega)
     have c0 : wr.cell? ⟨b, off + k * 2, none⟩ = some (.string x.dig) := hcell k x hx 0 (.string x.dig) rfl
     have c1 : wr.cell? ⟨b, off + k * 2 + 1, none⟩ = some (.int .i64 x.day) := hcell k x hx 1 (.int .i64 x.day) rfl
     clear hcell
     have HX := Lib.hid hx
     obtain ⟨W3, hW3, hX3, hz3, hB3⟩ := box wr #[.string x.dig, .int .i64 x.day] 112
     have HW3 := Lib.hid hW3
     have HD : Hid (∀ W, Below W3.heap.size W3 W → W.cell? ⟨wr.heap.size, 0, none⟩ = some (.string x.dig) ∧ W.cell? ⟨wr.heap.size, 1, none⟩ = some (.int .i64 x.day)) := Lib.hid fun W hb =>
      have k := hX3.keep hb
      ⟨(k.cell 0).trans rfl, (k.cell 1).trans rfl⟩
     obtain ⟨d0, d1⟩ := HD.out _ (Below.refl _ _)
     have HAL3 := Lib.hid (below_up HBQ.out hB3)
     have HAW3 := Lib.hid (below_up hBWq hB3)
     obtain ⟨kd, hkd⟩ : ∃ kd, decide (St.kindOf s.files x.dig = 1) = kd := ⟨_, rfl⟩
     have HOX := Lib.hid (HOR.out x.dig _ HAW3.out)
     rw [hkd] at HOX
     have HDF : Hid (St.binE s.files s.held (s.bin.take k) x = if kd = true then (match (s.bin.take k).getLast? with | some p => (if St.le x.dig p.dig = true then 5 else St.binR s.held x) | none => St.binR s.held x) else 7) := Lib.hid (by unfold St.binE; rw [← hkd]; simp only [decide_eq_true_eq]; rfl)
     obtain ⟨m0, m1, m2, m3, m4, m5, m6⟩ := HCL.out _ HAW3.out
     have hj0 : (0 : Int) ≤ (k : Int) := by omega
     have hj1 : (k : Int) < (nt : Int) := by omega
     have HPV : Hid (∀ W, Below W1.heap.size W1 W → ∀ (i : Nat) (y : Gon), s.bin[i]? = some y → W.cell? ⟨b, off + i * 2, none⟩ = some (.string y.dig)) := Lib.hid fun W hb i y hy => by
      obtain ⟨b2, off2, ha2, hb2, hc2⟩ := (HI1.out.keep hb).bi (by rw [HNT.out]; omega)
      rw [ha] at ha2; cases ha2
      exact hc2 i y hy 0 _ rfl
     clear hx hX3 hz3 hB3 hW3 hBWq hkd
     rw [ha] at m6 HOX HCL ⊢
     cases kd
     ·have HBD : Hid (St.binE s.files s.held (s.bin.take k) x = 7) := Lib.hid (by rw [HDF.out]; rfl)
      have HE := Lib.hid (St.scan_here HS2.out HX.out (by rw [HBD.out]; decide))
      go_upto_region 12 with fail
      rw [HW3.out]
      go_wp2_with (go_at_call 75; (with_reducible refine HOX.out.mono ?_); rintro e w6 ⟨rfl, hB6⟩)
      go_ret
      exact ⟨ret_int (by rw [HF2.out, HE.out, HBD.out]), below_up HAL3.out hB6⟩
     ·have HDG : Hid (St.binE s.files s.held (s.bin.take k) x = (match (s.bin.take k).getLast? with | some p => (if St.le x.dig p.dig = true then 5 else St.binR s.held x) | none => St.binR s.held x)) := Lib.hid (by rw [HDF.out, if_pos rfl])
      obtain ⟨dy, hdy⟩ : ∃ dy, St.inB x.day 0 73048 = dy := ⟨_, rfl⟩
      have HDY := Lib.hid hdy
      clear hdy
      go_upto_region 12 with fail
      rw [HW3.out]
      go_upto_region 14 with (go_at_call 75; (with_reducible refine HOX.out.mono ?_); rintro e w6 ⟨rfl, hB6⟩; have HB36 := Lib.hid hB6)
      have HAL6 := Lib.hid (below_up HAL3.out HB36.out)
      have HAW6 := Lib.hid (below_up HAW3.out HB36.out)
      have HAQ6 := HAW6
      clear c0 c1 m0 m1 m2 m3 m4 m5 m6 d0 d1
      obtain ⟨d0, d1⟩ := HD.out _ HB36.out
      obtain ⟨m0, m1, m2, m3, m4, m5, m6⟩ := HCL.out _ HAW6.out
      have k0 := cell_regrown d0
      have k6 := cell_regrown m6
      clear m0 m1 m2 m3 m4 m5 m6 d0 d1
      rcases Nat.eq_zero_or_pos k with rfl | hjp
      ·have HDZ : Hid (St.binE s.files s.held (s.bin.take 0) x = St.binR s.held x) := Lib.hid (by rw [HDG.out, St.last_zero])
       refine wp_region_quiet_below (by kernel_rfl) (by kernel_rfl) ?_
       repeat (go_big_quiet_step ((fail)))
       refine wpQuiet_nil ?_
       intro _ hw'
       obtain ⟨⟨dq, osq⟩, hw''⟩ := hw'
       subst hw''
       have hBw7 := below_regrown w6 dq osq
       generalize grow (redrawn w6 dq) osq = w7 at *
       clear dq osq
       clear k0 k6
       obtain ⟨d0, d1⟩ := HD.out _ (below_up HB36.out hBw7)
       obtain ⟨m0, m1, m2, m3, m4, m5, m6⟩ := HCL.out _ (below_up HAW6.out hBw7)
       have HAW7 := Lib.hid (below_up HAW6.out hBw7)
       have HAL7 := Lib.hid (below_up HAL6.out hBw7)
       have HAQ7 := Lib.hid (below_up HAQ6.out hBw7)
       have HH2 := Lib.hid (HHS.out x.dig _ HAW7.out)
       cases dy
       ·have HBD : Hid (St.binE s.files s.held (s.bin.take (0)) x = 2) := Lib.hid (by rw [HDZ.out]; unfold St.binR; rw [HDY.out]; rfl)
        have HE := Lib.hid (St.scan_here HS2.out HX.out (by rw [HBD.out]; decide))
        go_wp2_with (go_at_call 70; (with_reducible refine (HID.out _ _).mono ?_); rw [HDY.out]; rintro e w8 ⟨rfl, rfl⟩)
        go_ret
        exact ⟨ret_int (by rw [HF2.out, HE.out, HBD.out]), HAL7.out⟩
       ·obtain ⟨hh, hhh⟩ : ∃ hh, St.hasS s.held x.dig = hh := ⟨_, rfl⟩
        have HBR2 : Hid (St.binE s.files s.held (s.bin.take (0)) x = if hh = true then 6 else 0) := Lib.hid (by rw [HDZ.out]; unfold St.binR; rw [HDY.out, hhh]; rfl)
        rw [hhh] at HH2
        clear hhh
        cases hh
        ·have HBD : Hid (St.binE s.files s.held (s.bin.take (0)) x = 0) := Lib.hid (by rw [HBR2.out]; rfl)
         have HE := Lib.hid (St.scan_next HS2.out HX.out HBD.out)
         go_wp2_with (first | (go_at_call 70; (with_reducible refine (HID.out _ _).mono ?_); rw [HDY.out]; rintro e w8 ⟨rfl, rfl⟩) | (go_at_call 49; (with_reducible refine HH2.out.mono ?_); rintro e w8 ⟨rfl, rfl⟩))
         rw [← ha]
         go_roundg (nt - (0 + 1))
         case rel => exact ⟨0 + 1, by omega, rfl, by go_num, HE.out, HAQ7.out⟩
         case measure => omega
        ·have HBD : Hid (St.binE s.files s.held (s.bin.take (0)) x = 6) := Lib.hid (by rw [HBR2.out]; rfl)
         have HE := Lib.hid (St.scan_here HS2.out HX.out (by rw [HBD.out]; decide))
         go_wp2_with (first | (go_at_call 70; (with_reducible refine (HID.out _ _).mono ?_); rw [HDY.out]; rintro e w8 ⟨rfl, rfl⟩) | (go_at_call 49; (with_reducible refine HH2.out.mono ?_); rintro e w8 ⟨rfl, rfl⟩))
         go_ret
         exact ⟨ret_int (by rw [HF2.out, HE.out, HBD.out]), HAL7.out⟩
      ·obtain ⟨p, hp, hlast⟩ := St.last_at (L := s.bin) (by rw [HNT.out]; exact hlt2) hjp
       obtain ⟨i, rfl⟩ : ∃ i, k = i + 1 := ⟨k - 1, by omega⟩
       rw [Nat.add_sub_cancel] at hp
       have k5 := cell_regrown (HPV.out _ HAW6.out i p hp)
       obtain ⟨bl, hbq⟩ : ∃ bl, (Op.bytesLess x.dig.toList p.dig.toList || x.dig.toList == p.dig.toList) = bl := ⟨_, rfl⟩
       have HBQ2 : Hid (St.le x.dig p.dig = bl) := Lib.hid hbq
       have HDP : Hid (St.binE s.files s.held (s.bin.take (i + 1)) x = if bl = true then 5 else St.binR s.held x) := Lib.hid (by rw [HDG.out, hlast, ← HBQ2.out])
       have HBC := Lib.hid hbq
       clear hp hlast hbq
       refine wp_region_quiet_below (by kernel_rfl) (by kernel_rfl) ?_
       repeat (go_big_quiet_step ((fail)))
       refine wpQuiet_nil ?_
       intro _ hw'
       obtain ⟨⟨dq, osq⟩, hw''⟩ := hw'
       subst hw''
       have hBw7 := below_regrown w6 dq osq
       generalize grow (redrawn w6 dq) osq = w7 at *
       clear dq osq
       clear k0 k5 k6
       cases bl
       ·have HDZ : Hid (St.binE s.files s.held (s.bin.take (i + 1)) x = St.binR s.held x) := Lib.hid (by rw [HDP.out]; rfl)
        simp only [HBC.out]
        obtain ⟨d0, d1⟩ := HD.out _ (below_up HB36.out hBw7)
        obtain ⟨m0, m1, m2, m3, m4, m5, m6⟩ := HCL.out _ (below_up HAW6.out hBw7)
        have HAW7 := Lib.hid (below_up HAW6.out hBw7)
        have HAL7 := Lib.hid (below_up HAL6.out hBw7)
        have HAQ7 := Lib.hid (below_up HAQ6.out hBw7)
        have HH2 := Lib.hid (HHS.out x.dig _ HAW7.out)
        cases dy
        ·have HBD : Hid (St.binE s.files s.held (s.bin.take (i + 1)) x = 2) := Lib.hid (by rw [HDZ.out]; unfold St.binR; rw [HDY.out]; rfl)
         have HE := Lib.hid (St.scan_here HS2.out HX.out (by rw [HBD.out]; decide))
         go_wp2_with (go_at_call 70; (with_reducible refine (HID.out _ _).mono ?_); rw [HDY.out]; rintro e w8 ⟨rfl, rfl⟩)
         go_ret
         exact ⟨ret_int (by rw [HF2.out, HE.out, HBD.out]), HAL7.out⟩
        ·obtain ⟨hh, hhh⟩ : ∃ hh, St.hasS s.held x.dig = hh := ⟨_, rfl⟩
         have HBR2 : Hid (St.binE s.files s.held (s.bin.take (i + 1)) x = if hh = true then 6 else 0) := Lib.hid (by rw [HDZ.out]; unfold St.binR; rw [HDY.out, hhh]; rfl)
         rw [hhh] at HH2
         clear hhh
         cases hh
         ·have HBD : Hid (St.binE s.files s.held (s.bin.take (i + 1)) x = 0) := Lib.hid (by rw [HBR2.out]; rfl)
          have HE := Lib.hid (St.scan_next HS2.out HX.out HBD.out)
          go_wp2_with (first | (go_at_call 70; (with_reducible refine (HID.out _ _).mono ?_); rw [HDY.out]; rintro e w8 ⟨rfl, rfl⟩) | (go_at_call 49; (with_reducible refine HH2.out.mono ?_); rintro e w8 ⟨rfl, rfl⟩))
          rw [← ha]
          go_roundg (nt - (i + 1 + 1))
          case rel => exact ⟨i + 1 + 1, by omega, rfl, by go_num, HE.out, HAQ7.out⟩
          case measure => omega
         ·have HBD : Hid (St.binE s.files s.held (s.bin.take (i + 1)) x = 6) := Lib.hid (by rw [HBR2.out]; rfl)
          have HE := Lib.hid (St.scan_here HS2.out HX.out (by rw [HBD.out]; decide))
          go_wp2_with (first | (go_at_call 70; (with_reducible refine (HID.out _ _).mono ?_); rw [HDY.out]; rintro e w8 ⟨rfl, rfl⟩) | (go_at_call 49; (with_reducible refine HH2.out.mono ?_); rintro e w8 ⟨rfl, rfl⟩))
          go_ret
          exact ⟨ret_int (by rw [HF2.out, HE.out, HBD.out]), HAL7.out⟩
       ·have HBD : Hid (St.binE s.files s.held (s.bin.take (i + 1)) x = 5) := Lib.hid (by rw [HDP.out]; rfl)
        have HE := Lib.hid (St.scan_here HS2.out HX.out (by rw [HBD.out]; decide))
        simp only [HBC.out]
        go_wp2_with fail
        go_ret
        exact ⟨ret_int (by rw [HF2.out, HE.out, HBD.out]), below_up HAL6.out hBw7⟩
    ·obtain rfl : k = nt := by omega
     have HE := HS2.out
     rw [← HNT.out] at HE
     have HE2 := Lib.hid (St.scan_done HE)
     clear HE
     go_wp2_with fail
     go_ret
     exact ⟨ret_int (by rw [HF2.out, HE2.out]), HBQ.out⟩
theorem stErr_sizes (s : Sto) (a : StA) (w : World) (hI : StIn w s a) (hne : St.sizesE s ≠ 0) :
  Calls Tryz.prog 14 #[.agg #[.int .i64 s.least, .int .i64 s.wait, .slice a.ta s.tiers.length a.tc, .slice a.fa s.files.length a.fc, .slice a.ca s.copies.length a.cc, .slice a.ha s.held.length a.hc, .slice a.ba s.bin.length a.bc]] w fun e w' => e = .returned (.int .i64 (St.sizesE s)) ∧ Below w.heap.size w w' := by
 obtain ⟨W1, hW1, hP, hz1, hB1⟩ := box w #[.int .i64 s.least, .int .i64 s.wait, .slice a.ta s.tiers.length a.tc, .slice a.fa s.files.length a.fc, .slice a.ca s.copies.length a.cc, .slice a.ha s.held.length a.hc, .slice a.ba s.bin.length a.bc] 28
 have HW1 := Lib.hid hW1
 have HI1 := Lib.hid (hI.keep hB1)
 have q0 : W1.cell? ⟨w.heap.size, 0, none⟩ = some (.int .i64 s.least) := (hP.cell 0).trans rfl
 have q1 : W1.cell? ⟨w.heap.size, 1, none⟩ = some (.int .i64 s.wait) := (hP.cell 1).trans rfl
 have q2 : W1.cell? ⟨w.heap.size, 2, none⟩ = some (.slice a.ta s.tiers.length a.tc) := (hP.cell 2).trans rfl
 have q3 : W1.cell? ⟨w.heap.size, 3, none⟩ = some (.slice a.fa s.files.length a.fc) := (hP.cell 3).trans rfl
 have q4 : W1.cell? ⟨w.heap.size, 4, none⟩ = some (.slice a.ca s.copies.length a.cc) := (hP.cell 4).trans rfl
 have q5 : W1.cell? ⟨w.heap.size, 5, none⟩ = some (.slice a.ha s.held.length a.hc) := (hP.cell 5).trans rfl
 have q6 : W1.cell? ⟨w.heap.size, 6, none⟩ = some (.slice a.ba s.bin.length a.bc) := (hP.cell 6).trans rfl
 have HP := Lib.hid hP; have HB1 := Lib.hid hB1
 clear hW1 hP
 obtain ⟨q, hq⟩ : ∃ q, St.sizesE s = q := ⟨_, rfl⟩
 rw [hq] at hne ⊢
 unfold St.sizesE at hq
 have HO1 := Lib.hid (fun W => inS_is s.least 1 8 W)
 have HO2 := Lib.hid (fun W => inS_is s.wait 0 1000 W)
 have h1 := hI.tl; have h2 := hI.fl; have h3 := hI.cl; have h4 := hI.hl; have h5 := hI.bl
 clear hI
 generalize s.tiers.length = n1 at *
 generalize s.files.length = n2 at *
 generalize s.copies.length = n3 at *
 generalize s.held.length = n4 at *
 generalize s.bin.length = n5 at *
 generalize St.inB s.least 1 8 = b1 at *
 generalize St.inB s.wait 0 1000 = b2 at *
 cases b1
 ·have HQ : Hid ((2 : Int) = q) := Lib.hid (by rw [← hq, if_neg (by simp)])
  clear hq
  go_enter Tryz.func14, Tryz.ntmps14
  go_wp2_with fail
  rw [HW1.out]
  go_wp2_with (go_at_call 70; first | ((with_reducible refine (HO1.out _).mono ?_); rintro e w2 ⟨rfl, rfl⟩) | ((with_reducible refine (HO2.out _).mono ?_); rintro e w2 ⟨rfl, rfl⟩))
  go_ret
  exact ⟨ret_int HQ.out, HB1.out⟩
 ·cases b2
  ·have HQ : Hid ((2 : Int) = q) := Lib.hid (by rw [← hq, if_neg (by simp)])
   clear hq
   go_enter Tryz.func14, Tryz.ntmps14
   go_wp2_with fail
   rw [HW1.out]
   go_wp2_with (go_at_call 70; first | ((with_reducible refine (HO1.out _).mono ?_); rintro e w2 ⟨rfl, rfl⟩) | ((with_reducible refine (HO2.out _).mono ?_); rintro e w2 ⟨rfl, rfl⟩))
   go_ret
   exact ⟨ret_int HQ.out, HB1.out⟩
  ·rw [if_pos ⟨rfl, rfl⟩] at hq
   by_cases g1 : 8 < n1
   ·have HQ : Hid ((4 : Int) = q) := Lib.hid (by rw [← hq, if_pos (.inl g1)])
    have g1' : (8 : Int) < (n1 : Int) := by omega
    clear hq
    go_enter Tryz.func14, Tryz.ntmps14
    go_wp2_with fail
    rw [HW1.out]
    go_wp2_with (go_at_call 70; first | ((with_reducible refine (HO1.out _).mono ?_); rintro e w2 ⟨rfl, rfl⟩) | ((with_reducible refine (HO2.out _).mono ?_); rintro e w2 ⟨rfl, rfl⟩))
    go_ret
    exact ⟨ret_int HQ.out, HB1.out⟩
   have g1' : ¬ ((8 : Int) < (n1 : Int)) := by omega
   by_cases g2 : 500 < n2
   ·have HQ : Hid ((4 : Int) = q) := Lib.hid (by rw [← hq, if_pos (.inr (.inl g2))])
    have g2' : (500 : Int) < (n2 : Int) := by omega
    clear hq
    go_enter Tryz.func14, Tryz.ntmps14
    go_wp2_with fail
    rw [HW1.out]
    go_wp2_with (go_at_call 70; first | ((with_reducible refine (HO1.out _).mono ?_); rintro e w2 ⟨rfl, rfl⟩) | ((with_reducible refine (HO2.out _).mono ?_); rintro e w2 ⟨rfl, rfl⟩))
    go_ret
    exact ⟨ret_int HQ.out, HB1.out⟩
   have g2' : ¬ ((500 : Int) < (n2 : Int)) := by omega
   by_cases g3 : 4000 < n3
   ·have HQ : Hid ((4 : Int) = q) := Lib.hid (by rw [← hq, if_pos (.inr (.inr (.inl g3)))])
    have g3' : (4000 : Int) < (n3 : Int) := by omega
    clear hq
    go_enter Tryz.func14, Tryz.ntmps14
    go_wp2_with fail
    rw [HW1.out]
    go_wp2_with (go_at_call 70; first | ((with_reducible refine (HO1.out _).mono ?_); rintro e w2 ⟨rfl, rfl⟩) | ((with_reducible refine (HO2.out _).mono ?_); rintro e w2 ⟨rfl, rfl⟩))
    go_ret
    exact ⟨ret_int HQ.out, HB1.out⟩
   have g3' : ¬ ((4000 : Int) < (n3 : Int)) := by omega
   by_cases g4 : 500 < n4
   ·have HQ : Hid ((4 : Int) = q) := Lib.hid (by rw [← hq, if_pos (.inr (.inr (.inr (.inl g4))))])
    have g4' : (500 : Int) < (n4 : Int) := by omega
    clear hq
    go_enter Tryz.func14, Tryz.ntmps14
    go_wp2_with fail
    rw [HW1.out]
    go_wp2_with (go_at_call 70; first | ((with_reducible refine (HO1.out _).mono ?_); rintro e w2 ⟨rfl, rfl⟩) | ((with_reducible refine (HO2.out _).mono ?_); rintro e w2 ⟨rfl, rfl⟩))
    go_ret
    exact ⟨ret_int HQ.out, HB1.out⟩
   have g4' : ¬ ((500 : Int) < (n4 : Int)) := by omega
   by_cases g5 : 500 < n5
   ·have HQ : Hid ((4 : Int) = q) := Lib.hid (by rw [← hq, if_pos (.inr (.inr (.inr (.inr g5))))])
    have g5' : (500 : Int) < (n5 : Int) := by omega
    clear hq
    go_enter Tryz.func14, Tryz.ntmps14
    go_wp2_with fail
    rw [HW1.out]
    go_wp2_with (go_at_call 70; first | ((with_reducible refine (HO1.out _).mono ?_); rintro e w2 ⟨rfl, rfl⟩) | ((with_reducible refine (HO2.out _).mono ?_); rintro e w2 ⟨rfl, rfl⟩))
    go_ret
    exact ⟨ret_int HQ.out, HB1.out⟩
   exact absurd (by rw [← hq, if_neg (by omega)]) hne
end Go.Proofs.YthdiccdnggloiaaGreatDoor
