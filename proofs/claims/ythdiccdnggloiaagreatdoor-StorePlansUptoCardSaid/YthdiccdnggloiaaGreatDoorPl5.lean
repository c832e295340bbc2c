/- Parts of the proof, no condition: StChk2, StChk3, StChk4, StChk5, StPlcC, StFetM. -/
import Derived.Test.YthdiccdnggloiaaGreatDoorPl4
import Derived.Carry
import Derived.Maps.RangeWalk
import Derived.Test.YthdiccdnggloiaaGreatDoorPl3
set_option maxRecDepth 100000
set_option maxHeartbeats 8000000
set_option linter.unusedSimpArgs false
set_option linter.unusedVariables false
namespace Go.Proofs.YthdiccdnggloiaaGreatDoor
open Go.RowKit Go.Sort Go.Shelf
theorem checkSizes_is (s : Sto) (a : StA) (w : World) (hI : StIn w s a) :
  Calls Tryz.prog 108 #[.agg #[.int .i64 s.least, .int .i64 s.wait, .slice a.ta s.tiers.length a.tc, .slice a.fa s.files.length a.fc, .slice a.ca s.copies.length a.cc, .slice a.ha s.held.length a.hc, .slice a.ba s.bin.length a.bc]] w fun e w' => e = .returned (.int .i64 (St.sizesE s)) ∧ Below w.heap.size w w' := by
 obtain ⟨W1, hW1, hP, hz1, hB1⟩ := box w #[.int .i64 s.least, .int .i64 s.wait, .slice a.ta s.tiers.length a.tc, .slice a.fa s.files.length a.fc, .slice a.ca s.copies.length a.cc, .slice a.ha s.held.length a.hc, .slice a.ba s.bin.length a.bc] 28
 have HW1 := Lib.hid hW1
 have HI1 := Lib.hid (hI.keep hB1)
 obtain ⟨q0, q1, q2, q3, q4, q5, q6⟩ := hP.sv7
 have HP := Lib.hid hP; have HB1 := Lib.hid hB1
 clear hW1 hP
 obtain ⟨q, hq⟩ : ∃ q, St.sizesE s = q := ⟨_, rfl⟩
 rw [hq]
 unfold St.sizesE at hq
 have HO1 := Lib.hid (fun W => outsideS_is s.least 1 8 W)
 have HO2 := Lib.hid (fun W => outsideS_is s.wait 0 1000 W)
 have h1 := hI.tl; have h2 := hI.fl; have h3 := hI.cl; have h4 := hI.hl; have h5 := hI.bl
 clear hI
 generalize s.tiers.length = n1 at *
 generalize s.files.length = n2 at *
 generalize s.copies.length = n3 at *
 generalize s.held.length = n4 at *
 generalize s.bin.length = n5 at *
 generalize St.inB s.least 1 8 = b1 at *
 generalize St.inB s.wait 0 1000 = b2 at *
 cases b1
 ·have HQ : Hid ((2 : Int) = q) := Lib.hid (by rw [← hq, if_neg (by simp)])
  clear hq
  go_enter Tryz.func108, Tryz.ntmps108
  go_wp2_with fail
  rw [HW1.out]
  go_wp2_with (go_at_call 92; first | ((with_reducible refine (HO1.out _).mono ?_); rintro e w2 ⟨rfl, rfl⟩) | ((with_reducible refine (HO2.out _).mono ?_); rintro e w2 ⟨rfl, rfl⟩))
  go_ret
  exact ⟨ret_int HQ.out, HB1.out⟩
 ·cases b2
  ·have HQ : Hid ((2 : Int) = q) := Lib.hid (by rw [← hq, if_neg (by simp)])
   clear hq
   go_enter Tryz.func108, Tryz.ntmps108
   go_wp2_with fail
   rw [HW1.out]
   go_wp2_with (go_at_call 92; first | ((with_reducible refine (HO1.out _).mono ?_); rintro e w2 ⟨rfl, rfl⟩) | ((with_reducible refine (HO2.out _).mono ?_); rintro e w2 ⟨rfl, rfl⟩))
   go_ret
   exact ⟨ret_int HQ.out, HB1.out⟩
  ·rw [if_pos ⟨rfl, rfl⟩] at hq
   by_cases g1 : 8 < n1
   ·have HQ : Hid ((4 : Int) = q) := Lib.hid (by rw [← hq, if_pos (.inl g1)])
    have g1' : (8 : Int) < (n1 : Int) := by omega
    clear hq
    go_enter Tryz.func108, Tryz.ntmps108
    go_wp2_with fail
    rw [HW1.out]
    go_wp2_with (go_at_call 92; first | ((with_reducible refine (HO1.out _).mono ?_); rintro e w2 ⟨rfl, rfl⟩) | ((with_reducible refine (HO2.out _).mono ?_); rintro e w2 ⟨rfl, rfl⟩))
    go_ret
    exact ⟨ret_int HQ.out, HB1.out⟩
   have g1' : ¬ ((8 : Int) < (n1 : Int)) := by omega
   by_cases g2 : 500 < n2
   ·have HQ : Hid ((4 : Int) = q) := Lib.hid (by rw [← hq, if_pos (.inr (.inl g2))])
    have g2' : (500 : Int) < (n2 : Int) := by omega
    clear hq
    go_enter Tryz.func108, Tryz.ntmps108
    go_wp2_with fail
    rw [HW1.out]
    go_wp2_with (go_at_call 92; first | ((with_reducible refine (HO1.out _).mono ?_); rintro e w2 ⟨rfl, rfl⟩) | ((with_reducible refine (HO2.out _).mono ?_); rintro e w2 ⟨rfl, rfl⟩))
    go_ret
    exact ⟨ret_int HQ.out, HB1.out⟩
   have g2' : ¬ ((500 : Int) < (n2 : Int)) := by omega
   by_cases g3 : 4000 < n3
   ·have HQ : Hid ((4 : Int) = q) := Lib.hid (by rw [← hq, if_pos (.inr (.inr (.inl g3)))])
    have g3' : (4000 : Int) < (n3 : Int) := by omega
    clear hq
    go_enter Tryz.func108, Tryz.ntmps108
    go_wp2_with fail
    rw [HW1.out]
    go_wp2_with (go_at_call 92; first | ((with_reducible refine (HO1.out _).mono ?_); rintro e w2 ⟨rfl, rfl⟩) | ((with_reducible refine (HO2.out _).mono ?_); rintro e w2 ⟨rfl, rfl⟩))
    go_ret
    exact ⟨ret_int HQ.out, HB1.out⟩
   have g3' : ¬ ((4000 : Int) < (n3 : Int)) := by omega
   by_cases g4 : 500 < n4
   ·have HQ : Hid ((4 : Int) = q) := Lib.hid (by rw [← hq, if_pos (.inr (.inr (.inr (.inl g4))))])
    have g4' : (500 : Int) < (n4 : Int) := by omega
    clear hq
    go_enter Tryz.func108, Tryz.ntmps108
    go_wp2_with fail
    rw [HW1.out]
    go_wp2_with (go_at_call 92; first | ((with_reducible refine (HO1.out _).mono ?_); rintro e w2 ⟨rfl, rfl⟩) | ((with_reducible refine (HO2.out _).mono ?_); rintro e w2 ⟨rfl, rfl⟩))
    go_ret
    exact ⟨ret_int HQ.out, HB1.out⟩
   have g4' : ¬ ((500 : Int) < (n4 : Int)) := by omega
   by_cases g5 : 500 < n5
   ·have HQ : Hid ((4 : Int) = q) := Lib.hid (by rw [← hq, if_pos (.inr (.inr (.inr (.inr g5))))])
    have g5' : (500 : Int) < (n5 : Int) := by omega
    clear hq
    go_enter Tryz.func108, Tryz.ntmps108
    go_wp2_with fail
    rw [HW1.out]
    go_wp2_with (go_at_call 92; first | ((with_reducible refine (HO1.out _).mono ?_); rintro e w2 ⟨rfl, rfl⟩) | ((with_reducible refine (HO2.out _).mono ?_); rintro e w2 ⟨rfl, rfl⟩))
    go_ret
    exact ⟨ret_int HQ.out, HB1.out⟩
   have g5' : ¬ ((500 : Int) < (n5 : Int)) := by omega
   have HQ : Hid ((0 : Int) = q) := Lib.hid (by rw [← hq, if_neg (by omega)])
   clear hq
   go_enter Tryz.func108, Tryz.ntmps108
   go_wp2_with fail
   rw [HW1.out]
   go_wp2_with (go_at_call 92; first | ((with_reducible refine (HO1.out _).mono ?_); rintro e w2 ⟨rfl, rfl⟩) | ((with_reducible refine (HO2.out _).mono ?_); rintro e w2 ⟨rfl, rfl⟩))
   go_ret
   exact ⟨ret_int HQ.out, HB1.out⟩
theorem checkTiers_is (s : Sto) (a : StA) (w : World) (hI : StIn w s a) :
  Calls Tryz.prog 109 #[.agg #[.int .i64 s.least, .int .i64 s.wait, .slice a.ta s.tiers.length a.tc, .slice a.fa s.files.length a.fc, .slice a.ca s.copies.length a.cc, .slice a.ha s.held.length a.hc, .slice a.ba s.bin.length a.bc]] w fun e w' => e = .returned (.int .i64 (St.scan St.tierE [] s.tiers)) ∧ Below w.heap.size w w' := by
 obtain ⟨W1, hW1, hP, hz1, hB1⟩ := box w #[.int .i64 s.least, .int .i64 s.wait, .slice a.ta s.tiers.length a.tc, .slice a.fa s.files.length a.fc, .slice a.ca s.copies.length a.cc, .slice a.ha s.held.length a.hc, .slice a.ba s.bin.length a.bc] 28
 have HW1 := Lib.hid hW1
 have HI1 := Lib.hid (hI.keep hB1)
 obtain ⟨q0, q1, q2, q3, q4, q5, q6⟩ := hP.sv7
 have HP := Lib.hid hP; have HB1 := Lib.hid hB1
 clear hW1 hP
 have htl := hI.tl
 have HTZ := Lib.hid hI.tz
 obtain ⟨q, hq⟩ : ∃ q, St.scan St.tierE [] s.tiers = q := ⟨_, rfl⟩
 rw [hq]
 have HQ : Hid (St.scan St.tierE (s.tiers.take 0) (s.tiers.drop 0) = q) := Lib.hid hq
 have HTW := Lib.hid (fun W (hb : Below W1.heap.size W1 W) (name : ByteArray) => tierAt_is s a name W (HI1.out.keep hb))
 have HCL := Lib.hid (fun W (hb : Below W1.heap.size W1 W) => HP.out.keep hb)
 clear q0 q1 q3 q4 q5 q6 hI hq
 obtain ⟨n, hn⟩ : ∃ n, s.tiers.length = n := ⟨_, rfl⟩
 have HN := Lib.hid hn
 rw [hn] at q2 htl HW1 HTW HCL ⊢
 clear hn
 go_enter Tryz.func109, Tryz.ntmps109
 go_wp2_with fail
 rw [HW1.out]
 go_wp2_with fail
 go_loopg [8] n (fun gk i wr => ∃ j : Nat, j ≤ n ∧ gk = n - j ∧ i = .int .i64 j ∧ St.scan St.tierE (s.tiers.take j) (s.tiers.drop j) = q ∧ Below w.heap.size w wr ∧ Below W1.heap.size W1 wr)
 case atStart => exact ⟨0, by omega, rfl, rfl, HQ.out, HB1.out, Below.refl _ _⟩
 case round =>
  obtain ⟨j, hj, rfl, rfl, hs, hB, hBW⟩ := hrel
  have HS := Lib.hid hs; clear hs
  by_cases hlt : j < n
  ·obtain ⟨x, hx⟩ : ∃ x, s.tiers[j]? = some x := ⟨_, List.getElem?_eq_getElem (by rw [HN.out]; exact hlt)⟩
   obtain ⟨b, off, ha, hb, hcell⟩ := ((HI1.out.keep hBW).ti) (by rw [HN.out]; omega)
   have c0 : wr.cell? ⟨b, off + j * 4, none⟩ = some (.string x.name) := hcell j x hx 0 (.string x.name) rfl
   have c1 : wr.cell? ⟨b, off + j * 4 + 1, none⟩ = some (.int .i64 x.room) := hcell j x hx 1 (.int .i64 x.room) rfl
   have c2 : wr.cell? ⟨b, off + j * 4 + 2, none⟩ = some (.int .i64 x.cost) := hcell j x hx 2 (.int .i64 x.cost) rfl
   have c3 : wr.cell? ⟨b, off + j * 4 + 3, none⟩ = some (.bool x.away) := hcell j x hx 3 (.bool x.away) rfl
   clear hcell
   have HX := Lib.hid hx
   obtain ⟨W3, hW3, hX3, hz3, hB3⟩ := box wr #[.string x.name, .int .i64 x.room, .int .i64 x.cost, .bool x.away] 46
   have HW3 := Lib.hid hW3
   have HAL := Lib.hid (below_up hB hB3)
   have HAW := Lib.hid (below_up hBW hB3)
   have HD : Hid (∀ W, Below W3.heap.size W3 W → W.cell? ⟨wr.heap.size, 0, none⟩ = some (.string x.name) ∧ W.cell? ⟨wr.heap.size, 1, none⟩ = some (.int .i64 x.room) ∧ W.cell? ⟨wr.heap.size, 2, none⟩ = some (.int .i64 x.cost) ∧ W.cell? ⟨wr.heap.size, 3, none⟩ = some (.bool x.away)) := Lib.hid fun W hb =>
    have k := hX3.keep hb
    ⟨(k.cell 0).trans rfl, (k.cell 1).trans rfl, (k.cell 2).trans rfl, (k.cell 3).trans rfl⟩
   obtain ⟨d0, d1, d2, d3⟩ := HD.out _ (Below.refl _ _)
   have hKW := HCL.out _ HAW.out
   have m0 : W3.cell? ⟨w.heap.size, 0, none⟩ = some (.int .i64 s.least) := (hKW.cell 0).trans rfl
   have m1 : W3.cell? ⟨w.heap.size, 1, none⟩ = some (.int .i64 s.wait) := (hKW.cell 1).trans rfl
   have m2 : W3.cell? ⟨w.heap.size, 2, none⟩ = some (.slice a.ta n a.tc) := (hKW.cell 2).trans rfl
   have m3 : W3.cell? ⟨w.heap.size, 3, none⟩ = some (.slice a.fa s.files.length a.fc) := (hKW.cell 3).trans rfl
   have m4 : W3.cell? ⟨w.heap.size, 4, none⟩ = some (.slice a.ca s.copies.length a.cc) := (hKW.cell 4).trans rfl
   have m5 : W3.cell? ⟨w.heap.size, 5, none⟩ = some (.slice a.ha s.held.length a.hc) := (hKW.cell 5).trans rfl
   have m6 : W3.cell? ⟨w.heap.size, 6, none⟩ = some (.slice a.ba s.bin.length a.bc) := (hKW.cell 6).trans rfl
   have HNM := Lib.hid (fun W => isNameW_is x.name (HTZ.out x (List.mem_of_getElem? hx)) _ rfl W)
   have HTA := Lib.hid (HTW.out _ HAW.out x.name)
   have HO1 := Lib.hid (fun W => outsideS_is x.room 0 1000000000000 W)
   have HO2 := Lib.hid (fun W => outsideS_is x.cost 0 1000000 W)
   have hfst := St.tier_first hx
   have HDF : Hid (St.tierE (s.tiers.take j) x = if Fd.nameB x.name = true then (if St.hasTier (s.tiers.take j) x.name = true then 6 else if St.inB x.room 0 1000000000000 = true ∧ St.inB x.cost 0 1000000 = true then 0 else 2) else 3) := Lib.hid rfl
   have hj0 : (0 : Int) ≤ (j : Int) := by omega
   have hj1 : (j : Int) < (n : Int) := by omega
   generalize Fd.nameB x.name = bn at *
   generalize St.hasTier (s.tiers.take j) x.name = bt at *
   generalize St.inB x.room 0 1000000000000 = b1 at *
   generalize St.inB x.cost 0 1000000 = b2 at *
   generalize St.tierAt s.tiers x.name = ti at *
   clear hx hB hBW hX3 hz3 hB3 hW3 hKW
   rw [ha] at HTA m2 ⊢
   cases bn
   ·have HBD : Hid (St.tierE (s.tiers.take j) x = 3) := Lib.hid (by rw [HDF.out]; rfl)
    have HE := Lib.hid (St.scan_here HS.out HX.out (by rw [HBD.out]; decide))
    rw [HBD.out] at HE
    go_wp2_with fail
    rw [HW3.out]
    go_wp2_with (first | (go_at_call 180; (with_reducible refine (HNM.out _).mono ?_); rintro e w4 ⟨rfl, rfl⟩) | (go_at_call 91; (with_reducible refine HTA.out.mono ?_); rintro e w4 ⟨rfl, hB4⟩; have HB4 := Lib.hid hB4; obtain ⟨d0, d1, d2, d3⟩ := HD.out _ hB4) | (go_at_call 92; first | ((with_reducible refine (HO1.out _).mono ?_); rintro e w2 ⟨rfl, rfl⟩) | ((with_reducible refine (HO2.out _).mono ?_); rintro e w2 ⟨rfl, rfl⟩)))
    go_ret
    exact ⟨ret_int HE.out.symm, HAL.out⟩
   cases bt
   ·have hge : ¬ (ti < (j : Int)) := fun g => by have := hfst.1 g; cases this
    cases b1
    ·have HBD : Hid (St.tierE (s.tiers.take j) x = 2) := Lib.hid (by rw [HDF.out]; rfl)
     have HE := Lib.hid (St.scan_here HS.out HX.out (by rw [HBD.out]; decide))
     rw [HBD.out] at HE
     clear hfst
     go_wp2_with fail
     rw [HW3.out]
     go_wp2_with (first | (go_at_call 180; (with_reducible refine (HNM.out _).mono ?_); rintro e w4 ⟨rfl, rfl⟩) | (go_at_call 91; (with_reducible refine HTA.out.mono ?_); rintro e w4 ⟨rfl, hB4⟩; have HB4 := Lib.hid hB4; obtain ⟨d0, d1, d2, d3⟩ := HD.out _ hB4) | (go_at_call 92; first | ((with_reducible refine (HO1.out _).mono ?_); rintro e w2 ⟨rfl, rfl⟩) | ((with_reducible refine (HO2.out _).mono ?_); rintro e w2 ⟨rfl, rfl⟩)))
     go_ret
     exact ⟨ret_int HE.out.symm, below_up HAL.out HB4.out⟩
    cases b2
    ·have HBD : Hid (St.tierE (s.tiers.take j) x = 2) := Lib.hid (by rw [HDF.out]; rfl)
     have HE := Lib.hid (St.scan_here HS.out HX.out (by rw [HBD.out]; decide))
     rw [HBD.out] at HE
     clear hfst
     go_wp2_with fail
     rw [HW3.out]
     go_wp2_with (first | (go_at_call 180; (with_reducible refine (HNM.out _).mono ?_); rintro e w4 ⟨rfl, rfl⟩) | (go_at_call 91; (with_reducible refine HTA.out.mono ?_); rintro e w4 ⟨rfl, hB4⟩; have HB4 := Lib.hid hB4; obtain ⟨d0, d1, d2, d3⟩ := HD.out _ hB4) | (go_at_call 92; first | ((with_reducible refine (HO1.out _).mono ?_); rintro e w2 ⟨rfl, rfl⟩) | ((with_reducible refine (HO2.out _).mono ?_); rintro e w2 ⟨rfl, rfl⟩)))
     go_ret
     exact ⟨ret_int HE.out.symm, below_up HAL.out HB4.out⟩
    ·have HBD : Hid (St.tierE (s.tiers.take j) x = 0) := Lib.hid (by rw [HDF.out]; rfl)
     have HE := Lib.hid (St.scan_next HS.out HX.out HBD.out)
     clear hfst
     go_wp2_with fail
     rw [HW3.out]
     go_wp2_with (first | (go_at_call 180; (with_reducible refine (HNM.out _).mono ?_); rintro e w4 ⟨rfl, rfl⟩) | (go_at_call 91; (with_reducible refine HTA.out.mono ?_); rintro e w4 ⟨rfl, hB4⟩; have HB4 := Lib.hid hB4; obtain ⟨d0, d1, d2, d3⟩ := HD.out _ hB4) | (go_at_call 92; first | ((with_reducible refine (HO1.out _).mono ?_); rintro e w2 ⟨rfl, rfl⟩) | ((with_reducible refine (HO2.out _).mono ?_); rintro e w2 ⟨rfl, rfl⟩)))
     rw [← ha]
     go_roundg (n - (j + 1))
     case rel => exact ⟨j + 1, by omega, rfl, by go_num, HE.out, below_up HAL.out HB4.out, below_up HAW.out HB4.out⟩
     case measure => omega
   ·have hge : ti < (j : Int) := hfst.2 rfl
    have HBD : Hid (St.tierE (s.tiers.take j) x = 6) := Lib.hid (by rw [HDF.out]; rfl)
    have HE := Lib.hid (St.scan_here HS.out HX.out (by rw [HBD.out]; decide))
    rw [HBD.out] at HE
    clear hfst
    go_wp2_with fail
    rw [HW3.out]
    go_wp2_with (first | (go_at_call 180; (with_reducible refine (HNM.out _).mono ?_); rintro e w4 ⟨rfl, rfl⟩) | (go_at_call 91; (with_reducible refine HTA.out.mono ?_); rintro e w4 ⟨rfl, hB4⟩; have HB4 := Lib.hid hB4; obtain ⟨d0, d1, d2, d3⟩ := HD.out _ hB4) | (go_at_call 92; first | ((with_reducible refine (HO1.out _).mono ?_); rintro e w2 ⟨rfl, rfl⟩) | ((with_reducible refine (HO2.out _).mono ?_); rintro e w2 ⟨rfl, rfl⟩)))
    go_ret
    exact ⟨ret_int HE.out.symm, below_up HAL.out HB4.out⟩
  ·obtain rfl : j = n := by omega
   have HE := HS.out
   rw [← HN.out] at HE
   have HE2 := Lib.hid (St.scan_done HE)
   clear HE
   go_wp2_with fail
   go_ret
   exact ⟨ret_int HE2.out.symm, hB⟩
end Go.Proofs.YthdiccdnggloiaaGreatDoor
namespace Go.Proofs.YthdiccdnggloiaaGreatDoor
open Go.RowKit Go.Sort Go.Shelf Go.Maps
theorem below_of_grownS {B : Nat} {a b : World} {p : Nat} (h : a.grownBy b (some p)) (hB : B ≤ a.heap.size) (hp : B ≤ p) : Below B a b :=
 ⟨h.os, h.tape, h.output, h.size, fun k hk => h.block k (by omega) fun e => by injection e with e; omega⟩
namespace St
def fileC (f : Fil) (before : ByteArray) : Int := if Fd.fileB f.dig = true then (if le f.dig before = true then 5 else fileR f) else 1
def bef (pre : List Fil) : ByteArray := match pre.getLast? with | some p => p.dig | none => ⟨#[]⟩
theorem fileE_bef (pre : List Fil) (f : Fil) : fileE pre f = fileC f (bef pre) := by
 unfold fileE fileC bef
 by_cases h : Fd.fileB f.dig = true
 ·rw [if_pos h, if_pos h]
  cases hp : pre.getLast? with
  | some p => rfl
  | none =>
    have : le f.dig ⟨#[]⟩ = false := by
     have h16 := size_len f.dig
     have hs : f.dig.size = 16 := by
      unfold Fd.fileB at h
      exact (of_decide_eq_true h).1
     have e0 : (⟨#[]⟩ : ByteArray).toList = [] := by rw [ByteArray.toList_eq]
     unfold le
     rw [e0]
     cases hl : f.dig.toList with
     | nil => rw [hl] at h16; simp at h16; omega
     | cons a r => simp [Op.bytesLess]
    show _ = if le f.dig ⟨#[]⟩ = true then 5 else fileR f
    rw [this]; rfl
 ·rw [if_neg h, if_neg h]
theorem bef_succ {L : List Fil} {j : Nat} {x : Fil} (h : L[j]? = some x) : bef (L.take (j + 1)) = x.dig := by
 unfold bef; rw [last_take h]
end St
theorem checkFile_is (x : Fil) (before : ByteArray) (hz : x.dig.size ≤ 9223372036854775807) (w : World) :
  Calls Tryz.prog 131 #[.agg #[.string x.dig, .int .i64 x.size, .int .i64 x.kind, .string x.frm], .string before] w fun e w' => e = .returned (.int .i64 (St.fileC x before)) ∧ Below w.heap.size w w' := by
 obtain ⟨W3, hW3, hX3, hz3, hB3⟩ := box w #[.string x.dig, .int .i64 x.size, .int .i64 x.kind, .string x.frm] 30
 have HW3 := Lib.hid hW3; have HB3 := Lib.hid hB3
 have HD : Hid (∀ W, Below W3.heap.size W3 W → W.cell? ⟨w.heap.size, 0, none⟩ = some (.string x.dig) ∧ W.cell? ⟨w.heap.size, 1, none⟩ = some (.int .i64 x.size) ∧ W.cell? ⟨w.heap.size, 2, none⟩ = some (.int .i64 x.kind) ∧ W.cell? ⟨w.heap.size, 3, none⟩ = some (.string x.frm)) := Lib.hid fun W hb =>
  have k := hX3.keep hb
  ⟨(k.cell 0).trans rfl, (k.cell 1).trans rfl, (k.cell 2).trans rfl, (k.cell 3).trans rfl⟩
 obtain ⟨d0, d1, d2, d3⟩ := HD.out _ (Below.refl _ _)
 have HDG := Lib.hid (isDigestS_is x.dig hz W3)
 have HO1 := Lib.hid (fun W => outsideS_is x.size 0 1000000000 W)
 have HO2 := Lib.hid (fun W => outsideS_is x.kind 1 3 W)
 obtain ⟨q, hq⟩ : ∃ q, St.fileC x before = q := ⟨_, rfl⟩
 rw [hq]
 unfold St.fileC St.fileR at hq
 have hle : (Op.bytesLess x.dig.toList before.toList || x.dig.toList == before.toList) = St.le x.dig before := rfl
 clear hW3 hX3 hB3 hz3 hz
 generalize St.le x.dig before = bl at *
 generalize Fd.fileB x.dig = bd at *
 generalize St.inB x.size 0 1000000000 = b1 at *
 generalize St.inB x.kind 1 3 = b2 at *
 cases bd
 ·have HQ := Lib.hid hq
  clear hq
  go_enter Tryz.func131, Tryz.ntmps131
  go_wp2_with fail
  rw [HW3.out]
  go_wp2_with (first | (go_at_call 188; (with_reducible refine HDG.out.mono ?_); rintro e w4 ⟨rfl, hB4⟩; have HB4 := Lib.hid hB4; obtain ⟨d0, d1, d2, d3⟩ := HD.out _ hB4) | (go_at_call 92; first | ((with_reducible refine (HO1.out _).mono ?_); rintro e w2 ⟨rfl, rfl⟩) | ((with_reducible refine (HO2.out _).mono ?_); rintro e w2 ⟨rfl, rfl⟩)))
  go_ret
  exact ⟨ret_int (by rw [← HQ.out]; rfl), below_up HB3.out HB4.out⟩
 cases bl
 ·cases b1
  ·have HQ := Lib.hid hq
   clear hq
   go_enter Tryz.func131, Tryz.ntmps131
   go_wp2_with fail
   rw [HW3.out]
   go_wp2_with (first | (go_at_call 188; (with_reducible refine HDG.out.mono ?_); rintro e w4 ⟨rfl, hB4⟩; have HB4 := Lib.hid hB4; obtain ⟨d0, d1, d2, d3⟩ := HD.out _ hB4) | (go_at_call 92; first | ((with_reducible refine (HO1.out _).mono ?_); rintro e w2 ⟨rfl, rfl⟩) | ((with_reducible refine (HO2.out _).mono ?_); rintro e w2 ⟨rfl, rfl⟩)))
   go_ret
   exact ⟨ret_int (by rw [← HQ.out]; rfl), below_up HB3.out HB4.out⟩
  cases b2
  ·have HQ := Lib.hid hq
   clear hq
   go_enter Tryz.func131, Tryz.ntmps131
   go_wp2_with fail
   rw [HW3.out]
   go_wp2_with (first | (go_at_call 188; (with_reducible refine HDG.out.mono ?_); rintro e w4 ⟨rfl, hB4⟩; have HB4 := Lib.hid hB4; obtain ⟨d0, d1, d2, d3⟩ := HD.out _ hB4) | (go_at_call 92; first | ((with_reducible refine (HO1.out _).mono ?_); rintro e w2 ⟨rfl, rfl⟩) | ((with_reducible refine (HO2.out _).mono ?_); rintro e w2 ⟨rfl, rfl⟩)))
   go_ret
   exact ⟨ret_int (by rw [← HQ.out]; rfl), below_up HB3.out HB4.out⟩
  by_cases hk : x.kind = 1
  ·have hk2 : (x.kind == 1) = true := by simpa using hk
   cases he : x.frm.toList.isEmpty
   ·have HQ : Hid ((1 : Int) = q) := Lib.hid (by rw [← hq, if_pos rfl, if_neg (by decide), if_pos rfl, if_pos rfl, if_pos ⟨hk, he⟩])
    clear hq hk
    go_enter Tryz.func131, Tryz.ntmps131
    go_wp2_with fail
    rw [HW3.out]
    go_wp2_with (first | (go_at_call 188; (with_reducible refine HDG.out.mono ?_); rintro e w4 ⟨rfl, hB4⟩; have HB4 := Lib.hid hB4; obtain ⟨d0, d1, d2, d3⟩ := HD.out _ hB4) | (go_at_call 92; first | ((with_reducible refine (HO1.out _).mono ?_); rintro e w2 ⟨rfl, rfl⟩) | ((with_reducible refine (HO2.out _).mono ?_); rintro e w2 ⟨rfl, rfl⟩)))
    go_ret
    exact ⟨ret_int HQ.out, below_up HB3.out HB4.out⟩
   ·have HQ : Hid ((0 : Int) = q) := Lib.hid (by rw [← hq, if_pos rfl, if_neg (by decide), if_pos rfl, if_pos rfl, if_neg (by rintro ⟨_, g⟩; rw [he] at g; cases g)])
    clear hq hk
    go_enter Tryz.func131, Tryz.ntmps131
    go_wp2_with fail
    rw [HW3.out]
    go_wp2_with (first | (go_at_call 188; (with_reducible refine HDG.out.mono ?_); rintro e w4 ⟨rfl, hB4⟩; have HB4 := Lib.hid hB4; obtain ⟨d0, d1, d2, d3⟩ := HD.out _ hB4) | (go_at_call 92; first | ((with_reducible refine (HO1.out _).mono ?_); rintro e w2 ⟨rfl, rfl⟩) | ((with_reducible refine (HO2.out _).mono ?_); rintro e w2 ⟨rfl, rfl⟩)))
    go_ret
    exact ⟨ret_int HQ.out, below_up HB3.out HB4.out⟩
  ·have hk2 : (x.kind == 1) = false := by simpa using hk
   have HQ : Hid ((0 : Int) = q) := Lib.hid (by rw [← hq, if_pos rfl, if_neg (by decide), if_pos rfl, if_pos rfl, if_neg (by rintro ⟨g, _⟩; exact hk g)])
   clear hq
   go_enter Tryz.func131, Tryz.ntmps131
   go_wp2_with fail
   rw [HW3.out]
   go_wp2_with (first | (go_at_call 188; (with_reducible refine HDG.out.mono ?_); rintro e w4 ⟨rfl, hB4⟩; have HB4 := Lib.hid hB4; obtain ⟨d0, d1, d2, d3⟩ := HD.out _ hB4) | (go_at_call 92; first | ((with_reducible refine (HO1.out _).mono ?_); rintro e w2 ⟨rfl, rfl⟩) | ((with_reducible refine (HO2.out _).mono ?_); rintro e w2 ⟨rfl, rfl⟩)))
   go_ret
   exact ⟨ret_int HQ.out, below_up HB3.out HB4.out⟩
 ·have HQ := Lib.hid hq
  clear hq
  go_enter Tryz.func131, Tryz.ntmps131
  go_wp2_with fail
  rw [HW3.out]
  go_wp2_with (first | (go_at_call 188; (with_reducible refine HDG.out.mono ?_); rintro e w4 ⟨rfl, hB4⟩; have HB4 := Lib.hid hB4; obtain ⟨d0, d1, d2, d3⟩ := HD.out _ hB4) | (go_at_call 92; first | ((with_reducible refine (HO1.out _).mono ?_); rintro e w2 ⟨rfl, rfl⟩) | ((with_reducible refine (HO2.out _).mono ?_); rintro e w2 ⟨rfl, rfl⟩)))
  go_ret
  exact ⟨ret_int (by rw [← HQ.out]; rfl), below_up HB3.out HB4.out⟩
theorem byDigest_is (s : Sto) (a : StA) (w : World) (hI : StIn w s a) (hn500 : s.files.length ≤ 500) :
  Calls Tryz.prog 98 #[.agg #[.int .i64 s.least, .int .i64 s.wait, .slice a.ta s.tiers.length a.tc, .slice a.fa s.files.length a.fc, .slice a.ca s.copies.length a.cc, .slice a.ha s.held.length a.hc, .slice a.ba s.bin.length a.bc]] w fun e w' => ∃ b, e = .returned (.map (some b)) ∧ w.heap.size ≤ b ∧ FMap w' b s.files ∧ Below w.heap.size w w' := by
 obtain ⟨W1, hW1, hP, hz1, hB1⟩ := box w #[.int .i64 s.least, .int .i64 s.wait, .slice a.ta s.tiers.length a.tc, .slice a.fa s.files.length a.fc, .slice a.ca s.copies.length a.cc, .slice a.ha s.held.length a.hc, .slice a.ba s.bin.length a.bc] 28
 have HW1 := Lib.hid hW1
 have HI1 := Lib.hid (hI.keep hB1)
 obtain ⟨q0, q1, q2, q3, q4, q5, q6⟩ := hP.sv7
 have HP := Lib.hid hP; have HB1 := Lib.hid hB1
 clear hW1 hP
 have HFZ := Lib.hid hI.fz
 have HI0 := Lib.hid hI
 obtain ⟨W2, hW2⟩ : ∃ W2, W1.alloc (.map #[] 0) = W2 := ⟨_, rfl⟩
 have HW2 := Lib.hid hW2
 have hM2 : FMap W2 W1.heap.size [] := by rw [← hW2]; exact FMap.made W1
 have hB2 : Below W1.heap.size W1 W2 := by rw [← hW2]; exact (Below.refl _ _).alloc (Nat.le_refl _) _
 have HB2 := Lib.hid (below_up HB1.out hB2)
 have p3 : W2.cell? ⟨w.heap.size, 3, none⟩ = some (.slice a.fa s.files.length a.fc) := ((HP.out.keep hB2).cell 3).trans rfl
 have hfl := hI.fl
 rw [hz1] at hM2
 have HM2 := Lib.hid hM2
 clear q0 q1 q2 q3 q4 q5 q6 hI hW2 hM2 hB2 hz1
 obtain ⟨n, hn⟩ : ∃ n, s.files.length = n := ⟨_, rfl⟩
 have HN := Lib.hid hn
 rw [hn] at p3 hfl hn500 HW1 ⊢
 clear hn
 have hmm := @run_makeMap Tryz.prog
 go_enter Tryz.func98, Tryz.ntmps98
 go_wp2_with fail
 rw [HW1.out]
 go_wp2_with fail
 rw [HW2.out]
 go_wp2_with fail
 go_loopg [10] n (fun gk i wr => ∃ j : Nat, j ≤ n ∧ gk = n - j ∧ i = .int .i64 j ∧ FMap wr (w.heap.size + 1) (s.files.take j) ∧ Below w.heap.size w wr)
 case atStart => exact ⟨0, by omega, rfl, rfl, HM2.out, HB2.out⟩
 case round =>
  obtain ⟨j, hj, rfl, rfl, hm, hB⟩ := hrel
  have HM := Lib.hid hm; clear hm
  by_cases hlt : j < n
  ·obtain ⟨x, hx⟩ : ∃ x, s.files[j]? = some x := ⟨_, List.getElem?_eq_getElem (by rw [HN.out]; exact hlt)⟩
   obtain ⟨b, off, ha, hb, hcell⟩ := ((HI0.out.keep hB).fi) (by rw [HN.out]; omega)
   have c0 : wr.cell? ⟨b, off + j * 4, none⟩ = some (.string x.dig) := hcell j x hx 0 (.string x.dig) rfl
   have c1 : wr.cell? ⟨b, off + j * 4 + 1, none⟩ = some (.int .i64 x.size) := hcell j x hx 1 (.int .i64 x.size) rfl
   have c2 : wr.cell? ⟨b, off + j * 4 + 2, none⟩ = some (.int .i64 x.kind) := hcell j x hx 2 (.int .i64 x.kind) rfl
   have c3 : wr.cell? ⟨b, off + j * 4 + 3, none⟩ = some (.string x.frm) := hcell j x hx 3 (.string x.frm) rfl
   clear hcell
   have HX := Lib.hid hx
   have HBR := Lib.hid hB
   obtain ⟨W3, hW3, hX3, hz3, hB3⟩ := box wr #[.string x.dig, .int .i64 x.size, .int .i64 x.kind, .string x.frm] 30
   have HW3 := Lib.hid hW3
   have d0 : W3.cell? ⟨wr.heap.size, 0, none⟩ = some (.string x.dig) := (hX3.cell 0).trans rfl
   have d1 : W3.cell? ⟨wr.heap.size, 1, none⟩ = some (.int .i64 x.size) := (hX3.cell 1).trans rfl
   have d2 : W3.cell? ⟨wr.heap.size, 2, none⟩ = some (.int .i64 x.kind) := (hX3.cell 2).trans rfl
   have d3 : W3.cell? ⟨wr.heap.size, 3, none⟩ = some (.string x.frm) := (hX3.cell 3).trans rfl
   obtain ⟨D, h1, h2, h3⟩ := HM.out.keep hB3
   have H1 := Lib.hid h1; have H2 := Lib.hid h2; have H3 := Lib.hid h3
   have HKEY := Lib.hid (keyS (HFZ.out x (List.mem_of_getElem? hx)).1)
   have htl : (s.files.take j).length ≤ 500 := by rw [List.length_take]; omega
   have HB03 := Lib.hid (below_up HBR.out hB3)
   have hj0 : (0 : Int) ≤ (j : Int) := by omega
   have hj1 : (j : Int) < (n : Int) := by omega
   clear hx h1 h2 h3 hW3 hX3 hB3 hz3 hB
   rw [ha]
   go_upto_region 5 with fail
   rw [HW3.out]
   go_wp2_with (at_mapUpdate; (refine wpList_mapUpdate_own _ rfl _ _ _ 133 rfl 9 30 (string_keyed Tryz.underlying9) Tryz.underlying133 St.rdF (w.heap.size + 1) (s.files.take j).length D rfl H1.out (by unfold maxLen; omega) _ _ (St.kl x.dig) rfl rfl HKEY.out (.held (St.fval x)) [] rfl ?_; intro w4 hown4 hg4))
   have HE := Lib.hid (FMap.put (w := w) (f := x) H2.out H3.out hown4)
   have HB4 := Lib.hid (HB03.out.trans (below_of_grownS hg4 HB03.out.size (by omega)))
   rw [← ha]
   go_roundg (n - (j + 1))
   case rel => exact ⟨j + 1, by omega, rfl, by go_num, by rw [List.take_add_one, HX.out]; exact HE.out, HB4.out⟩
   case measure => omega
  ·obtain rfl : j = n := by omega
   have hm := HM.out
   rw [← HN.out, List.take_length] at hm
   have HMM := Lib.hid hm
   clear hm
   go_wp2_with fail
   go_ret
   exact ⟨_, rfl, by omega, HMM.out, hB⟩
theorem fldSize (d f : ByteArray) (s k : Int) (w : World) : (Instr.field 30 (.agg #[.string d, .int .i64 s, .int .i64 k, .string f]) 1).run Tryz.prog w = .ok (.int .i64 s) w := by kernel_rfl
theorem fldKind (d f : ByteArray) (s k : Int) (w : World) : (Instr.field 30 (.agg #[.string d, .int .i64 s, .int .i64 k, .string f]) 2).run Tryz.prog w = .ok (.int .i64 k) w := by kernel_rfl
theorem FMap.kind {w : World} {b : Nat} {L : List Fil} (h : FMap w b L) (hu : St.Up (·.dig) L) {d : ByteArray} (hd : d.size ≤ 9223372036854775807) :
  ∃ y : Fil, (Instr.lookup 133 (.map (some b)) (.string d) false).run Tryz.prog w = .ok (.agg #[.string y.dig, .int .i64 y.size, .int .i64 y.kind, .string y.frm]) w ∧ y = St.filD L d := by
 refine ⟨(St.lastOf L d).getD St.zeroF, h.look hd, ?_⟩
 rw [St.lastOf_up hu]; rfl
theorem checkFiles_is (s : Sto) (a : StA) (w : World) (hI : StIn w s a) (hn500 : s.files.length ≤ 500) :
  Calls Tryz.prog 110 #[.agg #[.int .i64 s.least, .int .i64 s.wait, .slice a.ta s.tiers.length a.tc, .slice a.fa s.files.length a.fc, .slice a.ca s.copies.length a.cc, .slice a.ha s.held.length a.hc, .slice a.ba s.bin.length a.bc]] w fun e w' => e = .returned (.int .i64 (St.filesE s.files)) ∧ Below w.heap.size w w' := by
 obtain ⟨W1, hW1, hP, hz1, hB1⟩ := box w #[.int .i64 s.least, .int .i64 s.wait, .slice a.ta s.tiers.length a.tc, .slice a.fa s.files.length a.fc, .slice a.ca s.copies.length a.cc, .slice a.ha s.held.length a.hc, .slice a.ba s.bin.length a.bc] 28
 have HW1 := Lib.hid hW1
 have HI1 := Lib.hid (hI.keep hB1)
 obtain ⟨q0, q1, q2, q3, q4, q5, q6⟩ := hP.sv7
 have HP := Lib.hid hP; have HB1 := Lib.hid hB1
 clear hW1 hP
 have hfl := hI.fl
 have HFZ := Lib.hid hI.fz
 obtain ⟨qa, hq1⟩ : ∃ qa, St.scan St.fileE [] s.files = qa := ⟨_, rfl⟩
 obtain ⟨qb, hq2⟩ : ∃ qb, St.scan (St.fromE s.files) [] s.files = qb := ⟨_, rfl⟩
 have HF : Hid (St.filesE s.files = if qa = 0 then qb else qa) := Lib.hid (by unfold St.filesE; rw [hq1, hq2])
 have HUP : Hid (qa = 0 → St.Up (·.dig) s.files) := Lib.hid fun h => St.files_up (hq1.trans h)
 have HQ1 : Hid (St.scan St.fileE (s.files.take 0) (s.files.drop 0) = qa) := Lib.hid hq1
 have HQ2 : Hid (St.scan (St.fromE s.files) (s.files.take 0) (s.files.drop 0) = qb) := Lib.hid hq2
 have HBY := Lib.hid (fun W (hb : Below W1.heap.size W1 W) => byDigest_is s a W (HI1.out.keep hb) hn500)
 have HCL := Lib.hid (fun W (hb : Below W1.heap.size W1 W) => HP.out.keep hb)
 clear q0 q1 q2 q3 q4 q5 q6 hI hq1 hq2
 obtain ⟨n, hn⟩ : ∃ n, s.files.length = n := ⟨_, rfl⟩
 have HN := Lib.hid hn
 have q3 : W1.cell? ⟨w.heap.size, 3, none⟩ = some (.slice a.fa n a.fc) := by rw [← hn]; exact (HP.out.cell 3).trans rfl
 rw [hn] at hfl hn500 HW1 HBY HCL ⊢
 clear hn
 go_enter Tryz.func110, Tryz.ntmps110
 go_wp2_with fail
 rw [HW1.out]
 go_wp2_with fail
 go_loopg [3, 13] n (fun gk v i wr => ∃ j : Nat, j ≤ n ∧ gk = n - j ∧ i = .int .i64 j ∧ v = .string (St.bef (s.files.take j)) ∧ St.scan St.fileE (s.files.take j) (s.files.drop j) = qa ∧ Below w.heap.size w wr ∧ Below W1.heap.size W1 wr)
 case atStart => exact ⟨0, by omega, rfl, rfl, rfl, HQ1.out, HB1.out, Below.refl _ _⟩
 case round =>
  obtain ⟨j, hj, rfl, rfl, rfl, hs, hB, hBW⟩ := hrel
  have HS := Lib.hid hs; clear hs
  by_cases hlt : j < n
  ·obtain ⟨x, hx⟩ : ∃ x, s.files[j]? = some x := ⟨_, List.getElem?_eq_getElem (by rw [HN.out]; exact hlt)⟩
   obtain ⟨b, off, ha, hb, hcell⟩ := ((HI1.out.keep hBW).fi) (by rw [HN.out]; omega)
   have c0 : wr.cell? ⟨b, off + j * 4, none⟩ = some (.string x.dig) := hcell j x hx 0 (.string x.dig) rfl
   have c1 : wr.cell? ⟨b, off + j * 4 + 1, none⟩ = some (.int .i64 x.size) := hcell j x hx 1 (.int .i64 x.size) rfl
   have c2 : wr.cell? ⟨b, off + j * 4 + 2, none⟩ = some (.int .i64 x.kind) := hcell j x hx 2 (.int .i64 x.kind) rfl
   have c3 : wr.cell? ⟨b, off + j * 4 + 3, none⟩ = some (.string x.frm) := hcell j x hx 3 (.string x.frm) rfl
   clear hcell
   have HX := Lib.hid hx
   obtain ⟨W3, hW3, hX3, hz3, hB3⟩ := box wr #[.string x.dig, .int .i64 x.size, .int .i64 x.kind, .string x.frm] 30
   have HW3 := Lib.hid hW3
   have HAL := Lib.hid (below_up hB hB3)
   have HAW := Lib.hid (below_up hBW hB3)
   have HD : Hid (∀ W, Below W3.heap.size W3 W → W.cell? ⟨wr.heap.size, 0, none⟩ = some (.string x.dig) ∧ W.cell? ⟨wr.heap.size, 1, none⟩ = some (.int .i64 x.size) ∧ W.cell? ⟨wr.heap.size, 2, none⟩ = some (.int .i64 x.kind) ∧ W.cell? ⟨wr.heap.size, 3, none⟩ = some (.string x.frm)) := Lib.hid fun W hb =>
    have k := hX3.keep hb
    ⟨(k.cell 0).trans rfl, (k.cell 1).trans rfl, (k.cell 2).trans rfl, (k.cell 3).trans rfl⟩
   obtain ⟨d0, d1, d2, d3⟩ := HD.out _ (Below.refl _ _)
   have hCF := checkFile_is x (St.bef (s.files.take j)) (HFZ.out x (List.mem_of_getElem? hx)).1 W3
   rw [← St.fileE_bef] at hCF
   have HCF := Lib.hid hCF
   have HBF : Hid (St.bef (s.files.take (j + 1)) = x.dig) := Lib.hid (St.bef_succ hx)
   have hj0 : (0 : Int) ≤ (j : Int) := by omega
   have hj1 : (j : Int) < (n : Int) := by omega
   obtain ⟨ee, hee⟩ : ∃ ee, St.fileE (s.files.take j) x = ee := ⟨_, rfl⟩
   have HEE := Lib.hid hee
   rw [hee] at HCF
   clear hx hB hBW hX3 hz3 hB3 hW3 hCF hee
   rw [ha]
   by_cases he : ee = 0
   ·have HE := Lib.hid (St.scan_next HS.out HX.out (HEE.out.trans he))
    subst he
    go_upto_region 5 with fail
    rw [HW3.out]
    go_wp2_with (go_at_call 131; refine HCF.out.mono ?_; rintro e w4 ⟨rfl, hB4⟩; obtain ⟨d0, d1, d2, d3⟩ := HD.out _ hB4)
    rw [← ha]
    go_roundg (n - (j + 1))
    case rel => exact ⟨j + 1, by omega, rfl, by go_num, by rw [HBF.out], HE.out, below_up HAL.out hB4, below_up HAW.out hB4⟩
    case measure => omega
   ·have HE := Lib.hid (St.scan_here HS.out HX.out (by rw [HEE.out]; exact he))
    have he1 : (ee != 0) = true := by simpa using he
    have HNZ := Lib.hid he
    clear he
    go_upto_region 5 with fail
    rw [HW3.out]
    go_wp2_with (go_at_call 131; refine HCF.out.mono ?_; rintro e w4 ⟨rfl, hB4⟩)
    go_ret
    exact ⟨ret_int (by rw [HF.out, HE.out, HEE.out, if_neg HNZ.out]), below_up HAL.out hB4⟩
  ·obtain rfl : j = n := by omega
   have HE := HS.out
   rw [← HN.out] at HE
   have hq0 := St.scan_done HE
   have HU := Lib.hid (HUP.out hq0)
   have HF2 : Hid (St.filesE s.files = qb) := Lib.hid (by rw [HF.out, if_pos hq0])
   clear HE hq0
   have hKW := HCL.out _ hBW
   have m0 : wr.cell? ⟨w.heap.size, 0, none⟩ = some (.int .i64 s.least) := (hKW.cell 0).trans rfl
   have m1 : wr.cell? ⟨w.heap.size, 1, none⟩ = some (.int .i64 s.wait) := (hKW.cell 1).trans rfl
   have m2 : wr.cell? ⟨w.heap.size, 2, none⟩ = some (.slice a.ta s.tiers.length a.tc) := (hKW.cell 2).trans rfl
   have m3 : wr.cell? ⟨w.heap.size, 3, none⟩ = some (.slice a.fa j a.fc) := (hKW.cell 3).trans rfl
   have m4 : wr.cell? ⟨w.heap.size, 4, none⟩ = some (.slice a.ca s.copies.length a.cc) := (hKW.cell 4).trans rfl
   have m5 : wr.cell? ⟨w.heap.size, 5, none⟩ = some (.slice a.ha s.held.length a.hc) := (hKW.cell 5).trans rfl
   have m6 : wr.cell? ⟨w.heap.size, 6, none⟩ = some (.slice a.ba s.bin.length a.bc) := (hKW.cell 6).trans rfl
   have HB0 := Lib.hid (HBY.out _ hBW)
   have HBR := Lib.hid hB; have HBWR := Lib.hid hBW
   clear hKW hB hBW
   go_wp2_with (go_at_call 98; refine HB0.out.mono ?_; rintro e w5 ⟨mb, rfl, hmb, hM, hB5⟩; have HM5 := Lib.hid hM; have HB5 := Lib.hid (below_up HBR.out hB5); have HBW5 := Lib.hid (below_up HBWR.out hB5); have n3 : w5.cell? ⟨w.heap.size, 3, none⟩ = some (.slice a.fa j a.fc) := ((HCL.out _ HBW5.out).cell 3).trans rfl)
   clear m0 m1 m2 m3 m4 m5 m6 n3 hmb hM hB5
   go_loopg [31] j (fun gk i wq => ∃ k : Nat, k ≤ j ∧ gk = j - k ∧ i = .int .i64 k ∧ St.scan (St.fromE s.files) (s.files.take k) (s.files.drop k) = qb ∧ Below w5.heap.size w5 wq)
   case atStart => exact ⟨0, by omega, rfl, rfl, HQ2.out, Below.refl _ _⟩
   case round =>
    obtain ⟨k, hk, rfl, rfl, hs, hB⟩ := hrel
    have HS2 := Lib.hid hs; clear hs
    have HBQ := Lib.hid (below_up HB5.out hB)
    have hBWq := below_up HBW5.out hB
    by_cases hlt2 : k < j
    ·obtain ⟨x, hx⟩ : ∃ x, s.files[k]? = some x := ⟨_, List.getElem?_eq_getElem (by rw [HN.out]; exact hlt2)⟩
     obtain ⟨b, off, ha, hb, hcell⟩ := ((HI1.out.keep hBWq).fi) (by rw [HN.out]; omega)
     have c0 : wr.cell? ⟨b, off + k * 4, none⟩ = some (.string x.dig) := hcell k x hx 0 (.string x.dig) rfl
     have c1 : wr.cell? ⟨b, off + k * 4 + 1, none⟩ = some (.int .i64 x.size) := hcell k x hx 1 (.int .i64 x.size) rfl
     have c2 : wr.cell? ⟨b, off + k * 4 + 2, none⟩ = some (.int .i64 x.kind) := hcell k x hx 2 (.int .i64 x.kind) rfl
     have c3 : wr.cell? ⟨b, off + k * 4 + 3, none⟩ = some (.string x.frm) := hcell k x hx 3 (.string x.frm) rfl
     clear hcell
     have HX := Lib.hid hx
     obtain ⟨W3, hW3, hX3, hz3, hB3⟩ := box wr #[.string x.dig, .int .i64 x.size, .int .i64 x.kind, .string x.frm] 30
     have HW3 := Lib.hid hW3
     have d0 : W3.cell? ⟨wr.heap.size, 0, none⟩ = some (.string x.dig) := (hX3.cell 0).trans rfl
     have d1 : W3.cell? ⟨wr.heap.size, 1, none⟩ = some (.int .i64 x.size) := (hX3.cell 1).trans rfl
     have d2 : W3.cell? ⟨wr.heap.size, 2, none⟩ = some (.int .i64 x.kind) := (hX3.cell 2).trans rfl
     have d3 : W3.cell? ⟨wr.heap.size, 3, none⟩ = some (.string x.frm) := (hX3.cell 3).trans rfl
     obtain ⟨y, hlk, hy⟩ := FMap.kind ((HM5.out.keep hB).keep hB3) HU.out (HFZ.out x (List.mem_of_getElem? hx)).2
     have HAL := Lib.hid (below_up HBQ.out hB3)
     have HAQ := Lib.hid (below_up hB hB3)
     have HDF : Hid (St.fromE s.files (s.files.take k) x = if x.kind ≠ 1 ∧ y.kind ≠ 1 then 7 else 0) := Lib.hid (by
      rw [hy, St.filD_kind]; rfl)
     have hj0 : (0 : Int) ≤ (k : Int) := by omega
     have hj1 : (k : Int) < (j : Int) := by omega
     have hfk := fldKind y.dig y.frm y.size y.kind
     clear hx hB hX3 hz3 hB3 hW3 hy hBWq
     rw [ha]
     by_cases hk1 : x.kind = 1
     ·have hkb : (x.kind != 1) = false := by simpa using hk1
      have HBD : Hid (St.fromE s.files (s.files.take k) x = 0) := Lib.hid (by rw [HDF.out, if_neg (fun g => g.1 hk1)])
      have HE := Lib.hid (St.scan_next HS2.out HX.out HBD.out)
      clear hk1
      go_upto_region 14 with fail
      rw [HW3.out]
      go_wp2_with fail
      rw [← ha]
      go_roundg (j - (k + 1))
      case rel => exact ⟨k + 1, by omega, rfl, by go_num, HE.out, HAQ.out⟩
      case measure => omega
     ·have hkb : (x.kind != 1) = true := by simpa using hk1
      by_cases hk2 : y.kind = 1
      ·have hkc : (y.kind != 1) = false := by simpa using hk2
       have HBD : Hid (St.fromE s.files (s.files.take k) x = 0) := Lib.hid (by rw [HDF.out, if_neg (fun g => g.2 hk2)])
       have HE := Lib.hid (St.scan_next HS2.out HX.out HBD.out)
       clear hk2
       go_upto_region 14 with fail
       rw [HW3.out]
       go_wp2_with fail
       rw [← ha]
       go_roundg (j - (k + 1))
       case rel => exact ⟨k + 1, by omega, rfl, by go_num, HE.out, HAQ.out⟩
       case measure => omega
      ·have hkc : (y.kind != 1) = true := by simpa using hk2
       have HBD : Hid (St.fromE s.files (s.files.take k) x = 7) := Lib.hid (by rw [HDF.out, if_pos ⟨hk1, hk2⟩])
       have HE := Lib.hid (St.scan_here HS2.out HX.out (by rw [HBD.out]; decide))
       go_upto_region 14 with fail
       rw [HW3.out]
       go_wp2_with fail
       go_ret
       exact ⟨ret_int (by rw [HF2.out, HE.out, HBD.out]), HAL.out⟩
    ·obtain rfl : k = j := by omega
     have HE := HS2.out
     rw [← HN.out] at HE
     have HE2 := Lib.hid (St.scan_done HE)
     clear HE
     go_wp2_with fail
     go_ret
     exact ⟨ret_int (by rw [HF2.out, HE2.out]), HBQ.out⟩
theorem copyKey_is (d t : ByteArray) (hd : d.size ≤ 100) (ht : t.size ≤ 100) (w : World) : Calls Tryz.prog 56 #[.string d, .string t] w fun e w' => e = .returned (.string (St.key d t)) ∧ w = w' := by
 go_enter Tryz.func56, Tryz.ntmps56
 go_wp2_with fail
 go_ret
 exact ⟨rfl, rfl⟩
theorem free_is (s : Sto) (a : StA) (x : Tir) (mb : Nat) (w : World) (hI : StIn w s a) (hM : FMap w mb s.files) (hu : St.Up (·.dig) s.files) (hz : St.Szs s.files) (hc : s.copies.length ≤ 4000) (hr : 0 ≤ x.room ∧ x.room ≤ 1000000000000) :
  Calls Tryz.prog 97 #[.agg #[.int .i64 s.least, .int .i64 s.wait, .slice a.ta s.tiers.length a.tc, .slice a.fa s.files.length a.fc, .slice a.ca s.copies.length a.cc, .slice a.ha s.held.length a.hc, .slice a.ba s.bin.length a.bc], .agg #[.string x.name, .int .i64 x.room, .int .i64 x.cost, .bool x.away], .map (some mb)] w fun e w' => e = .returned (.int .i64 (x.room - St.used s.files x.name s.copies)) ∧ Below w.heap.size w w' := by
 obtain ⟨W1, hW1, hP, hz1, hB1⟩ := box w #[.int .i64 s.least, .int .i64 s.wait, .slice a.ta s.tiers.length a.tc, .slice a.fa s.files.length a.fc, .slice a.ca s.copies.length a.cc, .slice a.ha s.held.length a.hc, .slice a.ba s.bin.length a.bc] 28
 have HW1 := Lib.hid hW1
 have HI1 := Lib.hid (hI.keep hB1)
 obtain ⟨q0, q1, q2, q3, q4, q5, q6⟩ := hP.sv7
 have HP := Lib.hid hP; have HB1 := Lib.hid hB1
 clear hW1 hP
 obtain ⟨W2, hW2, hX2, hz2, hB2⟩ := box W1 #[.string x.name, .int .i64 x.room, .int .i64 x.cost, .bool x.away] 46
 have HW2 := Lib.hid hW2
 have HX2 := Lib.hid hX2
 have HBB := Lib.hid (below_up HB1.out hB2)
 have HI2 := Lib.hid (HI1.out.keep hB2)
 have HM2 := Lib.hid ((hM.keep HB1.out).keep hB2)
 rw [hz1] at hX2
 have p4 : W2.cell? ⟨w.heap.size, 4, none⟩ = some (.slice a.ca s.copies.length a.cc) := ((HP.out.keep hB2).cell 4).trans rfl
 have e0 : W2.cell? ⟨w.heap.size + 1, 0, none⟩ = some (.string x.name) := (hX2.cell 0).trans rfl
 have e1 : W2.cell? ⟨w.heap.size + 1, 1, none⟩ = some (.int .i64 x.room) := (hX2.cell 1).trans rfl
 have HE0 : Hid (∀ W, Below W2.heap.size W2 W → W.cell? ⟨w.heap.size + 1, 0, none⟩ = some (.string x.name)) := Lib.hid fun W hb => ((hX2.keep hb).cell 0).trans rfl
 have HCZ := Lib.hid hI.cz
 have hcl := hI.cl
 have HU := Lib.hid hu; have HZ := Lib.hid hz
 obtain ⟨tot, htot⟩ : ∃ tot, x.room - St.used s.files x.name s.copies = tot := ⟨_, rfl⟩
 rw [htot]
 have hub := St.used_bd hz x.name s.copies
 have htb : -5000000000000 ≤ tot ∧ tot ≤ 1000000000000 := by omega
 have HT0 : Hid (x.room = tot + St.used s.files x.name (s.copies.drop 0)) := Lib.hid (by rw [List.drop_zero]; omega)
 clear q0 q1 q2 q3 q4 q5 q6 hI hM hu hz hW2 hX2 hB2 hz1 hz2 htot hub
 obtain ⟨n, hn⟩ : ∃ n, s.copies.length = n := ⟨_, rfl⟩
 have HN := Lib.hid hn
 rw [hn] at p4 hcl hc HW1 ⊢
 clear hn
 go_enter Tryz.func97, Tryz.ntmps97
 go_wp2_with fail
 rw [HW1.out, HW2.out]
 go_wp2_with fail
 go_loopg [7, 15] n (fun gk v i wr => ∃ (j : Nat) (z : Int), j ≤ n ∧ gk = n - j ∧ i = .int .i64 j ∧ v = .int .i64 z ∧ z = tot + St.used s.files x.name (s.copies.drop j) ∧ Below w.heap.size w wr ∧ Below W2.heap.size W2 wr)
 case atStart => exact ⟨0, x.room, by omega, rfl, rfl, rfl, HT0.out, HBB.out, Below.refl _ _⟩
 case round =>
  obtain ⟨j, z, hj, rfl, rfl, rfl, hz, hB, hBW⟩ := hrel
  have HZZ := Lib.hid hz
  by_cases hlt : j < n
  ·obtain ⟨y, hy⟩ : ∃ y, s.copies[j]? = some y := ⟨_, List.getElem?_eq_getElem (by rw [HN.out]; exact hlt)⟩
   obtain ⟨b, off, ha, hb, hcell⟩ := (HI2.out.keep hBW).co (by rw [HN.out]; omega)
   have c0 : wr.cell? ⟨b, off + j * 4, none⟩ = some (.string y.dig) := hcell j y hy 0 (.string y.dig) rfl
   have c1 : wr.cell? ⟨b, off + j * 4 + 1, none⟩ = some (.string y.tier) := hcell j y hy 1 (.string y.tier) rfl
   have c2 : wr.cell? ⟨b, off + j * 4 + 2, none⟩ = some (.bool y.good) := hcell j y hy 2 (.bool y.good) rfl
   have c3 : wr.cell? ⟨b, off + j * 4 + 3, none⟩ = some (.int .i64 y.asked) := hcell j y hy 3 (.int .i64 y.asked) rfl
   clear hcell
   obtain ⟨W3, hW3, hX3, hz3, hB3⟩ := box wr #[.string y.dig, .string y.tier, .bool y.good, .int .i64 y.asked] 74
   have HW3 := Lib.hid hW3
   have d0 : W3.cell? ⟨wr.heap.size, 0, none⟩ = some (.string y.dig) := (hX3.cell 0).trans rfl
   have d1 : W3.cell? ⟨wr.heap.size, 1, none⟩ = some (.string y.tier) := (hX3.cell 1).trans rfl
   have e0' := HE0.out _ (below_up hBW hB3)
   obtain ⟨f, hlk, hf⟩ := FMap.kind ((HM2.out.keep hBW).keep hB3) HU.out (HCZ.out y (List.mem_of_getElem? hy)).1
   have hfs := fldSize f.dig f.frm f.size f.kind
   have hfz : 0 ≤ f.size ∧ f.size ≤ 1000000000 := by rw [hf, St.filD_size]; exact St.size_bd HZ.out y.dig
   have hstep := St.used_drop (F := s.files) (n := x.name) hy
   have hub := St.used_bd HZ.out x.name (s.copies.drop (j + 1))
   have hl1 : (s.copies.drop (j + 1)).length ≤ 4000 := by rw [List.length_drop]; have := HN.out; omega
   have hsz : St.sizeOf s.files y.dig = f.size := by rw [hf, St.filD_size]
   rw [hsz] at hstep
   have HAL := Lib.hid (below_up hB hB3)
   have HAW := Lib.hid (below_up hBW hB3)
   have hj0 : (0 : Int) ≤ (j : Int) := by omega
   have hj1 : (j : Int) < (n : Int) := by omega
   obtain ⟨ud, hud⟩ : ∃ ud, St.used s.files x.name (s.copies.drop (j + 1)) = ud := ⟨_, rfl⟩
   have HUD := Lib.hid hud
   rw [hud] at hstep hub
   clear hud
   obtain ⟨bq, hbq⟩ : ∃ bq, (y.tier.toList == x.name.toList) = bq := ⟨_, rfl⟩
   have hbq' : St.eq y.tier x.name = bq := hbq
   rw [hbq'] at hstep
   rw [hstep] at hz
   have hbnd : 0 ≤ ud ∧ ud ≤ 4000000000000 := by omega
   clear hy hB hBW hX3 hz3 hB3 hW3 hf hsz hstep hub hl1 hbq'
   rw [ha]
   cases bq
   ·rw [if_neg (by decide)] at hz
    have HZN : Hid (z = tot + ud) := Lib.hid (by omega)
    have hzb : -5000000000000 ≤ z ∧ z ≤ 5000000000000 := by omega
    clear hz
    go_upto_region 5 with fail
    rw [HW3.out]
    go_wp2_with fail
    rw [← ha]
    go_roundg (n - (j + 1))
    case rel => exact ⟨j + 1, z, by omega, rfl, by go_num, rfl, by rw [HUD.out]; exact HZN.out, HAL.out, HAW.out⟩
    case measure => omega
   ·rw [if_pos rfl] at hz
    have HZN : Hid (z - f.size = tot + ud) := Lib.hid (by omega)
    have hzb : -5000000000000 ≤ z ∧ z ≤ 5001000000000 := by omega
    clear hz
    go_upto_region 5 with fail
    rw [HW3.out]
    go_wp2_with fail
    rw [← ha]
    go_roundg (n - (j + 1))
    case rel => exact ⟨j + 1, z - f.size, by omega, rfl, by go_num, rfl, by rw [HUD.out]; exact HZN.out, HAL.out, HAW.out⟩
    case measure => omega
  ·obtain rfl : j = n := by omega
   have hz2 : z = tot := by
    rw [hz, List.drop_eq_nil_of_le (by rw [HN.out]; exact Nat.le_refl _)]; simp [St.used]
   have HZ2 := Lib.hid hz2
   clear hz hz2
   go_wp2_with fail
   go_ret
   exact ⟨ret_int HZ2.out, hB⟩
theorem entersKC : ∀ args w, (callFunc 144 args).run Tryz.prog w = .ok (.enter 144 args) w := enters_of Tryz.func144 (by kernel_rfl) rfl
theorem entersPC : ∀ args w, (callFunc 146 args).run Tryz.prog w = .ok (.enter 146 args) w := enters_of Tryz.func146 (by kernel_rfl) rfl
theorem keyKC_is (x : Cop) (hz : x.dig.size ≤ 100 ∧ x.tier.size ≤ 100) (w : World) : Calls Tryz.prog 144 #[.agg #[.string x.dig, .string x.tier, .bool x.good, .int .i64 x.asked]] w fun e w' => e = .returned (.string (St.ckey x)) ∧ Below w.heap.size w w' := by
 obtain ⟨W1, hW1, hX, hz1, hB1⟩ := box w #[.string x.dig, .string x.tier, .bool x.good, .int .i64 x.asked] 74
 have HW1 := Lib.hid hW1; have HB1 := Lib.hid hB1
 have c0 : W1.cell? ⟨w.heap.size, 0, none⟩ = some (.string x.dig) := (hX.cell 0).trans rfl
 have c1 : W1.cell? ⟨w.heap.size, 1, none⟩ = some (.string x.tier) := (hX.cell 1).trans rfl
 have c2 : W1.cell? ⟨w.heap.size, 2, none⟩ = some (.bool x.good) := (hX.cell 2).trans rfl
 have c3 : W1.cell? ⟨w.heap.size, 3, none⟩ = some (.int .i64 x.asked) := (hX.cell 3).trans rfl
 have HK := Lib.hid (fun V => copyKey_is x.dig x.tier hz.1 hz.2 V)
 clear hW1 hX hz1 hB1
 go_enter Tryz.func144, Tryz.ntmps144
 go_wp2_with fail
 rw [HW1.out]
 go_wp2_with (go_at_call 56; (with_reducible refine (HK.out _).mono ?_); rintro e w4 ⟨rfl, rfl⟩)
 go_ret
 exact ⟨rfl, HB1.out⟩
theorem placeCK_is (x : Cop) (hz : x.dig.size ≤ 100 ∧ x.tier.size ≤ 100) (k : ByteArray) (a : Option Addr) (n ca bk : Nat) (t : TypeId) (w : World) (hs : Blk w bk #[.func (.func 144) #[] #[], .slice a n ca] t) :
  Calls Tryz.prog 146 #[.agg #[.string x.dig, .string x.tier, .bool x.good, .int .i64 x.asked], .string k, .pointer (some ⟨bk, 0, none⟩)] w fun e w' => e = .returned (.int .i64 (St.cmpS (St.ckey x) k)) ∧ Below w.heap.size w w' := by
 obtain ⟨W1, hW1, hX, hz1, hB1⟩ := box w #[.string x.dig, .string x.tier, .bool x.good, .int .i64 x.asked] 74
 have HW1 := Lib.hid hW1; have HB1 := Lib.hid hB1
 have c0 : W1.cell? ⟨w.heap.size, 0, none⟩ = some (.string x.dig) := (hX.cell 0).trans rfl
 have c1 : W1.cell? ⟨w.heap.size, 1, none⟩ = some (.string x.tier) := (hX.cell 1).trans rfl
 have c2 : W1.cell? ⟨w.heap.size, 2, none⟩ = some (.bool x.good) := (hX.cell 2).trans rfl
 have c3 : W1.cell? ⟨w.heap.size, 3, none⟩ = some (.int .i64 x.asked) := (hX.cell 3).trans rfl
 have r0 : W1.cell? ⟨bk, 0, none⟩ = some (.func (.func 144) #[] #[]) := ((hs.keep hB1).cell 0).trans rfl
 have eg := entersKC
 have HK := Lib.hid (fun W => keyKC_is x hz W)
 have HC := Lib.hid (fun W => cmpStr_is (St.ckey x) k W)
 generalize St.ckey x = kx at *
 clear hs hW1 hX hz1 hB1
 go_enter Tryz.func146, Tryz.ntmps146
 go_upto_region 1 with fail
 rw [HW1.out]
 go_wp2_with (first | (go_at_fn 144; (with_reducible refine (HK.out _).mono ?_); rintro e w4 ⟨rfl, hB4⟩) | (go_at_call 147; (with_reducible refine (HC.out _).mono ?_); rintro e w5 ⟨rfl, rfl⟩))
 go_ret
 exact ⟨rfl, below_up HB1.out hB4⟩
theorem bsC_is (L : List Cop) (hu : St.Up St.ckey L) (hz : ∀ x ∈ L, x.dig.size ≤ 100 ∧ x.tier.size ≤ 100) (h1m : L.length ≤ 1000000) (k : ByteArray) (a : Option Addr) (ca bk : Nat) (t : TypeId) (w : World) (hl : L.length ≤ ca ∧ ca ≤ 9223372036854775807) (hr : RowE St.eC w a L) (hs : Blk w bk #[.func (.func 144) #[] #[], .slice a L.length ca] t) :
  Calls Tryz.prog 145 #[.slice a L.length ca, .string k, .func (.func 146) #[] #[.pointer (some ⟨bk, 0, none⟩)]] w fun e w' => e = .returned (.tuple #[.int .i64 (St.pos St.ckey k L), .bool (St.hasK St.ckey L k)]) ∧ Below w.heap.size w w' := by
 have eg := entersPC
 have HR := Lib.hid hr; have HS := Lib.hid hs; have HU := Lib.hid hu
 have HZ := Lib.hid hz
 clear hz
 obtain ⟨n, hn⟩ : ∃ n, L.length = n := ⟨_, rfl⟩
 have HN := Lib.hid hn
 have HC0 : Hid (∀ (i : Nat) (x : Cop), L[i]? = some x → ∀ V, Below w.heap.size w V → Calls Tryz.prog 146 #[.agg #[.string x.dig, .string x.tier, .bool x.good, .int .i64 x.asked], .string k, .pointer (some ⟨bk, 0, none⟩)] V fun e w' => e = .returned (.int .i64 (St.cmpS (St.ckey x) k)) ∧ Below V.heap.size V w') := Lib.hid fun i x hx V hv => placeCK_is x (HZ.out x (List.mem_of_getElem? hx)) k a L.length ca bk t V (hs.keep hv)
 rw [hn] at hl h1m ⊢
 clear hr hs hu hn
 go_enter Tryz.func145, Tryz.ntmps145
 go_wp2_with fail
 go_loopg [9, 10] n (fun g s7 s8 wr => ∃ lo hi : Nat, s7 = .int .i64 lo ∧ s8 = .int .i64 hi ∧ lo ≤ hi ∧ hi ≤ n ∧ g = 0 + (hi - lo) ∧ Below w.heap.size w wr ∧ (∀ i x, L[i]? = some x → i < lo → St.lt (St.ckey x) k = true) ∧ (∀ i x, L[i]? = some x → hi ≤ i → St.lt (St.ckey x) k = false))
 case atStart => exact ⟨0, n, rfl, rfl, Nat.zero_le _, Nat.le_refl _, by omega, Below.refl _ _, fun i x _ h => absurd h (Nat.not_lt_zero _), fun i x hx h => by have := (List.getElem?_eq_some_iff.1 hx).1; have := HN.out; omega⟩
 case round =>
  obtain ⟨lo, hi, rfl, rfl, hlh, hin, rfl, hB, h1, h2⟩ := hrel
  have I1 := Lib.hid h1; have I2 := Lib.hid h2
  clear h1 h2
  by_cases hlt : lo < hi
  ·obtain ⟨x, hx⟩ : ∃ x, L[(lo + hi) / 2]? = some x := ⟨_, List.getElem?_eq_getElem (by rw [HN.out]; omega)⟩
   obtain ⟨b, off, ha, hb, hcell⟩ := (HR.out.keep hB) (by rw [HN.out]; omega)
   have c0 : wr.cell? ⟨b, off + (lo + hi) / 2 * 4, none⟩ = some (.string x.dig) := hcell _ x hx 0 (.string x.dig) rfl
   have c1 : wr.cell? ⟨b, off + (lo + hi) / 2 * 4 + 1, none⟩ = some (.string x.tier) := hcell _ x hx 1 (.string x.tier) rfl
   have c2 : wr.cell? ⟨b, off + (lo + hi) / 2 * 4 + 2, none⟩ = some (.bool x.good) := hcell _ x hx 2 (.bool x.good) rfl
   have c3 : wr.cell? ⟨b, off + (lo + hi) / 2 * 4 + 3, none⟩ = some (.int .i64 x.asked) := hcell _ x hx 3 (.int .i64 x.asked) rfl
   clear hcell
   have HX := Lib.hid hx
   obtain ⟨s, hsg⟩ : ∃ s, St.cmpS (St.ckey x) k = s := ⟨_, rfl⟩
   have HC := Lib.hid (HC0.out _ x hx _ hB)
   rw [hsg] at HC
   have HSG : Hid (s < 0 ↔ St.lt (St.ckey x) k = true) := Lib.hid (by rw [← hsg]; exact St.cmpS_lt)
   rw [ha]
   have HB := Lib.hid hB
   clear hsg hx hB
   by_cases hyx : s < 0
   ·go_wp2_with (go_at_fn 146; (with_reducible refine HC.out.mono ?_); rintro e w4 ⟨rfl, hB4⟩)
    rw [← ha]
    go_roundg (hi - ((lo + hi) / 2 + 1))
    case measure => omega
    case rel =>
     refine ⟨(lo + hi) / 2 + 1, hi, by rw [show ((lo : Int) + (hi : Int)) / 2 + 1 = (((lo + hi) / 2 + 1 : Nat) : Int) by omega], rfl, by omega, hin, by omega, below_up HB.out hB4, fun i y hy hi2 => ?_, I2.out⟩
     by_cases e : i = (lo + hi) / 2
     ·subst e; rw [HX.out] at hy; obtain rfl := Option.some.inj hy; exact HSG.out.1 hyx
     ·exact St.lt_trans (HU.out.lt hy HX.out (by omega)) (HSG.out.1 hyx)
   ·go_wp2_with (go_at_fn 146; (with_reducible refine HC.out.mono ?_); rintro e w4 ⟨rfl, hB4⟩)
    rw [← ha]
    go_roundg ((lo + hi) / 2 - lo)
    case measure => omega
    case rel =>
     refine ⟨lo, (lo + hi) / 2, rfl, by rw [show ((lo : Int) + (hi : Int)) / 2 = (((lo + hi) / 2 : Nat) : Int) by omega], by omega, by omega, by omega, below_up HB.out hB4, I1.out, fun i y hy hi2 => ?_⟩
     have hxk : St.lt (St.ckey x) k = false := by
      cases h : St.lt (St.ckey x) k
      ·rfl
      ·exact absurd (HSG.out.2 h) (by omega)
     by_cases e : i = (lo + hi) / 2
     ·subst e; rw [HX.out] at hy; obtain rfl := Option.some.inj hy; exact hxk
     ·have h3 : St.lt (St.ckey x) (St.ckey y) = true := HU.out.lt HX.out hy (by omega)
      cases h : St.lt (St.ckey y) k
      ·rfl
      ·rw [St.lt_trans h3 h] at hxk; cases hxk
  ·have : hi = lo := by omega
   subst this
   have HP : Hid (St.pos St.ckey k L = hi) := Lib.hid (St.pos_is (by rw [HN.out]; exact hin) (fun i x h1 h2 => I1.out i x h1 h2) (fun x hx => I2.out hi x hx (Nat.le_refl _)))
   by_cases hnn : hi < n
   ·obtain ⟨x, hx⟩ : ∃ x, L[hi]? = some x := ⟨_, List.getElem?_eq_getElem (by rw [HN.out]; omega)⟩
    have HH : Hid (St.hasK St.ckey L k = St.eq (St.ckey x) k) := Lib.hid (by rw [St.has_pos HU.out, HP.out, hx])
    obtain ⟨b, off, ha, hb, hcell⟩ := (HR.out.keep hB) (by rw [HN.out]; omega)
    have c0 : wr.cell? ⟨b, off + hi * 4, none⟩ = some (.string x.dig) := hcell _ x hx 0 (.string x.dig) rfl
    have c1 : wr.cell? ⟨b, off + hi * 4 + 1, none⟩ = some (.string x.tier) := hcell _ x hx 1 (.string x.tier) rfl
    have c2 : wr.cell? ⟨b, off + hi * 4 + 2, none⟩ = some (.bool x.good) := hcell _ x hx 2 (.bool x.good) rfl
    have c3 : wr.cell? ⟨b, off + hi * 4 + 3, none⟩ = some (.int .i64 x.asked) := hcell _ x hx 3 (.int .i64 x.asked) rfl
    have HEQ : Hid ((St.cmpS (St.ckey x) k == 0) = St.eq (St.ckey x) k) := Lib.hid St.cmpS_eq
    have HC := Lib.hid (HC0.out _ x hx _ hB)
    have HV : Hid (St.hasK St.ckey L k = (St.cmpS (St.ckey x) k == 0)) := Lib.hid (HH.out.trans HEQ.out.symm)
    clear HEQ HH hcell hx
    generalize St.cmpS (St.ckey x) k = s at HC HV
    have HB := Lib.hid hB
    clear hB
    rw [ha]
    by_cases hs0 : s = 0
    ·subst hs0
     go_wp2_with (go_at_fn 146; (with_reducible refine HC.out.mono ?_); rintro e w4 ⟨rfl, hB4⟩)
     go_ret2
     exact ⟨by rw [HP.out, HV.out]; rfl, below_up HB.out hB4⟩
    ·have hs1 : (s == 0) = false := by simpa using hs0
     go_wp2_with (go_at_fn 146; (with_reducible refine HC.out.mono ?_); rintro e w4 ⟨rfl, hB4⟩)
     go_ret2
     exact ⟨by rw [HP.out, HV.out, hs1]; rfl, below_up HB.out hB4⟩
   ·obtain rfl : n = hi := by omega
    have HH : Hid (St.hasK St.ckey L k = false) := Lib.hid (by rw [St.has_pos HU.out, HP.out, List.getElem?_eq_none (by rw [HN.out]; exact Nat.le_refl _)])
    go_wp2_with fail
    go_ret2
    exact ⟨by rw [HP.out, HH.out]; rfl, hB⟩
theorem placeC_is (L : List Cop) (hu : St.Up St.ckey L) (hz : ∀ x ∈ L, x.dig.size ≤ 100 ∧ x.tier.size ≤ 100) (h1m : L.length ≤ 1000000) (k : ByteArray) (a : Option Addr) (ca : Nat) (w : World) (hl : L.length ≤ ca ∧ ca ≤ 9223372036854775807) (hr : RowE St.eC w a L) :
  Calls Tryz.prog 55 #[.agg #[.func (.func 144) #[] #[], .slice a L.length ca], .string k] w fun e w' => e = .returned (.tuple #[.int .i64 (St.pos St.ckey k L), .bool (St.hasK St.ckey L k)]) ∧ Below w.heap.size w w' := by
 obtain ⟨W1, hW1, hP, hz1, hB1⟩ := box w #[.func (.func 144) #[] #[], .slice a L.length ca] 97
 have HW1 := Lib.hid hW1; have HB1 := Lib.hid hB1
 have r1 : W1.cell? ⟨w.heap.size, 1, none⟩ = some (.slice a L.length ca) := (hP.cell 1).trans rfl
 have HC := Lib.hid (bsC_is L hu hz h1m k a ca w.heap.size _ W1 hl (hr.keep hB1) hP)
 have hmf : ∀ (fn : Fn) (first cap : Array Value) (w : World), (Instr.makeFunc fn first cap).run Tryz.prog w = .ok (.func fn first cap) w := fun _ _ _ _ => rfl
 clear hW1 hP hz1 hB1 hr
 go_enter Tryz.func55, Tryz.ntmps55
 go_wp2_with fail
 rw [HW1.out]
 go_wp2_with (go_at_call 145; (with_reducible refine HC.out.mono ?_); rintro e w4 ⟨rfl, hB4⟩)
 go_ret2
 exact ⟨rfl, below_up HB1.out hB4⟩
theorem copiesRow_is (s : Sto) (a : StA) (w : World) :
  Calls Tryz.prog 54 #[.agg #[.int .i64 s.least, .int .i64 s.wait, .slice a.ta s.tiers.length a.tc, .slice a.fa s.files.length a.fc, .slice a.ca s.copies.length a.cc, .slice a.ha s.held.length a.hc, .slice a.ba s.bin.length a.bc]] w fun e w' => e = .returned (.agg #[.func (.func 144) #[] #[], .slice a.ca s.copies.length a.cc]) ∧ Below w.heap.size w w' := by
 obtain ⟨W1, hW1, hP, hz1, hB1⟩ := box w #[.int .i64 s.least, .int .i64 s.wait, .slice a.ta s.tiers.length a.tc, .slice a.fa s.files.length a.fc, .slice a.ca s.copies.length a.cc, .slice a.ha s.held.length a.hc, .slice a.ba s.bin.length a.bc] 28
 have HW1 := Lib.hid hW1; have HB1 := Lib.hid hB1
 have q5 : W1.cell? ⟨w.heap.size, 4, none⟩ = some (.slice a.ca s.copies.length a.cc) := (hP.cell 4).trans rfl
 obtain ⟨W2, hW2, hX2, hz2, hB2⟩ := box W1 #[.func (.func 144) #[] #[], .slice a.ca s.copies.length a.cc] 97
 have HW2 := Lib.hid hW2
 rw [hz1] at hX2
 have HX2 := Lib.hid hX2; have HBB := Lib.hid (below_up hB1 hB2)
 have hsf : ∀ (fn : Fn) (x y : Array Value) (p : Addr) (m : Mode) (W : World), (store p (.func fn x y) m).run Tryz.prog W = stored Tryz.prog W p (.func fn x y) m := fun fn x y p m W => run_store Tryz.prog W p _ m rfl
 clear hW1 hP hW2 hX2 hB1 hB2
 go_enter Tryz.func54, Tryz.ntmps54
 go_wp2_with fail
 rw [HW1.out]
 go_wp2_with fail
 rw [HW2.out]
 have g0 : W2.cell? ⟨w.heap.size + 1, 0, none⟩ = some (.func (.func 144) #[] #[]) := (HX2.out.cell 0).trans rfl
 have g1 : W2.cell? ⟨w.heap.size + 1, 1, none⟩ = some (.slice a.ca s.copies.length a.cc) := (HX2.out.cell 1).trans rfl
 refine bodyPost_ret (v := .agg #[.func (.func 144) #[] #[], .slice a.ca s.copies.length a.cc]) (by simp [results, Tryz.results54, go_sem, g0, g1]) rfl ⟨rfl, HBB.out⟩
end Go.Proofs.YthdiccdnggloiaaGreatDoor
namespace Go.Proofs.YthdiccdnggloiaaGreatDoor
open Go.RowKit
namespace St
def isCop (d t : ByteArray) (c : Cop) : Bool := eq c.dig d && eq c.tier t
def copyAt (s : Sto) (d t : ByteArray) : Int := idx (isCop d t) s.copies 0
theorem find_idx {α : Type} {p : α → Bool} : ∀ {L : List α} {i : Nat}, (∀ x, L.find? p = some x → ∃ j, idx p L i = ((i + j : Nat) : Int) ∧ L[j]? = some x) ∧ (L.find? p = none → idx p L i = -1)
 | [], i => ⟨fun x h => by simp at h, fun _ => rfl⟩
 | y :: L, i => by
   obtain ⟨h1, h2⟩ := find_idx (p := p) (L := L) (i := i + 1)
   cases hy : p y
   ·rw [List.find?_cons_of_neg (by rw [hy]; decide)]
    refine ⟨fun x hx => ?_, fun hn => ?_⟩
    ·obtain ⟨j, e1, e2⟩ := h1 x hx
     exact ⟨j + 1, by rw [idx, if_neg (by rw [hy]; decide), e1]; congr 1; omega, by simpa using e2⟩
    ·rw [idx, if_neg (by rw [hy]; decide), h2 hn]
   ·rw [List.find?_cons_of_pos (by exact hy)]
    refine ⟨fun x hx => ⟨0, by rw [idx, if_pos hy]; rfl, by simpa using hx⟩, fun hn => by cases hn⟩
theorem goodAt_eq (s : Sto) (d t : ByteArray) : goodAt s d t = match s.copies.find? (isCop d t) with | some c => c.good | none => false := rfl
theorem good_idx (s : Sto) (d t : ByteArray) : (copyAt s d t < 0 → goodAt s d t = false) ∧ (∀ j : Nat, copyAt s d t = (j : Int) → ∃ c, s.copies[j]? = some c ∧ isCop d t c = true ∧ goodAt s d t = c.good) := by
 obtain ⟨h1, h2⟩ := find_idx (p := isCop d t) (L := s.copies) (i := 0)
 rw [goodAt_eq]
 unfold copyAt
 cases hf : s.copies.find? (isCop d t) with
 | none => exact ⟨fun _ => rfl, fun j hj => by rw [h2 hf] at hj; omega⟩
 | some c =>
   obtain ⟨k, e1, e2⟩ := h1 c hf
   refine ⟨fun h => by rw [e1] at h; omega, fun j hj => ?_⟩
   rw [e1] at hj
   obtain rfl : j = k := by omega
   exact ⟨c, e2, List.find?_some hf, rfl⟩
theorem isCop_key {s : Sto} (r : Right s) {d t : ByteArray} (hd : d.size = 16) {c : Cop} (hc : c ∈ s.copies) : isCop d t c = eq (ckey c) (key d t) := by
 unfold isCop ckey
 rw [eq_key ((cop_dig r hc).trans hd.symm)]
theorem copyAt_pos {s : Sto} (r : Right s) {d t : ByteArray} (hd : d.size = 16) : (hasK ckey s.copies (key d t) = true → copyAt s d t = (pos ckey (key d t) s.copies : Nat)) ∧ (hasK ckey s.copies (key d t) = false → copyAt s d t = -1) := by
 have hu := cop_up r
 refine ⟨fun h => ?_, fun h => ?_⟩
 ·obtain ⟨x, hx, hk⟩ := hasK_at hu h
  have hxm := List.mem_of_getElem? hx
  have hxp : isCop d t x = true := by rw [isCop_key r hd hxm]; exact eq_iff.2 hk
  obtain ⟨hlt, hg⟩ := List.getElem?_eq_some_iff.1 hx
  unfold copyAt
  have e : s.copies = s.copies.take (pos ckey (key d t) s.copies) ++ x :: s.copies.drop (pos ckey (key d t) s.copies + 1) := by
   rw [← hg, ← List.drop_eq_getElem_cons hlt, List.take_append_drop]
  have hz : ∀ y ∈ s.copies.take (pos ckey (key d t) s.copies), isCop d t y = false := by
   intro y hy
   have hym := List.mem_of_mem_take hy
   cases hp : isCop d t y
   ·rfl
   ·rw [isCop_key r hd hym] at hp
    obtain ⟨i, hi⟩ := List.getElem?_of_mem hy
    have hil : i < pos ckey (key d t) s.copies := by
     have := (List.getElem?_eq_some_iff.1 hi).1
     rw [List.length_take] at this; omega
    rw [List.getElem?_take, if_pos hil] at hi
    have h3 := pos_before hi hil
    rw [eq_iff.1 hp, lt_irr] at h3
    cases h3
  rw [e, idx_at hz hxp, ← e, Nat.zero_add, List.length_take]
  congr 1; omega
 ·unfold copyAt
  refine idx_none fun x hx => ?_
  rw [isCop_key r hd hx]
  cases hp : eq (ckey x) (key d t)
  ·rfl
  ·exact absurd (eq_iff.1 hp) (hasK_not h x hx)
theorem good_pos {s : Sto} (r : Right s) {d t : ByteArray} (hd : d.size = 16) : (hasK ckey s.copies (key d t) = false → goodAt s d t = false) ∧ (hasK ckey s.copies (key d t) = true → ∃ c, s.copies[pos ckey (key d t) s.copies]? = some c ∧ isCop d t c = true ∧ goodAt s d t = c.good) := by
 obtain ⟨h1, h2⟩ := copyAt_pos (t := t) r hd
 obtain ⟨g1, g2⟩ := good_idx s d t
 exact ⟨fun h => g1 (by rw [h2 h]; omega), fun h => g2 _ (h1 h)⟩
def best (b : Tir) (L : List Tir) : Tir := L.foldl (fun b t => if t.cost < b.cost then t else b) b
theorem best_snoc {b : Tir} {L : List Tir} {j : Nat} {x : Tir} (h : L[j]? = some x) : best b (L.take (j + 1)) = if x.cost < (best b (L.take j)).cost then x else best b (L.take j) := by
 unfold best
 rw [List.take_add_one, h, Option.toList_some, List.foldl_append]; rfl
theorem best_mem {b : Tir} : ∀ {L : List Tir}, best b L = b ∨ best b L ∈ L := by
 intro L
 induction L generalizing b with
 | nil => exact .inl rfl
 | cons t L ih =>
   unfold best
   rw [List.foldl_cons]
   split
   ·rcases ih (b := t) with h | h
    ·right; unfold best at h; rw [h]; simp
    ·right; unfold best at h; exact List.mem_cons_of_mem _ h
   ·rcases ih (b := b) with h | h
    ·left; exact h
    ·right; unfold best at h; exact List.mem_cons_of_mem _ h
def cheap (L : List Tir) : Tir := match L with | [] => ⟨⟨#[]⟩, 0, 0, false⟩ | t :: r => best t (t :: r)
theorem cheap_mem {L : List Tir} (h : L ≠ []) : cheap L ∈ L := by
 cases L with
 | nil => exact absurd rfl h
 | cons t r =>
   show best t (t :: r) ∈ t :: r
   rcases best_mem (b := t) (L := t :: r) with h | h
   ·rw [h]; simp
   ·exact h
end St
namespace St
theorem file16 {s : Sto} (r : Right s) {d : ByteArray} {f : Fil} (h : fileOf s.files d = some f) : d.size = 16 := by
 obtain ⟨h1, h2⟩ := find_mem h
 rw [← eq_iff.1 h2]
 exact dig16 (r.dig f h1).1
theorem goodL_len (s : Sto) (d : ByteArray) : (goodL s d).length ≤ s.tiers.length := List.length_filter_le _ _
end St
end Go.Proofs.YthdiccdnggloiaaGreatDoor
