/- Parts of the proof, no condition: StChk4, StChk5, StPlcG, StWthG, StWoS, StWoG, StHasPG. -/
import Derived.Test.YthdiccdnggloiaaGreatDoorKp5
import Derived.Test.YthdiccdnggloiaaGreatDoorKp6
import Derived.Test.YthdiccdnggloiaaGreatDoorKp4
import Derived.Test.YthdiccdnggloiaaGreatDoorKp3
import Derived.Deep.RegionHeld3
set_option maxRecDepth 100000
set_option maxHeartbeats 8000000
set_option linter.unusedSimpArgs false
set_option linter.unusedVariables false
namespace Go.Proofs.YthdiccdnggloiaaGreatDoor
open Go.RowKit Go.Sort Go.Shelf Go.Maps
theorem fldSize (d f : ByteArray) (s k : Int) (w : World) : (Instr.field 30 (.agg #[.string d, .int .i64 s, .int .i64 k, .string f]) 1).run Tryz.prog w = .ok (.int .i64 s) w := by kernel_rfl
theorem fldKind (d f : ByteArray) (s k : Int) (w : World) : (Instr.field 30 (.agg #[.string d, .int .i64 s, .int .i64 k, .string f]) 2).run Tryz.prog w = .ok (.int .i64 k) w := by kernel_rfl
theorem FMap.kind {w : World} {b : Nat} {L : List Fil} (h : FMap w b L) (hu : St.Up (·.dig) L) {d : ByteArray} (hd : d.size ≤ 9223372036854775807) :
  ∃ y : Fil, (Instr.lookup 133 (.map (some b)) (.string d) false).run Tryz.prog w = .ok (.agg #[.string y.dig, .int .i64 y.size, .int .i64 y.kind, .string y.frm]) w ∧ y = St.filD L d := by
 refine ⟨(St.lastOf L d).getD St.zeroF, h.look hd, ?_⟩
 rw [St.lastOf_up hu]; rfl
theorem checkFiles_is (s : Sto) (a : StA) (w : World) (hI : StIn w s a) (hn500 : s.files.length ≤ 500) :
  Calls Tryz.prog 110 #[.agg #[.int .i64 s.least, .int .i64 s.wait, .slice a.ta s.tiers.length a.tc, .slice a.fa s.files.length a.fc, .slice a.ca s.copies.length a.cc, .slice a.ha s.held.length a.hc, .slice a.ba s.bin.length a.bc]] w fun e w' => e = .returned (.int .i64 (St.filesE s.files)) ∧ Below w.heap.size w w' := by
 obtain ⟨W1, hW1, hP, hz1, hB1⟩ := box w #[.int .i64 s.least, .int .i64 s.wait, .slice a.ta s.tiers.length a.tc, .slice a.fa s.files.length a.fc, .slice a.ca s.copies.length a.cc, .slice a.ha s.held.length a.hc, .slice a.ba s.bin.length a.bc] 28
 have HW1 := Lib.hid hW1
 have HI1 := Lib.hid (hI.keep hB1)
 have q0 : W1.cell? ⟨w.heap.size, 0, none⟩ = some (.int .i64 s.least) := (hP.cell 0).trans rfl
 have q1 : W1.cell? ⟨w.heap.size, 1, none⟩ = some (.int .i64 s.wait) := (hP.cell 1).trans rfl
 have q2 : W1.cell? ⟨w.heap.size, 2, none⟩ = some (.slice a.ta s.tiers.length a.tc) := (hP.cell 2).trans rfl
 have q3 : W1.cell? ⟨w.heap.size, 3, none⟩ = some (.slice a.fa s.files.length a.fc) := (hP.cell 3).trans rfl
 have q4 : W1.cell? ⟨w.heap.size, 4, none⟩ = some (.slice a.ca s.copies.length a.cc) := (hP.cell 4).trans rfl
 have q5 : W1.cell? ⟨w.heap.size, 5, none⟩ = some (.slice a.ha s.held.length a.hc) := (hP.cell 5).trans rfl
 have q6 : W1.cell? ⟨w.heap.size, 6, none⟩ = some (.slice a.ba s.bin.length a.bc) := (hP.cell 6).trans rfl
 have HP := Lib.hid hP; have HB1 := Lib.hid hB1
 clear hW1 hP
 have hfl := hI.fl
 have HFZ := Lib.hid hI.fz
 obtain ⟨qa, hq1⟩ : ∃ qa, St.scan St.fileE [] s.files = qa := ⟨_, rfl⟩
 obtain ⟨qb, hq2⟩ : ∃ qb, St.scan (St.fromE s.files) [] s.files = qb := ⟨_, rfl⟩
 have HF : Hid (St.filesE s.files = if qa = 0 then qb else qa) := Lib.hid (by unfold St.filesE; rw [hq1, hq2])
 have HUP : Hid (qa = 0 → St.Up (·.dig) s.files) := Lib.hid fun h => St.files_up (hq1.trans h)
 have HQ1 : Hid (St.scan St.fileE (s.files.take 0) (s.files.drop 0) = qa) := Lib.hid hq1
 have HQ2 : Hid (St.scan (St.fromE s.files) (s.files.take 0) (s.files.drop 0) = qb) := Lib.hid hq2
 have HBY := Lib.hid (fun W (hb : Below W1.heap.size W1 W) => byDigest_is s a W (HI1.out.keep hb) hn500)
 have HCL := Lib.hid (fun W (hb : Below W1.heap.size W1 W) => HP.out.keep hb)
 clear q0 q1 q2 q3 q4 q5 q6 hI hq1 hq2
 obtain ⟨n, hn⟩ : ∃ n, s.files.length = n := ⟨_, rfl⟩
 have HN := Lib.hid hn
 have q3 : W1.cell? ⟨w.heap.size, 3, none⟩ = some (.slice a.fa n a.fc) := by rw [← hn]; exact (HP.out.cell 3).trans rfl
 rw [hn] at hfl hn500 HW1 HBY HCL ⊢
 clear hn
 go_enter Tryz.func110, Tryz.ntmps110
 go_wp2_with fail
 rw [HW1.out]
 go_wp2_with fail
 go_loopg [3, 13] n (fun gk v i wr => ∃ j : Nat, j ≤ n ∧ gk = n - j ∧ i = .int .i64 j ∧ v = .string (St.bef (s.files.take j)) ∧ St.scan St.fileE (s.files.take j) (s.files.drop j) = qa ∧ Below w.heap.size w wr ∧ Below W1.heap.size W1 wr)
 case atStart => exact ⟨0, by omega, rfl, rfl, rfl, HQ1.out, HB1.out, Below.refl _ _⟩
 case round =>
  obtain ⟨j, hj, rfl, rfl, rfl, hs, hB, hBW⟩ := hrel
  have HS := Lib.hid hs; clear hs
  by_cases hlt : j < n
  ·obtain ⟨x, hx⟩ : ∃ x, s.files[j]? = some x := ⟨_, List.getElem?_eq_getElem (by rw [HN.out]; exact hlt)⟩
   obtain ⟨b, off, ha, hb, hcell⟩ := ((HI1.out.keep hBW).fi) (by rw [HN.out]; omega)
   have c0 : wr.cell? ⟨b, off + j * 4, none⟩ = some (.string x.dig) := hcell j x hx 0 (.string x.dig) rfl
   have c1 : wr.cell? ⟨b, off + j * 4 + 1, none⟩ = some (.int .i64 x.size) := hcell j x hx 1 (.int .i64 x.size) rfl
   have c2 : wr.cell? ⟨b, off + j * 4 + 2, none⟩ = some (.int .i64 x.kind) := hcell j x hx 2 (.int .i64 x.kind) rfl
   have c3 : wr.cell? ⟨b, off + j * 4 + 3, none⟩ = some (.string x.frm) := hcell j x hx 3 (.string x.frm) rfl
   clear hcell
   have HX := Lib.hid hx
   obtain ⟨W3, hW3, hX3, hz3, hB3⟩ := box wr #[.string x.dig, .int .i64 x.size, .int .i64 x.kind, .string x.frm] 30
   have HW3 := Lib.hid hW3
   have HAL := Lib.hid (below_up hB hB3)
   have HAW := Lib.hid (below_up hBW hB3)
   have HD : Hid (∀ W, Below W3.heap.size W3 W → W.cell? ⟨wr.heap.size, 0, none⟩ = some (.string x.dig) ∧ W.cell? ⟨wr.heap.size, 1, none⟩ = some (.int .i64 x.size) ∧ W.cell? ⟨wr.heap.size, 2, none⟩ = some (.int .i64 x.kind) ∧ W.cell? ⟨wr.heap.size, 3, none⟩ = some (.string x.frm)) := Lib.hid fun W hb =>
    have k := hX3.keep hb
    ⟨(k.cell 0).trans rfl, (k.cell 1).trans rfl, (k.cell 2).trans rfl, (k.cell 3).trans rfl⟩
   obtain ⟨d0, d1, d2, d3⟩ := HD.out _ (Below.refl _ _)
   have hCF := checkFile_is x (St.bef (s.files.take j)) (HFZ.out x (List.mem_of_getElem? hx)).1 W3
   rw [← St.fileE_bef] at hCF
   have HCF := Lib.hid hCF
   have HBF : Hid (St.bef (s.files.take (j + 1)) = x.dig) := Lib.hid (St.bef_succ hx)
   have hj0 : (0 : Int) ≤ (j : Int) := by omega
   have hj1 : (j : Int) < (n : Int) := by omega
   obtain ⟨ee, hee⟩ : ∃ ee, St.fileE (s.files.take j) x = ee := ⟨_, rfl⟩
   have HEE := Lib.hid hee
   rw [hee] at HCF
   clear hx hB hBW hX3 hz3 hB3 hW3 hCF hee
   rw [ha]
   by_cases he : ee = 0
   ·have HE := Lib.hid (St.scan_next HS.out HX.out (HEE.out.trans he))
    subst he
    go_upto_region 5 with fail
    rw [HW3.out]
    go_wp2_with (go_at_call 131; refine HCF.out.mono ?_; rintro e w4 ⟨rfl, hB4⟩; obtain ⟨d0, d1, d2, d3⟩ := HD.out _ hB4)
    rw [← ha]
    go_roundg (n - (j + 1))
    case rel => exact ⟨j + 1, by omega, rfl, by go_num, by rw [HBF.out], HE.out, below_up HAL.out hB4, below_up HAW.out hB4⟩
    case measure => omega
   ·have HE := Lib.hid (St.scan_here HS.out HX.out (by rw [HEE.out]; exact he))
    have he1 : (ee != 0) = true := by simpa using he
    have HNZ := Lib.hid he
    clear he
    go_upto_region 5 with fail
    rw [HW3.out]
    go_wp2_with (go_at_call 131; refine HCF.out.mono ?_; rintro e w4 ⟨rfl, hB4⟩)
    go_ret
    exact ⟨ret_int (by rw [HF.out, HE.out, HEE.out, if_neg HNZ.out]), below_up HAL.out hB4⟩
  ·obtain rfl : j = n := by omega
   have HE := HS.out
   rw [← HN.out] at HE
   have hq0 := St.scan_done HE
   have HU := Lib.hid (HUP.out hq0)
   have HF2 : Hid (St.filesE s.files = qb) := Lib.hid (by rw [HF.out, if_pos hq0])
   clear HE hq0
   have hKW := HCL.out _ hBW
   have m0 : wr.cell? ⟨w.heap.size, 0, none⟩ = some (.int .i64 s.least) := (hKW.cell 0).trans rfl
   have m1 : wr.cell? ⟨w.heap.size, 1, none⟩ = some (.int .i64 s.wait) := (hKW.cell 1).trans rfl
   have m2 : wr.cell? ⟨w.heap.size, 2, none⟩ = some (.slice a.ta s.tiers.length a.tc) := (hKW.cell 2).trans rfl
   have m3 : wr.cell? ⟨w.heap.size, 3, none⟩ = some (.slice a.fa j a.fc) := (hKW.cell 3).trans rfl
   have m4 : wr.cell? ⟨w.heap.size, 4, none⟩ = some (.slice a.ca s.copies.length a.cc) := (hKW.cell 4).trans rfl
   have m5 : wr.cell? ⟨w.heap.size, 5, none⟩ = some (.slice a.ha s.held.length a.hc) := (hKW.cell 5).trans rfl
   have m6 : wr.cell? ⟨w.heap.size, 6, none⟩ = some (.slice a.ba s.bin.length a.bc) := (hKW.cell 6).trans rfl
   have HB0 := Lib.hid (HBY.out _ hBW)
   have HBR := Lib.hid hB; have HBWR := Lib.hid hBW
   clear hKW hB hBW
   go_wp2_with (go_at_call 98; refine HB0.out.mono ?_; rintro e w5 ⟨mb, rfl, hmb, hM, hB5⟩; have HM5 := Lib.hid hM; have HB5 := Lib.hid (below_up HBR.out hB5); have HBW5 := Lib.hid (below_up HBWR.out hB5); have n3 : w5.cell? ⟨w.heap.size, 3, none⟩ = some (.slice a.fa j a.fc) := ((HCL.out _ HBW5.out).cell 3).trans rfl)
   clear m0 m1 m2 m3 m4 m5 m6 n3 hmb hM hB5
   go_loopg [31] j (fun gk i wq => ∃ k : Nat, k ≤ j ∧ gk = j - k ∧ i = .int .i64 k ∧ St.scan (St.fromE s.files) (s.files.take k) (s.files.drop k) = qb ∧ Below w5.heap.size w5 wq)
   case atStart => exact ⟨0, by omega, rfl, rfl, HQ2.out, Below.refl _ _⟩
   case round =>
    obtain ⟨k, hk, rfl, rfl, hs, hB⟩ := hrel
    have HS2 := Lib.hid hs; clear hs
    have HBQ := Lib.hid (below_up HB5.out hB)
    have hBWq := below_up HBW5.out hB
    by_cases hlt2 : k < j
    ·obtain ⟨x, hx⟩ : ∃ x, s.files[k]? = some x := ⟨_, List.getElem?_eq_getElem (by rw [HN.out]; exact hlt2)⟩
     obtain ⟨b, off, ha, hb, hcell⟩ := ((HI1.out.keep hBWq).fi) (by rw [HN.out]; omega)
     have c0 : wr.cell? ⟨b, off + k * 4, none⟩ = some (.string x.dig) := hcell k x hx 0 (.string x.dig) rfl
     have c1 : wr.cell? ⟨b, off + k * 4 + 1, none⟩ = some (.int .i64 x.size) := hcell k x hx 1 (.int .i64 x.size) rfl
     have c2 : wr.cell? ⟨b, off + k * 4 + 2, none⟩ = some (.int .i64 x.kind) := hcell k x hx 2 (.int .i64 x.kind) rfl
     have c3 : wr.cell? ⟨b, off + k * 4 + 3, none⟩ = some (.string x.frm) := hcell k x hx 3 (.string x.frm) rfl
     clear hcell
     have HX := Lib.hid hx
     obtain ⟨W3, hW3, hX3, hz3, hB3⟩ := box wr #[.string x.dig, .int .i64 x.size, .int .i64 x.kind, .string x.frm] 30
     have HW3 := Lib.hid hW3
     have d0 : W3.cell? ⟨wr.heap.size, 0, none⟩ = some (.string x.dig) := (hX3.cell 0).trans rfl
     have d1 : W3.cell? ⟨wr.heap.size, 1, none⟩ = some (.int .i64 x.size) := (hX3.cell 1).trans rfl
     have d2 : W3.cell? ⟨wr.heap.size, 2, none⟩ = some (.int .i64 x.kind) := (hX3.cell 2).trans rfl
     have d3 : W3.cell? ⟨wr.heap.size, 3, none⟩ = some (.string x.frm) := (hX3.cell 3).trans rfl
     obtain ⟨y, hlk, hy⟩ := FMap.kind ((HM5.out.keep hB).keep hB3) HU.out (HFZ.out x (List.mem_of_getElem? hx)).2
     have HAL := Lib.hid (below_up HBQ.out hB3)
     have HAQ := Lib.hid (below_up hB hB3)
     have HDF : Hid (St.fromE s.files (s.files.take k) x = if x.kind ≠ 1 ∧ y.kind ≠ 1 then 7 else 0) := Lib.hid (by
      rw [hy, St.filD_kind]; rfl)
     have hj0 : (0 : Int) ≤ (k : Int) := by omega
     have hj1 : (k : Int) < (j : Int) := by omega
     have hfk := fldKind y.dig y.frm y.size y.kind
     clear hx hB hX3 hz3 hB3 hW3 hy hBWq
     rw [ha]
     by_cases hk1 : x.kind = 1
     ·have hkb : (x.kind != 1) = false := by simpa using hk1
      have HBD : Hid (St.fromE s.files (s.files.take k) x = 0) := Lib.hid (by rw [HDF.out, if_neg (fun g => g.1 hk1)])
      have HE := Lib.hid (St.scan_next HS2.out HX.out HBD.out)
      clear hk1
      go_upto_region 14 with fail
      rw [HW3.out]
      go_wp2_with fail
      rw [← ha]
      go_roundg (j - (k + 1))
      case rel => exact ⟨k + 1, by omega, rfl, by go_num, HE.out, HAQ.out⟩
      case measure => omega
     ·have hkb : (x.kind != 1) = true := by simpa using hk1
      by_cases hk2 : y.kind = 1
      ·have hkc : (y.kind != 1) = false := by simpa using hk2
       have HBD : Hid (St.fromE s.files (s.files.take k) x = 0) := Lib.hid (by rw [HDF.out, if_neg (fun g => g.2 hk2)])
       have HE := Lib.hid (St.scan_next HS2.out HX.out HBD.out)
       clear hk2
       go_upto_region 14 with fail
       rw [HW3.out]
       go_wp2_with fail
       rw [← ha]
       go_roundg (j - (k + 1))
       case rel => exact ⟨k + 1, by omega, rfl, by go_num, HE.out, HAQ.out⟩
       case measure => omega
      ·have hkc : (y.kind != 1) = true := by simpa using hk2
       have HBD : Hid (St.fromE s.files (s.files.take k) x = 7) := Lib.hid (by rw [HDF.out, if_pos ⟨hk1, hk2⟩])
       have HE := Lib.hid (St.scan_here HS2.out HX.out (by rw [HBD.out]; decide))
       go_upto_region 14 with fail
       rw [HW3.out]
       go_wp2_with fail
       go_ret
       exact ⟨ret_int (by rw [HF2.out, HE.out, HBD.out]), HAL.out⟩
    ·obtain rfl : k = j := by omega
     have HE := HS2.out
     rw [← HN.out] at HE
     have HE2 := Lib.hid (St.scan_done HE)
     clear HE
     go_wp2_with fail
     go_ret
     exact ⟨ret_int (by rw [HF2.out, HE2.out]), HBQ.out⟩
theorem copyKey_is (d t : ByteArray) (hd : d.size ≤ 100) (ht : t.size ≤ 100) (w : World) : Calls Tryz.prog 56 #[.string d, .string t] w fun e w' => e = .returned (.string (St.key d t)) ∧ w = w' := by
 go_enter Tryz.func56, Tryz.ntmps56
 go_wp2_with fail
 go_ret
 exact ⟨rfl, rfl⟩
theorem free_is (s : Sto) (a : StA) (x : Tir) (mb : Nat) (w : World) (hI : StIn w s a) (hM : FMap w mb s.files) (hu : St.Up (·.dig) s.files) (hz : St.Szs s.files) (hc : s.copies.length ≤ 4000) (hr : 0 ≤ x.room ∧ x.room ≤ 1000000000000) :
  Calls Tryz.prog 97 #[.agg #[.int .i64 s.least, .int .i64 s.wait, .slice a.ta s.tiers.length a.tc, .slice a.fa s.files.length a.fc, .slice a.ca s.copies.length a.cc, .slice a.ha s.held.length a.hc, .slice a.ba s.bin.length a.bc], .agg #[.string x.name, .int .i64 x.room, .int .i64 x.cost, .bool x.away], .map (some mb)] w fun e w' => e = .returned (.int .i64 (x.room - St.used s.files x.name s.copies)) ∧ Below w.heap.size w w' := by
 obtain ⟨W1, hW1, hP, hz1, hB1⟩ := box w #[.int .i64 s.least, .int .i64 s.wait, .slice a.ta s.tiers.length a.tc, .slice a.fa s.files.length a.fc, .slice a.ca s.copies.length a.cc, .slice a.ha s.held.length a.hc, .slice a.ba s.bin.length a.bc] 28
 have HW1 := Lib.hid hW1
 have HI1 := Lib.hid (hI.keep hB1)
 have q0 : W1.cell? ⟨w.heap.size, 0, none⟩ = some (.int .i64 s.least) := (hP.cell 0).trans rfl
 have q1 : W1.cell? ⟨w.heap.size, 1, none⟩ = some (.int .i64 s.wait) := (hP.cell 1).trans rfl
 have q2 : W1.cell? ⟨w.heap.size, 2, none⟩ = some (.slice a.ta s.tiers.length a.tc) := (hP.cell 2).trans rfl
 have q3 : W1.cell? ⟨w.heap.size, 3, none⟩ = some (.slice a.fa s.files.length a.fc) := (hP.cell 3).trans rfl
 have q4 : W1.cell? ⟨w.heap.size, 4, none⟩ = some (.slice a.ca s.copies.length a.cc) := (hP.cell 4).trans rfl
 have q5 : W1.cell? ⟨w.heap.size, 5, none⟩ = some (.slice a.ha s.held.length a.hc) := (hP.cell 5).trans rfl
 have q6 : W1.cell? ⟨w.heap.size, 6, none⟩ = some (.slice a.ba s.bin.length a.bc) := (hP.cell 6).trans rfl
 have HP := Lib.hid hP; have HB1 := Lib.hid hB1
 clear hW1 hP
 obtain ⟨W2, hW2, hX2, hz2, hB2⟩ := box W1 #[.string x.name, .int .i64 x.room, .int .i64 x.cost, .bool x.away] 46
 have HW2 := Lib.hid hW2
 have HX2 := Lib.hid hX2
 have HBB := Lib.hid (below_up HB1.out hB2)
 have HI2 := Lib.hid (HI1.out.keep hB2)
 have HM2 := Lib.hid ((hM.keep HB1.out).keep hB2)
 rw [hz1] at hX2
 have p4 : W2.cell? ⟨w.heap.size, 4, none⟩ = some (.slice a.ca s.copies.length a.cc) := ((HP.out.keep hB2).cell 4).trans rfl
 have e0 : W2.cell? ⟨w.heap.size + 1, 0, none⟩ = some (.string x.name) := (hX2.cell 0).trans rfl
 have e1 : W2.cell? ⟨w.heap.size + 1, 1, none⟩ = some (.int .i64 x.room) := (hX2.cell 1).trans rfl
 have HE0 : Hid (∀ W, Below W2.heap.size W2 W → W.cell? ⟨w.heap.size + 1, 0, none⟩ = some (.string x.name)) := Lib.hid fun W hb => ((hX2.keep hb).cell 0).trans rfl
 have HCZ := Lib.hid hI.cz
 have hcl := hI.cl
 have HU := Lib.hid hu; have HZ := Lib.hid hz
 obtain ⟨tot, htot⟩ : ∃ tot, x.room - St.used s.files x.name s.copies = tot := ⟨_, rfl⟩
 rw [htot]
 have hub := St.used_bd hz x.name s.copies
 have htb : -5000000000000 ≤ tot ∧ tot ≤ 1000000000000 := by omega
 have HT0 : Hid (x.room = tot + St.used s.files x.name (s.copies.drop 0)) := Lib.hid (by rw [List.drop_zero]; omega)
 clear q0 q1 q2 q3 q4 q5 q6 hI hM hu hz hW2 hX2 hB2 hz1 hz2 htot hub
 obtain ⟨n, hn⟩ : ∃ n, s.copies.length = n := ⟨_, rfl⟩
 have HN := Lib.hid hn
 rw [hn] at p4 hcl hc HW1 ⊢
 clear hn
 go_enter Tryz.func97, Tryz.ntmps97
 go_wp2_with fail
 rw [HW1.out, HW2.out]
 go_wp2_with fail
 go_loopg [7, 15] n (fun gk v i wr => ∃ (j : Nat) (z : Int), j ≤ n ∧ gk = n - j ∧ i = .int .i64 j ∧ v = .int .i64 z ∧ z = tot + St.used s.files x.name (s.copies.drop j) ∧ Below w.heap.size w wr ∧ Below W2.heap.size W2 wr)
 case atStart => exact ⟨0, x.room, by omega, rfl, rfl, rfl, HT0.out, HBB.out, Below.refl _ _⟩
 case round =>
  obtain ⟨j, z, hj, rfl, rfl, rfl, hz, hB, hBW⟩ := hrel
  have HZZ := Lib.hid hz
  by_cases hlt : j < n
  ·obtain ⟨y, hy⟩ : ∃ y, s.copies[j]? = some y := ⟨_, List.getElem?_eq_getElem (by rw [HN.out]; exact hlt)⟩
   obtain ⟨b, off, ha, hb, hcell⟩ := (HI2.out.keep hBW).co (by rw [HN.out]; omega)
   have c0 : wr.cell? ⟨b, off + j * 4, none⟩ = some (.string y.dig) := hcell j y hy 0 (.string y.dig) rfl
   have c1 : wr.cell? ⟨b, off + j * 4 + 1, none⟩ = some (.string y.tier) := hcell j y hy 1 (.string y.tier) rfl
   have c2 : wr.cell? ⟨b, off + j * 4 + 2, none⟩ = some (.bool y.good) := hcell j y hy 2 (.bool y.good) rfl
   have c3 : wr.cell? ⟨b, off + j * 4 + 3, none⟩ = some (.int .i64 y.asked) := hcell j y hy 3 (.int .i64 y.asked) rfl
   clear hcell
   obtain ⟨W3, hW3, hX3, hz3, hB3⟩ := box wr #[.string y.dig, .string y.tier, .bool y.good, .int .i64 y.asked] 74
   have HW3 := Lib.hid hW3
   have d0 : W3.cell? ⟨wr.heap.size, 0, none⟩ = some (.string y.dig) := (hX3.cell 0).trans rfl
   have d1 : W3.cell? ⟨wr.heap.size, 1, none⟩ = some (.string y.tier) := (hX3.cell 1).trans rfl
   have e0' := HE0.out _ (below_up hBW hB3)
   obtain ⟨f, hlk, hf⟩ := FMap.kind ((HM2.out.keep hBW).keep hB3) HU.out (HCZ.out y (List.mem_of_getElem? hy)).1
   have hfs := fldSize f.dig f.frm f.size f.kind
   have hfz : 0 ≤ f.size ∧ f.size ≤ 1000000000 := by rw [hf, St.filD_size]; exact St.size_bd HZ.out y.dig
   have hstep := St.used_drop (F := s.files) (n := x.name) hy
   have hub := St.used_bd HZ.out x.name (s.copies.drop (j + 1))
   have hl1 : (s.copies.drop (j + 1)).length ≤ 4000 := by rw [List.length_drop]; have := HN.out; omega
   have hsz : St.sizeOf s.files y.dig = f.size := by rw [hf, St.filD_size]
   rw [hsz] at hstep
   have HAL := Lib.hid (below_up hB hB3)
   have HAW := Lib.hid (below_up hBW hB3)
   have hj0 : (0 : Int) ≤ (j : Int) := by omega
   have hj1 : (j : Int) < (n : Int) := by omega
   obtain ⟨ud, hud⟩ : ∃ ud, St.used s.files x.name (s.copies.drop (j + 1)) = ud := ⟨_, rfl⟩
   have HUD := Lib.hid hud
   rw [hud] at hstep hub
   clear hud
   obtain ⟨bq, hbq⟩ : ∃ bq, (y.tier.toList == x.name.toList) = bq := ⟨_, rfl⟩
   have hbq' : St.eq y.tier x.name = bq := hbq
   rw [hbq'] at hstep
   rw [hstep] at hz
   have hbnd : 0 ≤ ud ∧ ud ≤ 4000000000000 := by omega
   clear hy hB hBW hX3 hz3 hB3 hW3 hf hsz hstep hub hl1 hbq'
   rw [ha]
   cases bq
   ·rw [if_neg (by decide)] at hz
    have HZN : Hid (z = tot + ud) := Lib.hid (by omega)
    have hzb : -5000000000000 ≤ z ∧ z ≤ 5000000000000 := by omega
    clear hz
    go_upto_region 5 with fail
    rw [HW3.out]
    go_wp2_with fail
    rw [← ha]
    go_roundg (n - (j + 1))
    case rel => exact ⟨j + 1, z, by omega, rfl, by go_num, rfl, by rw [HUD.out]; exact HZN.out, HAL.out, HAW.out⟩
    case measure => omega
   ·rw [if_pos rfl] at hz
    have HZN : Hid (z - f.size = tot + ud) := Lib.hid (by omega)
    have hzb : -5000000000000 ≤ z ∧ z ≤ 5001000000000 := by omega
    clear hz
    go_upto_region 5 with fail
    rw [HW3.out]
    go_wp2_with fail
    rw [← ha]
    go_roundg (n - (j + 1))
    case rel => exact ⟨j + 1, z - f.size, by omega, rfl, by go_num, rfl, by rw [HUD.out]; exact HZN.out, HAL.out, HAW.out⟩
    case measure => omega
  ·obtain rfl : j = n := by omega
   have hz2 : z = tot := by
    rw [hz, List.drop_eq_nil_of_le (by rw [HN.out]; exact Nat.le_refl _)]; simp [St.used]
   have HZ2 := Lib.hid hz2
   clear hz hz2
   go_wp2_with fail
   go_ret
   exact ⟨ret_int HZ2.out, hB⟩
theorem entersKG : ∀ args w, (callFunc 152 args).run Tryz.prog w = .ok (.enter 152 args) w := enters_of Tryz.func152 (by kernel_rfl) rfl
theorem entersPG : ∀ args w, (callFunc 199 args).run Tryz.prog w = .ok (.enter 199 args) w := enters_of Tryz.func199 (by kernel_rfl) rfl
theorem keyKG_is (x : Gon) (w : World) : Calls Tryz.prog 152 #[.agg #[.string x.dig, .int .i64 x.day]] w fun e w' => e = .returned (.string (St.gdig x)) ∧ Below w.heap.size w w' := by
 obtain ⟨W1, hW1, hX, hz1, hB1⟩ := box w #[.string x.dig, .int .i64 x.day] 112
 have HW1 := Lib.hid hW1; have HB1 := Lib.hid hB1
 have c0 : W1.cell? ⟨w.heap.size, 0, none⟩ = some (.string x.dig) := (hX.cell 0).trans rfl
 have c1 : W1.cell? ⟨w.heap.size, 1, none⟩ = some (.int .i64 x.day) := (hX.cell 1).trans rfl
 clear hW1 hX hz1 hB1
 go_enter Tryz.func152, Tryz.ntmps152
 go_wp2_with fail
 rw [HW1.out]
 go_wp2_with fail
 go_ret
 exact ⟨rfl, HB1.out⟩
theorem placeGK_is (x : Gon) (k : ByteArray) (a : Option Addr) (n ca bk : Nat) (t : TypeId) (w : World) (hs : Blk w bk #[.func (.func 152) #[] #[], .slice a n ca] t) :
  Calls Tryz.prog 199 #[.agg #[.string x.dig, .int .i64 x.day], .string k, .pointer (some ⟨bk, 0, none⟩)] w fun e w' => e = .returned (.int .i64 (St.cmpS (St.gdig x) k)) ∧ Below w.heap.size w w' := by
 obtain ⟨W1, hW1, hX, hz1, hB1⟩ := box w #[.string x.dig, .int .i64 x.day] 112
 have HW1 := Lib.hid hW1; have HB1 := Lib.hid hB1
 have c0 : W1.cell? ⟨w.heap.size, 0, none⟩ = some (.string x.dig) := (hX.cell 0).trans rfl
 have c1 : W1.cell? ⟨w.heap.size, 1, none⟩ = some (.int .i64 x.day) := (hX.cell 1).trans rfl
 have r0 : W1.cell? ⟨bk, 0, none⟩ = some (.func (.func 152) #[] #[]) := ((hs.keep hB1).cell 0).trans rfl
 have eg := entersKG
 have HK := Lib.hid (fun W => keyKG_is x W)
 have HC := Lib.hid (fun W => cmpStr_is (St.gdig x) k W)
 generalize St.gdig x = kx at *
 clear hs hW1 hX hz1 hB1
 go_enter Tryz.func199, Tryz.ntmps199
 go_upto_region 1 with fail
 rw [HW1.out]
 go_wp2_with (first | (go_at_fn 152; (with_reducible refine (HK.out _).mono ?_); rintro e w4 ⟨rfl, hB4⟩) | (go_at_call 147; (with_reducible refine (HC.out _).mono ?_); rintro e w5 ⟨rfl, rfl⟩))
 go_ret
 exact ⟨rfl, below_up HB1.out hB4⟩
theorem bsG_is (L : List Gon) (hu : St.Up St.gdig L) (h1m : L.length ≤ 1000000) (k : ByteArray) (a : Option Addr) (ca bk : Nat) (t : TypeId) (w : World) (hl : L.length ≤ ca ∧ ca ≤ 9223372036854775807) (hr : RowE St.eG w a L) (hs : Blk w bk #[.func (.func 152) #[] #[], .slice a L.length ca] t) :
  Calls Tryz.prog 198 #[.slice a L.length ca, .string k, .func (.func 199) #[] #[.pointer (some ⟨bk, 0, none⟩)]] w fun e w' => e = .returned (.tuple #[.int .i64 (St.pos St.gdig k L), .bool (St.hasK St.gdig L k)]) ∧ Below w.heap.size w w' := by
 have eg := entersPG
 have HR := Lib.hid hr; have HS := Lib.hid hs; have HU := Lib.hid hu
 obtain ⟨n, hn⟩ : ∃ n, L.length = n := ⟨_, rfl⟩
 have HN := Lib.hid hn
 have HC0 : Hid (∀ (i : Nat) (x : Gon), L[i]? = some x → ∀ V, Below w.heap.size w V → Calls Tryz.prog 199 #[.agg #[.string x.dig, .int .i64 x.day], .string k, .pointer (some ⟨bk, 0, none⟩)] V fun e w' => e = .returned (.int .i64 (St.cmpS (St.gdig x) k)) ∧ Below V.heap.size V w') := Lib.hid fun i x hx V hv => placeGK_is x k a L.length ca bk t V (hs.keep hv)
 rw [hn] at hl h1m ⊢
 clear hr hs hu hn
 go_enter Tryz.func198, Tryz.ntmps198
 go_wp2_with fail
 go_loopg [9, 10] n (fun g s7 s8 wr => ∃ lo hi : Nat, s7 = .int .i64 lo ∧ s8 = .int .i64 hi ∧ lo ≤ hi ∧ hi ≤ n ∧ g = 0 + (hi - lo) ∧ Below w.heap.size w wr ∧ (∀ i x, L[i]? = some x → i < lo → St.lt (St.gdig x) k = true) ∧ (∀ i x, L[i]? = some x → hi ≤ i → St.lt (St.gdig x) k = false))
 case atStart => exact ⟨0, n, rfl, rfl, Nat.zero_le _, Nat.le_refl _, by omega, Below.refl _ _, fun i x _ h => absurd h (Nat.not_lt_zero _), fun i x hx h => by have := (List.getElem?_eq_some_iff.1 hx).1; have := HN.out; omega⟩
 case round =>
  obtain ⟨lo, hi, rfl, rfl, hlh, hin, rfl, hB, h1, h2⟩ := hrel
  have I1 := Lib.hid h1; have I2 := Lib.hid h2
  clear h1 h2
  by_cases hlt : lo < hi
  ·obtain ⟨x, hx⟩ : ∃ x, L[(lo + hi) / 2]? = some x := ⟨_, List.getElem?_eq_getElem (by rw [HN.out]; omega)⟩
   obtain ⟨b, off, ha, hb, hcell⟩ := (HR.out.keep hB) (by rw [HN.out]; omega)
   have c0 : wr.cell? ⟨b, off + (lo + hi) / 2 * 2, none⟩ = some (.string x.dig) := hcell _ x hx 0 (.string x.dig) rfl
   have c1 : wr.cell? ⟨b, off + (lo + hi) / 2 * 2 + 1, none⟩ = some (.int .i64 x.day) := hcell _ x hx 1 (.int .i64 x.day) rfl
   clear hcell
   have HX := Lib.hid hx
   obtain ⟨s, hsg⟩ : ∃ s, St.cmpS (St.gdig x) k = s := ⟨_, rfl⟩
   have HC := Lib.hid (HC0.out _ x hx _ hB)
   rw [hsg] at HC
   have HSG : Hid (s < 0 ↔ St.lt (St.gdig x) k = true) := Lib.hid (by rw [← hsg]; exact St.cmpS_lt)
   rw [ha]
   have HB := Lib.hid hB
   clear hsg hx hB
   by_cases hyx : s < 0
   ·go_wp2_with (go_at_fn 199; (with_reducible refine HC.out.mono ?_); rintro e w4 ⟨rfl, hB4⟩)
    rw [← ha]
    go_roundg (hi - ((lo + hi) / 2 + 1))
    case measure => omega
    case rel =>
     refine ⟨(lo + hi) / 2 + 1, hi, by rw [show ((lo : Int) + (hi : Int)) / 2 + 1 = (((lo + hi) / 2 + 1 : Nat) : Int) by omega], rfl, by omega, hin, by omega, below_up HB.out hB4, fun i y hy hi2 => ?_, I2.out⟩
     by_cases e : i = (lo + hi) / 2
     ·subst e; rw [HX.out] at hy; obtain rfl := Option.some.inj hy; exact HSG.out.1 hyx
     ·exact St.lt_trans (HU.out.lt hy HX.out (by omega)) (HSG.out.1 hyx)
   ·go_wp2_with (go_at_fn 199; (with_reducible refine HC.out.mono ?_); rintro e w4 ⟨rfl, hB4⟩)
    rw [← ha]
    go_roundg ((lo + hi) / 2 - lo)
    case measure => omega
    case rel =>
     refine ⟨lo, (lo + hi) / 2, rfl, by rw [show ((lo : Int) + (hi : Int)) / 2 = (((lo + hi) / 2 : Nat) : Int) by omega], by omega, by omega, by omega, below_up HB.out hB4, I1.out, fun i y hy hi2 => ?_⟩
     have hxk : St.lt (St.gdig x) k = false := by
      cases h : St.lt (St.gdig x) k
      ·rfl
      ·exact absurd (HSG.out.2 h) (by omega)
     by_cases e : i = (lo + hi) / 2
     ·subst e; rw [HX.out] at hy; obtain rfl := Option.some.inj hy; exact hxk
     ·have h3 : St.lt (St.gdig x) (St.gdig y) = true := HU.out.lt HX.out hy (by omega)
      cases h : St.lt (St.gdig y) k
      ·rfl
      ·rw [St.lt_trans h3 h] at hxk; cases hxk
  ·have : hi = lo := by omega
   subst this
   have HP : Hid (St.pos St.gdig k L = hi) := Lib.hid (St.pos_is (by rw [HN.out]; exact hin) (fun i x h1 h2 => I1.out i x h1 h2) (fun x hx => I2.out hi x hx (Nat.le_refl _)))
   by_cases hnn : hi < n
   ·obtain ⟨x, hx⟩ : ∃ x, L[hi]? = some x := ⟨_, List.getElem?_eq_getElem (by rw [HN.out]; omega)⟩
    have HH : Hid (St.hasK St.gdig L k = St.eq (St.gdig x) k) := Lib.hid (by rw [St.has_pos HU.out, HP.out, hx])
    obtain ⟨b, off, ha, hb, hcell⟩ := (HR.out.keep hB) (by rw [HN.out]; omega)
    have c0 : wr.cell? ⟨b, off + hi * 2, none⟩ = some (.string x.dig) := hcell _ x hx 0 (.string x.dig) rfl
    have c1 : wr.cell? ⟨b, off + hi * 2 + 1, none⟩ = some (.int .i64 x.day) := hcell _ x hx 1 (.int .i64 x.day) rfl
    have HEQ : Hid ((St.cmpS (St.gdig x) k == 0) = St.eq (St.gdig x) k) := Lib.hid St.cmpS_eq
    have HC := Lib.hid (HC0.out _ x hx _ hB)
    have HV : Hid (St.hasK St.gdig L k = (St.cmpS (St.gdig x) k == 0)) := Lib.hid (HH.out.trans HEQ.out.symm)
    clear HEQ HH hcell hx
    generalize St.cmpS (St.gdig x) k = s at HC HV
    have HB := Lib.hid hB
    clear hB
    rw [ha]
    by_cases hs0 : s = 0
    ·subst hs0
     go_wp2_with (go_at_fn 199; (with_reducible refine HC.out.mono ?_); rintro e w4 ⟨rfl, hB4⟩)
     go_ret2
     exact ⟨by rw [HP.out, HV.out]; rfl, below_up HB.out hB4⟩
    ·have hs1 : (s == 0) = false := by simpa using hs0
     go_wp2_with (go_at_fn 199; (with_reducible refine HC.out.mono ?_); rintro e w4 ⟨rfl, hB4⟩)
     go_ret2
     exact ⟨by rw [HP.out, HV.out, hs1]; rfl, below_up HB.out hB4⟩
   ·obtain rfl : n = hi := by omega
    have HH : Hid (St.hasK St.gdig L k = false) := Lib.hid (by rw [St.has_pos HU.out, HP.out, List.getElem?_eq_none (by rw [HN.out]; exact Nat.le_refl _)])
    go_wp2_with fail
    go_ret2
    exact ⟨by rw [HP.out, HH.out]; rfl, hB⟩
theorem placeG_is (L : List Gon) (hu : St.Up St.gdig L) (h1m : L.length ≤ 1000000) (k : ByteArray) (a : Option Addr) (ca : Nat) (w : World) (hl : L.length ≤ ca ∧ ca ≤ 9223372036854775807) (hr : RowE St.eG w a L) :
  Calls Tryz.prog 153 #[.agg #[.func (.func 152) #[] #[], .slice a L.length ca], .string k] w fun e w' => e = .returned (.tuple #[.int .i64 (St.pos St.gdig k L), .bool (St.hasK St.gdig L k)]) ∧ Below w.heap.size w w' := by
 obtain ⟨W1, hW1, hP, hz1, hB1⟩ := box w #[.func (.func 152) #[] #[], .slice a L.length ca] 108
 have HW1 := Lib.hid hW1; have HB1 := Lib.hid hB1
 have r1 : W1.cell? ⟨w.heap.size, 1, none⟩ = some (.slice a L.length ca) := (hP.cell 1).trans rfl
 have HC := Lib.hid (bsG_is L hu h1m k a ca w.heap.size _ W1 hl (hr.keep hB1) hP)
 have hmf : ∀ (fn : Fn) (first cap : Array Value) (w : World), (Instr.makeFunc fn first cap).run Tryz.prog w = .ok (.func fn first cap) w := fun _ _ _ _ => rfl
 clear hW1 hP hz1 hB1 hr
 go_enter Tryz.func153, Tryz.ntmps153
 go_wp2_with fail
 rw [HW1.out]
 go_wp2_with (go_at_call 198; (with_reducible refine HC.out.mono ?_); rintro e w4 ⟨rfl, hB4⟩)
 go_ret2
 exact ⟨rfl, below_up HB1.out hB4⟩
theorem binRow_is (s : Sto) (a : StA) (w : World) :
  Calls Tryz.prog 60 #[.agg #[.int .i64 s.least, .int .i64 s.wait, .slice a.ta s.tiers.length a.tc, .slice a.fa s.files.length a.fc, .slice a.ca s.copies.length a.cc, .slice a.ha s.held.length a.hc, .slice a.ba s.bin.length a.bc]] w fun e w' => e = .returned (.agg #[.func (.func 152) #[] #[], .slice a.ba s.bin.length a.bc]) ∧ Below w.heap.size w w' := by
 obtain ⟨W1, hW1, hP, hz1, hB1⟩ := box w #[.int .i64 s.least, .int .i64 s.wait, .slice a.ta s.tiers.length a.tc, .slice a.fa s.files.length a.fc, .slice a.ca s.copies.length a.cc, .slice a.ha s.held.length a.hc, .slice a.ba s.bin.length a.bc] 28
 have HW1 := Lib.hid hW1; have HB1 := Lib.hid hB1
 have q5 : W1.cell? ⟨w.heap.size, 6, none⟩ = some (.slice a.ba s.bin.length a.bc) := (hP.cell 6).trans rfl
 obtain ⟨W2, hW2, hX2, hz2, hB2⟩ := box W1 #[.func (.func 152) #[] #[], .slice a.ba s.bin.length a.bc] 108
 have HW2 := Lib.hid hW2
 rw [hz1] at hX2
 have HX2 := Lib.hid hX2; have HBB := Lib.hid (below_up hB1 hB2)
 have hsf : ∀ (fn : Fn) (x y : Array Value) (p : Addr) (m : Mode) (W : World), (store p (.func fn x y) m).run Tryz.prog W = stored Tryz.prog W p (.func fn x y) m := fun fn x y p m W => run_store Tryz.prog W p _ m rfl
 clear hW1 hP hW2 hX2 hB1 hB2
 go_enter Tryz.func60, Tryz.ntmps60
 go_wp2_with fail
 rw [HW1.out]
 go_wp2_with fail
 rw [HW2.out]
 have g0 : W2.cell? ⟨w.heap.size + 1, 0, none⟩ = some (.func (.func 152) #[] #[]) := (HX2.out.cell 0).trans rfl
 have g1 : W2.cell? ⟨w.heap.size + 1, 1, none⟩ = some (.slice a.ba s.bin.length a.bc) := (HX2.out.cell 1).trans rfl
 refine bodyPost_ret (v := .agg #[.func (.func 152) #[] #[], .slice a.ba s.bin.length a.bc]) (by simp [results, Tryz.results60, go_sem, g0, g1]) rfl ⟨rfl, HBB.out⟩
theorem flat_insG (L : List Gon) (x : Gon) (p : Nat) : (St.eG.flat L).take (p * 2) ++ [.string x.dig, .int .i64 x.day] ++ (St.eG.flat L).drop (p * 2) = St.eG.flat (L.take p ++ x :: L.drop p) := by
 have h1 := Enc.flat_take St.eG L p
 have h2 := Enc.flat_drop St.eG L p
 have h3 : St.eG.k = 2 := rfl
 rw [h3] at h1 h2
 rw [h1, h2, Enc.flat_append, Enc.flat_cons, List.append_assoc]; rfl
theorem flat_putG (L : List Gon) (x : Gon) (p : Nat) (hp : p < L.length) : St.eG.flat (L.set p x) = (((St.eG.flat L).set (p * 2) (.string x.dig)).set (p * 2 + 1) (.int .i64 x.day)) := by
 have h0 : L[p]? = some (L[p]'hp) := List.getElem?_eq_getElem _
 generalize (L[p]'hp) = y at h0
 have e0 : St.eG.flat ((L).set p (⟨x.dig, y.day⟩ : Gon)) = (St.eG.flat (L)).set (p * 2 + 0) (.string x.dig) := Enc.flat_set1 St.eG (.string x.dig) 0 (by decide) y (⟨x.dig, y.day⟩ : Gon) rfl _ p h0
 have e1 : St.eG.flat (((L).set p (⟨x.dig, y.day⟩ : Gon)).set p x) = (St.eG.flat ((L).set p (⟨x.dig, y.day⟩ : Gon))).set (p * 2 + 1) (.int .i64 x.day) := Enc.flat_set1 St.eG (.int .i64 x.day) 1 (by decide) (⟨x.dig, y.day⟩ : Gon) x rfl _ p (by rw [List.getElem?_set_self (by simpa using hp)])
 simp only [List.set_set] at e0 e1
 rw [e1, e0]; rfl
theorem withG_is (L : List Gon) (hu : St.Up St.gdig L) (h1m : L.length ≤ 900000) (x : Gon) (a : Option Addr) (ca : Nat) (w : World) (hl : L.length ≤ ca ∧ ca ≤ 9223372036854775807) (hr : RowE St.eG w a L) :
  Calls Tryz.prog 66 #[.agg #[.func (.func 152) #[] #[], .slice a L.length ca], .agg #[.string x.dig, .int .i64 x.day]] w (ClnPost St.eG 112 w (St.wth St.gdig x L)) := by
 obtain ⟨W1, hW1, hP, hz1, hB1⟩ := box w #[.func (.func 152) #[] #[], .slice a L.length ca] 108
 obtain ⟨W2, hW2, hX, hz2, hB2⟩ := box W1 #[.string x.dig, .int .i64 x.day] 112
 rw [hz1] at hX
 have hP := hP.keep hB2
 have HW1 := Lib.hid hW1; have HW2 := Lib.hid hW2; have HBB := Lib.hid (below_up hB1 hB2); have HZS : Hid (w.heap.size ≤ W2.heap.size) := Lib.hid HBB.out.size
 have HCL : Hid (∀ V, Below W2.heap.size W2 V → V.cell? ⟨w.heap.size, 0, none⟩ = some (.func (.func 152) #[] #[]) ∧ V.cell? ⟨w.heap.size, 1, none⟩ = some (.slice a L.length ca) ∧ V.cell? ⟨w.heap.size + 1, 0, none⟩ = some (.string x.dig) ∧ V.cell? ⟨w.heap.size + 1, 1, none⟩ = some (.int .i64 x.day)) := Lib.hid fun V hv => ⟨((hP.keep hv).cell 0).trans rfl, ((hP.keep hv).cell 1).trans rfl, ((hX.keep hv).cell 0).trans rfl, ((hX.keep hv).cell 1).trans rfl⟩
 have HK := Lib.hid (fun V => keyKG_is x V)
 have HPL := Lib.hid (fun V (hv : Below W2.heap.size W2 V) => placeG_is L hu (by omega) (St.gdig x) a ca V hl ((hr.keep HBB.out).keep hv))
 have HCN := Lib.hid (fun V (hv : Below W2.heap.size W2 V) => clnG_is (L := L) a ca V ((hr.keep HBB.out).keep hv) (by omega))
 unfold ClnPost at HCN
 have HW : Hid (St.wth St.gdig x L = if St.hasK St.gdig L (St.gdig x) = true then L.set (St.pos St.gdig (St.gdig x) L) x else L.take (St.pos St.gdig (St.gdig x) L) ++ x :: L.drop (St.pos St.gdig (St.gdig x) L)) := Lib.hid rfl
 have hpl := St.pos_le St.gdig (St.gdig x) L
 have HPT := Lib.hid (fun h : St.hasK St.gdig L (St.gdig x) = true => St.hasK_at hu h)
 obtain ⟨p, hp⟩ : ∃ p, St.pos St.gdig (St.gdig x) L = p := ⟨_, rfl⟩
 obtain ⟨hb, hhb⟩ : ∃ hb, St.hasK St.gdig L (St.gdig x) = hb := ⟨_, rfl⟩
 rw [hp, hhb] at HPL HW HPT
 rw [hp] at hpl
 obtain ⟨n, hn⟩ : ∃ n, L.length = n := ⟨_, rfl⟩
 have HN := Lib.hid hn
 rw [hn] at hl hpl h1m HCL HPL HCN HW1 ⊢
 have eg := entersKG
 have hmf : ∀ (fn : Fn) (first cap : Array Value) (w : World), (Instr.makeFunc fn first cap).run Tryz.prog w = .ok (.func fn first cap) w := fun _ _ _ _ => rfl
 clear hr hW1 hP hz1 hB1 hu hW2 hX hz2 hB2 hp hhb hn
 go_enter Tryz.func66, Tryz.ntmps66
 go_upto_region 1 with fail
 rw [HW1.out, HW2.out]
 have hv : Below W2.heap.size W2 W2.drew := (Below.refl _ _).drew
 obtain ⟨r0, r1, x0, x1⟩ := HCL.out _ hv
 go_region_held3 (fun W => W.cell? ⟨w.heap.size, 0, none⟩ = some (.func (.func 152) #[] #[]) ∧ W.cell? ⟨w.heap.size, 1, none⟩ = some (.slice a n ca) ∧ W.cell? ⟨w.heap.size + 1, 0, none⟩ = some (.string x.dig) ∧ W.cell? ⟨w.heap.size + 1, 1, none⟩ = some (.int .i64 x.day))
  (first | (with_reducible exact ⟨r0, r1, x0, x1⟩) | go_keep)
  (first
   | (go_at_fn 152; (with_reducible refine (HK.out _).mono ?_); rintro e wq ⟨rfl, hq⟩; have hv := below_up hv hq; obtain ⟨r0, r1, x0, x1⟩ := HCL.out _ hv)
   | (go_at_call 153; (with_reducible refine (HPL.out _ hv).mono ?_); rintro e wp ⟨rfl, hq⟩; have hv := below_up hv hq; obtain ⟨r0, r1, x0, x1⟩ := HCL.out _ hv)
   | fail)
 have hp0 : (0 : Int) ≤ (p : Int) := by omega
 cases hb
 ·have hW := HW.out
  rw [if_neg (by decide)] at hW
  have HWL : Hid (St.wth St.gdig x L = L.take p ++ x :: L.drop p) := Lib.hid hW
  have HWN : Hid ((L.take p ++ x :: L.drop p).length = n + 1) := Lib.hid (by rw [List.length_append, List.length_cons, List.length_take, List.length_drop, HN.out]; omega)
  clear hW
  go_upto_region 6 with fail
  have hvB := (below_allocs hv (.cells #[.string x.dig, .int .i64 x.day] 112)).drew
  have HNB := Lib.hid (Blk.new wp #[.string x.dig, .int .i64 x.day] 112).drew
  have hsB : (wp.alloc (.cells #[.string x.dig, .int .i64 x.day] 112)).drew.heap.size = wp.heap.size + 1 := by simp
  have hv := hv.drew
  clear r0 r1 x0 x1
  obtain ⟨r0, r1, x0, x1⟩ := HCL.out _ hv
  have hvs := hv.size
  go_region_held3 (fun W => W.cell? ⟨w.heap.size, 0, none⟩ = some (.func (.func 152) #[] #[]) ∧ W.cell? ⟨w.heap.size, 1, none⟩ = some (.slice a n ca) ∧ W.cell? ⟨w.heap.size + 1, 0, none⟩ = some (.string x.dig) ∧ W.cell? ⟨w.heap.size + 1, 1, none⟩ = some (.int .i64 x.day))
   (first | (with_reducible exact ⟨r0, r1, x0, x1⟩) | go_keep)
   (first
    | (go_at_call 141; (with_reducible refine (HCN.out _ hv).mono ?_); rintro e w4 ⟨g4, c4, rfl, ho4, hq⟩; have hs4 := hv.size; have HO4 : Hid (OwnV w4 w.heap.size 112 2 (.slice g4 n c4) n (St.eG.flat L)) := Lib.hid (ho4.down (Nat.le_trans HZS.out hs4)); have hv := below_up hv hq; obtain ⟨r0, r1, x0, x1⟩ := HCL.out _ hv; have HV4 := Lib.hid hv; have HINS := Lib.hid (fun V (hb : Below w4.heap.size w4 V) (bv : Nat) (hbv : V.heap[bv]? = some (.cells #[.string x.dig, .int .i64 x.day] 112 (0, 0))) (hge : w4.heap.size ≤ bv) => gn_ins w.heap.size n p (.slice g4 n c4) (St.eG.flat L) [.string x.dig, .int .i64 x.day] V (HO4.out.keep hb) (by have := HZS.out; have := HV4.out.size; have := hb.size; omega) hpl (by omega) (Enc.flat_one St.eG L) bv _ _ hbv (fun e => by have := (HO4.out.lt bv e).2; omega) rfl rfl (by simp [Value.oneCell'])); rw [flat_insG] at HINS; have HO2 : Hid (OwnV w4 W2.heap.size 112 2 (.slice g4 n c4) n (St.eG.flat L)) := Lib.hid (ho4.down hs4); clear ho4 hq)
    | (go_at_call 141; (with_reducible refine (HCN.out _ hvB).mono ?_); rintro e w4 ⟨g4, c4, rfl, ho4, hq⟩; have hs4 := hvB.size; have HO4 : Hid (OwnV w4 w.heap.size 112 2 (.slice g4 n c4) n (St.eG.flat L)) := Lib.hid (ho4.down (Nat.le_trans HZS.out hs4)); have HO2 : Hid (OwnV w4 W2.heap.size 112 2 (.slice g4 n c4) n (St.eG.flat L)) := Lib.hid (ho4.down hs4); have hv := below_up hvB hq; obtain ⟨r0, r1, x0, x1⟩ := HCL.out _ hv; have HV4 := Lib.hid hv; have HINB := Lib.hid (gn_ins w.heap.size n p (.slice g4 n c4) (St.eG.flat L) [.string x.dig, .int .i64 x.day] w4 HO4.out (by have := HZS.out; have := HV4.out.size; omega) hpl (by omega) (Enc.flat_one St.eG L) wp.heap.size _ _ (HNB.out.keep hq) (fun e => by have := (ho4.lt wp.heap.size e).1; omega) rfl rfl (by simp [Value.oneCell'])); rw [flat_insG] at HINB; clear ho4 hq)
    | (go_at_call 89; (with_reducible refine (HINS.out _ (below_allocs (Below.refl _ _) _) _ (heap_alloc_new _ _) (Nat.le_refl _)).mono ?_); rintro e w8 ⟨g8, c8, rfl, hc8, hg8, hn8⟩; have HC8 := Lib.hid hc8; have l1 : n + 1 ≤ c8 := (by obtain ⟨_, _, _, h, _⟩ := HC8.out; exact h); have l2 : c8 ≤ 9223372036854775807 := (by obtain ⟨_, _, _, _, h, _⟩ := HC8.out; exact h); have HF := Lib.hid (below_ownI (below_allocs (below_up HBB.out HV4.out) (.cells #[.string x.dig, .int .i64 x.day] 112)) (HO4.out.keep (below_allocs (Below.refl _ w4) (.cells #[.string x.dig, .int .i64 x.day] 112))) hg8 (by have := HZS.out; have := HV4.out.size; simp; omega)); have hv := below_ownI (below_allocs HV4.out (.cells #[.string x.dig, .int .i64 x.day] 112)) (HO2.out.keep (below_allocs (Below.refl _ w4) (.cells #[.string x.dig, .int .i64 x.day] 112))) hg8 (by have := HV4.out.size; simp; omega); obtain ⟨r0, r1, x0, x1⟩ := HCL.out _ hv; clear hc8 hg8 hn8)
    | (go_at_call 89; (with_reducible refine HINB.out.mono ?_); rintro e w8 ⟨g8, c8, rfl, hc8, hg8, hn8⟩; have HC8 := Lib.hid hc8; have l1 : n + 1 ≤ c8 := (by obtain ⟨_, _, _, h, _⟩ := HC8.out; exact h); have l2 : c8 ≤ 9223372036854775807 := (by obtain ⟨_, _, _, _, h, _⟩ := HC8.out; exact h); have HF := Lib.hid (below_ownI (below_up HBB.out HV4.out) HO4.out hg8 (by have := HZS.out; have := HV4.out.size; omega)); have hv := below_ownI HV4.out HO2.out hg8 HV4.out.size; obtain ⟨r0, r1, x0, x1⟩ := HCL.out _ hv; clear hc8 hg8 hn8)
    | (go_at_call 67; (with_reducible refine (clnG_clip _ _ _ _ l1 l2).mono ?_); rintro e wc ⟨rfl, rfl⟩)
    | fail)
  all_goals (go_wp2_with fail; go_ret; refine ⟨some ⟨g8, 0, none⟩, n + 1, by rw [HWL.out, HWN.out]; rfl, ?_, HF.out⟩; rw [HWL.out, HWN.out]; exact .inr ⟨g8, n + 1, rfl, HC8.out.clip⟩)
 ·obtain ⟨y, hy, _⟩ := HPT.out rfl
  have hpn : p < n := by rw [← HN.out]; exact (List.getElem?_eq_some_iff.1 hy).1
  have hW := HW.out
  rw [if_pos rfl] at hW
  have HWL : Hid (St.wth St.gdig x L = L.set p x) := Lib.hid hW
  have HWN : Hid ((L.set p x).length = n) := Lib.hid (by rw [List.length_set, HN.out])
  have HPU := Lib.hid (flat_putG L x p (by rw [HN.out]; exact hpn))
  clear hW hy
  go_upto_region 4 with (go_at_call 141; (with_reducible refine (HCN.out _ hv).mono ?_); rintro e w4 ⟨g4, c4, rfl, ho4, hq⟩; have hs4 := hv.size; have ho : OwnV w4 w.heap.size 112 2 (.slice g4 n c4) n (St.eG.flat L) := ho4.down (Nat.le_trans HZS.out hs4); have HV4 := Lib.hid (below_up HBB.out (below_up hv hq)); have hv := below_up hv hq; obtain ⟨r0, r1, x0, x1⟩ := HCL.out _ hv; clear ho4 hq)
  rcases ho with ⟨_, h0, _⟩ | ⟨g, cap, h0, hc⟩
  ·omega
  ·cases h0
   have hcg := hc.lt
   obtain ⟨cur0, _, hcc0, _⟩ := id hc
   have hfz0 := frozen_of hcc0 (p * 2)
   have hce0 : ∃ v, (w4).cell? ⟨g, p * 2, none⟩ = some v := by
    have h := hc.cellAt (p * 2) (by omega)
    exact ⟨_, h.trans (List.getElem?_eq_getElem (by first | (rw [St.eG.flat_len, HN.out]; show _ < n * 2; omega) | (simp only [List.length_set]; rw [St.eG.flat_len, HN.out]; show _ < n * 2; omega)))⟩
   obtain ⟨v0, hv0⟩ := hce0
   have hc0 := hc.setCell (p := p * 2) (by omega) (.string x.dig)
   obtain ⟨cur1, _, hcc1, _⟩ := id hc0
   have hfz1 := frozen_of hcc1 (p * 2 + 1)
   have hce1 : ∃ v, ((w4).setCell ⟨g, p * 2, none⟩ (.string x.dig)).cell? ⟨g, p * 2 + 1, none⟩ = some v := by
    have h := hc0.cellAt (p * 2 + 1) (by omega)
    exact ⟨_, h.trans (List.getElem?_eq_getElem (by first | (rw [St.eG.flat_len, HN.out]; show _ < n * 2; omega) | (simp only [List.length_set]; rw [St.eG.flat_len, HN.out]; show _ < n * 2; omega)))⟩
   obtain ⟨v1, hv1⟩ := hce1
   have hc1 := hc0.setCell (p := p * 2 + 1) (by omega) (.int .i64 x.day)
   rw [← HPU.out] at hc1
   have HCZ := Lib.hid hc1
   obtain ⟨_, _, _, l1, l2, _⟩ := id hc1
   have l2' : c4 ≤ 9223372036854775807 := l2
   have HBZ := Lib.hid ((((HV4.out).setCell (p := ⟨g, p * 2, none⟩) (by simpa using hcg.1) (.string x.dig))).setCell (p := ⟨g, p * 2 + 1, none⟩) (by simpa using hcg.1) (.int .i64 x.day))
   clear hc hc0 hc1
   go_wp2_with (go_at_call 67; (with_reducible refine (clnG_clip _ _ _ _ l1 l2').mono ?_); rintro e wc ⟨rfl, rfl⟩)
   go_ret
   refine ⟨some ⟨g, 0, none⟩, n, by rw [HWL.out, HWN.out]; rfl, ?_, HBZ.out⟩
   rw [HWL.out, HWN.out]
   exact .inr ⟨g, n, rfl, HCZ.out.clip⟩
theorem flat_delS (L : List ByteArray) (p : Nat) : (St.eS.flat L).take (p * 1) ++ (St.eS.flat L).drop ((p + 1) * 1) = St.eS.flat (L.eraseIdx p) := by
 have h1 := Enc.flat_take St.eS L p
 have h2 := Enc.flat_drop St.eS L (p + 1)
 have h3 : St.eS.k = 1 := rfl
 rw [h3] at h1 h2
 rw [h1, h2, ← Enc.flat_append, List.eraseIdx_eq_take_drop_succ]
theorem woS_is (L : List ByteArray) (hu : St.Up id L) (h1m : L.length ≤ 900000) (k : ByteArray) (a : Option Addr) (ca : Nat) (w : World) (hl : L.length ≤ ca ∧ ca ≤ 9223372036854775807) (hr : RowE St.eS w a L) :
  Calls Tryz.prog 65 #[.agg #[.func (.func 149) #[] #[], .slice a L.length ca], .string k] w (ClnPost St.eS 9 w (St.wo id k L)) := by
 obtain ⟨W1, hW1, hP, hz1, hB1⟩ := box w #[.func (.func 149) #[] #[], .slice a L.length ca] 103
 have HW1 := Lib.hid hW1; have HBB := Lib.hid hB1; have HZS : Hid (w.heap.size ≤ W1.heap.size) := Lib.hid hB1.size
 have HCL : Hid (∀ V, Below W1.heap.size W1 V → V.cell? ⟨w.heap.size, 0, none⟩ = some (.func (.func 149) #[] #[]) ∧ V.cell? ⟨w.heap.size, 1, none⟩ = some (.slice a L.length ca)) := Lib.hid fun V hv => ⟨((hP.keep hv).cell 0).trans rfl, ((hP.keep hv).cell 1).trans rfl⟩
 have HPL := Lib.hid (fun V (hv : Below W1.heap.size W1 V) => placeS_is L hu (by omega) k a ca V hl ((hr.keep HBB.out).keep hv))
 have HCN := Lib.hid (fun V (hv : Below W1.heap.size W1 V) => clnS_is (L := L) a ca V ((hr.keep HBB.out).keep hv) (by omega))
 unfold ClnPost at HCN
 have HW : Hid (St.wo id k L = if St.hasK id L k = true then L.eraseIdx (St.pos id k L) else L) := Lib.hid rfl
 have HPT := Lib.hid (fun h : St.hasK id L k = true => St.hasK_at hu h)
 obtain ⟨p, hp⟩ : ∃ p, St.pos id k L = p := ⟨_, rfl⟩
 obtain ⟨hb, hhb⟩ : ∃ hb, St.hasK id L k = hb := ⟨_, rfl⟩
 rw [hp, hhb] at HPL HW HPT
 obtain ⟨n, hn⟩ : ∃ n, L.length = n := ⟨_, rfl⟩
 have HN := Lib.hid hn
 rw [hn] at hl h1m HCL HPL HCN HW1 ⊢
 have hmf : ∀ (fn : Fn) (first cap : Array Value) (w : World), (Instr.makeFunc fn first cap).run Tryz.prog w = .ok (.func fn first cap) w := fun _ _ _ _ => rfl
 clear hr hW1 hP hz1 hB1 hu hp hhb hn
 go_enter Tryz.func65, Tryz.ntmps65
 go_upto_region 1 with fail
 rw [HW1.out]
 have hv : Below W1.heap.size W1 W1 := Below.refl _ _
 obtain ⟨r0, r1⟩ := HCL.out _ hv
 go_upto_region 2 with (go_at_call 150; (with_reducible refine (HPL.out _ hv).mono ?_); rintro e wp ⟨rfl, hq⟩; have hv := below_up hv hq; obtain ⟨r0, r1⟩ := HCL.out _ hv)
 cases hb
 ·have hW := HW.out
  rw [if_neg (by decide)] at hW
  have HWL : Hid (St.wo id k L = L) := Lib.hid hW
  clear hW
  go_wp2_with (first
   | (go_at_call 140; (with_reducible refine (HCN.out _ hv).mono ?_); rintro e w4 ⟨g4, c4, rfl, ho4, hq⟩; have HO4 := Lib.hid (ho4.down (Nat.le_trans HZS.out hv.size)); have l1 := ho4.caps.1; have l2 := ho4.caps.2; have HV4 := Lib.hid (below_up HBB.out (below_up hv hq)); clear ho4 hq)
   | (go_at_call 104; (with_reducible refine (clnS_clip _ _ _ _ l1 l2).mono ?_); rintro e wc ⟨rfl, rfl⟩))
  go_ret
  refine ⟨g4, n, by rw [HWL.out, HN.out]; rfl, ?_, HV4.out⟩
  rw [HWL.out, HN.out]
  exact HO4.out.clip
 ·obtain ⟨y, hy, _⟩ := HPT.out rfl
  have hpn : p < n := by rw [← HN.out]; exact (List.getElem?_eq_some_iff.1 hy).1
  obtain ⟨m, rfl⟩ : ∃ m, n = m + 1 := ⟨n - 1, by omega⟩
  have hW := HW.out
  rw [if_pos rfl] at hW
  have HWL : Hid (St.wo id k L = L.eraseIdx p) := Lib.hid hW
  have HWN : Hid ((L.eraseIdx p).length = m) := Lib.hid (by rw [List.length_eraseIdx_of_lt (by rw [HN.out]; exact hpn), HN.out]; rfl)
  clear hW hy
  have hp0 : (0 : Int) ≤ (p : Int) := by omega
  have hpw : IntKind.i64.wrap ((p : Int) + 1) = (p : Int) + 1 := by rw [IntKind.wrap_i64]; omega
  go_wp2_with (first
   | (go_at_call 140; (with_reducible refine (HCN.out _ hv).mono ?_); rintro e w4 ⟨g4, c4, rfl, ho4, hq⟩; have ho : OwnV w4 w.heap.size 9 1 (.slice g4 (m + 1) c4) (m + 1) (St.eS.flat L) := ho4.down (Nat.le_trans HZS.out hv.size); have HV4 := Lib.hid (below_up HBB.out (below_up hv hq)); obtain ⟨g, hg, hc⟩ : ∃ g, g4 = some ⟨g, 0, none⟩ ∧ OwnC w4 w.heap.size 9 1 g (m + 1) c4 (St.eS.flat L) := (by (rcases ho with ⟨_, h0, _⟩ | ⟨g, cap, h0, hc⟩); (exact absurd h0 (by omega)); (cases h0; exact ⟨g, rfl, hc⟩)); subst hg; have HGL := Lib.hid hc.lt.1; have HDL := Lib.hid (sr_del w.heap.size g m c4 p (St.eS.flat L) w4 hc (by omega) (by omega) (Enc.flat_one St.eS L)); rw [flat_delS] at HDL; clear ho4 hq ho hc)
   | (go_at_call 155; (with_reducible refine HDL.out.mono ?_); rintro e w8 ⟨rfl, hc8, hg8⟩; have HC8 := Lib.hid hc8; have HF := Lib.hid (HV4.out.grown hg8 HV4.out.size (fun b e => by cases e; exact HGL.out)); have l1 : m ≤ c4 := (by obtain ⟨_, _, _, h, _⟩ := HC8.out; exact h); have l2 : c4 ≤ 9223372036854775807 := (by obtain ⟨_, _, _, _, h, _⟩ := HC8.out; exact h); clear hc8 hg8)
   | (go_at_call 104; (with_reducible refine (clnS_clip _ _ _ _ l1 l2).mono ?_); rintro e wc ⟨rfl, rfl⟩))
  go_ret
  refine ⟨some ⟨g, 0, none⟩, m, by rw [HWL.out, HWN.out]; rfl, ?_, HF.out⟩
  rw [HWL.out, HWN.out]
  exact .inr ⟨g, m, rfl, HC8.out.clip⟩
theorem flat_delG (L : List Gon) (p : Nat) : (St.eG.flat L).take (p * 2) ++ (St.eG.flat L).drop ((p + 1) * 2) = St.eG.flat (L.eraseIdx p) := by
 have h1 := Enc.flat_take St.eG L p
 have h2 := Enc.flat_drop St.eG L (p + 1)
 have h3 : St.eG.k = 2 := rfl
 rw [h3] at h1 h2
 rw [h1, h2, ← Enc.flat_append, List.eraseIdx_eq_take_drop_succ]
theorem woG_is (L : List Gon) (hu : St.Up St.gdig L) (h1m : L.length ≤ 900000) (k : ByteArray) (a : Option Addr) (ca : Nat) (w : World) (hl : L.length ≤ ca ∧ ca ≤ 9223372036854775807) (hr : RowE St.eG w a L) :
  Calls Tryz.prog 61 #[.agg #[.func (.func 152) #[] #[], .slice a L.length ca], .string k] w (ClnPost St.eG 112 w (St.wo St.gdig k L)) := by
 obtain ⟨W1, hW1, hP, hz1, hB1⟩ := box w #[.func (.func 152) #[] #[], .slice a L.length ca] 108
 have HW1 := Lib.hid hW1; have HBB := Lib.hid hB1; have HZS : Hid (w.heap.size ≤ W1.heap.size) := Lib.hid hB1.size
 have HCL : Hid (∀ V, Below W1.heap.size W1 V → V.cell? ⟨w.heap.size, 0, none⟩ = some (.func (.func 152) #[] #[]) ∧ V.cell? ⟨w.heap.size, 1, none⟩ = some (.slice a L.length ca)) := Lib.hid fun V hv => ⟨((hP.keep hv).cell 0).trans rfl, ((hP.keep hv).cell 1).trans rfl⟩
 have HPL := Lib.hid (fun V (hv : Below W1.heap.size W1 V) => placeG_is L hu (by omega) k a ca V hl ((hr.keep HBB.out).keep hv))
 have HCN := Lib.hid (fun V (hv : Below W1.heap.size W1 V) => clnG_is (L := L) a ca V ((hr.keep HBB.out).keep hv) (by omega))
 unfold ClnPost at HCN
 have HW : Hid (St.wo St.gdig k L = if St.hasK St.gdig L k = true then L.eraseIdx (St.pos St.gdig k L) else L) := Lib.hid rfl
 have HPT := Lib.hid (fun h : St.hasK St.gdig L k = true => St.hasK_at hu h)
 obtain ⟨p, hp⟩ : ∃ p, St.pos St.gdig k L = p := ⟨_, rfl⟩
 obtain ⟨hb, hhb⟩ : ∃ hb, St.hasK St.gdig L k = hb := ⟨_, rfl⟩
 rw [hp, hhb] at HPL HW HPT
 obtain ⟨n, hn⟩ : ∃ n, L.length = n := ⟨_, rfl⟩
 have HN := Lib.hid hn
 rw [hn] at hl h1m HCL HPL HCN HW1 ⊢
 have hmf : ∀ (fn : Fn) (first cap : Array Value) (w : World), (Instr.makeFunc fn first cap).run Tryz.prog w = .ok (.func fn first cap) w := fun _ _ _ _ => rfl
 clear hr hW1 hP hz1 hB1 hu hp hhb hn
 go_enter Tryz.func61, Tryz.ntmps61
 go_upto_region 1 with fail
 rw [HW1.out]
 have hv : Below W1.heap.size W1 W1 := Below.refl _ _
 obtain ⟨r0, r1⟩ := HCL.out _ hv
 go_upto_region 2 with (go_at_call 153; (with_reducible refine (HPL.out _ hv).mono ?_); rintro e wp ⟨rfl, hq⟩; have hv := below_up hv hq; obtain ⟨r0, r1⟩ := HCL.out _ hv)
 cases hb
 ·have hW := HW.out
  rw [if_neg (by decide)] at hW
  have HWL : Hid (St.wo St.gdig k L = L) := Lib.hid hW
  clear hW
  go_wp2_with (first
   | (go_at_call 141; (with_reducible refine (HCN.out _ hv).mono ?_); rintro e w4 ⟨g4, c4, rfl, ho4, hq⟩; have HO4 := Lib.hid (ho4.down (Nat.le_trans HZS.out hv.size)); have l1 := ho4.caps.1; have l2 := ho4.caps.2; have HV4 := Lib.hid (below_up HBB.out (below_up hv hq)); clear ho4 hq)
   | (go_at_call 67; (with_reducible refine (clnG_clip _ _ _ _ l1 l2).mono ?_); rintro e wc ⟨rfl, rfl⟩))
  go_ret
  refine ⟨g4, n, by rw [HWL.out, HN.out]; rfl, ?_, HV4.out⟩
  rw [HWL.out, HN.out]
  exact HO4.out.clip
 ·obtain ⟨y, hy, _⟩ := HPT.out rfl
  have hpn : p < n := by rw [← HN.out]; exact (List.getElem?_eq_some_iff.1 hy).1
  obtain ⟨m, rfl⟩ : ∃ m, n = m + 1 := ⟨n - 1, by omega⟩
  have hW := HW.out
  rw [if_pos rfl] at hW
  have HWL : Hid (St.wo St.gdig k L = L.eraseIdx p) := Lib.hid hW
  have HWN : Hid ((L.eraseIdx p).length = m) := Lib.hid (by rw [List.length_eraseIdx_of_lt (by rw [HN.out]; exact hpn), HN.out]; rfl)
  clear hW hy
  have hp0 : (0 : Int) ≤ (p : Int) := by omega
  have hpw : IntKind.i64.wrap ((p : Int) + 1) = (p : Int) + 1 := by rw [IntKind.wrap_i64]; omega
  go_wp2_with (first
   | (go_at_call 141; (with_reducible refine (HCN.out _ hv).mono ?_); rintro e w4 ⟨g4, c4, rfl, ho4, hq⟩; have ho : OwnV w4 w.heap.size 112 2 (.slice g4 (m + 1) c4) (m + 1) (St.eG.flat L) := ho4.down (Nat.le_trans HZS.out hv.size); have HV4 := Lib.hid (below_up HBB.out (below_up hv hq)); obtain ⟨g, hg, hc⟩ : ∃ g, g4 = some ⟨g, 0, none⟩ ∧ OwnC w4 w.heap.size 112 2 g (m + 1) c4 (St.eG.flat L) := (by (rcases ho with ⟨_, h0, _⟩ | ⟨g, cap, h0, hc⟩); (exact absurd h0 (by omega)); (cases h0; exact ⟨g, rfl, hc⟩)); subst hg; have HGL := Lib.hid hc.lt.1; have HDL := Lib.hid (gn_del w.heap.size g m c4 p (St.eG.flat L) w4 hc (by omega) (by omega) (Enc.flat_one St.eG L)); rw [flat_delG] at HDL; clear ho4 hq ho hc)
   | (go_at_call 154; (with_reducible refine HDL.out.mono ?_); rintro e w8 ⟨rfl, hc8, hg8⟩; have HC8 := Lib.hid hc8; have HF := Lib.hid (HV4.out.grown hg8 HV4.out.size (fun b e => by cases e; exact HGL.out)); have l1 : m ≤ c4 := (by obtain ⟨_, _, _, h, _⟩ := HC8.out; exact h); have l2 : c4 ≤ 9223372036854775807 := (by obtain ⟨_, _, _, _, h, _⟩ := HC8.out; exact h); clear hc8 hg8)
   | (go_at_call 67; (with_reducible refine (clnG_clip _ _ _ _ l1 l2).mono ?_); rintro e wc ⟨rfl, rfl⟩))
  go_ret
  refine ⟨some ⟨g, 0, none⟩, m, by rw [HWL.out, HWN.out]; rfl, ?_, HF.out⟩
  rw [HWL.out, HWN.out]
  exact .inr ⟨g, m, rfl, HC8.out.clip⟩
theorem hasG_is (L : List Gon) (hu : St.Up St.gdig L) (h1m : L.length ≤ 1000000) (k : ByteArray) (a : Option Addr) (ca : Nat) (w : World) (hl : L.length ≤ ca ∧ ca ≤ 9223372036854775807) (hr : RowE St.eG w a L) :
  Calls Tryz.prog 62 #[.agg #[.func (.func 152) #[] #[], .slice a L.length ca], .string k] w fun e w' => e = .returned (.bool (St.hasK St.gdig L k)) ∧ Below w.heap.size w w' := by
 obtain ⟨W1, hW1, hP, hz1, hB1⟩ := box w #[.func (.func 152) #[] #[], .slice a L.length ca] 108
 have HW1 := Lib.hid hW1; have HB1 := Lib.hid hB1
 have r0 : W1.cell? ⟨w.heap.size, 0, none⟩ = some (.func (.func 152) #[] #[]) := (hP.cell 0).trans rfl
 have r1 : W1.cell? ⟨w.heap.size, 1, none⟩ = some (.slice a L.length ca) := (hP.cell 1).trans rfl
 have HC := Lib.hid (placeG_is L hu h1m k a ca W1 hl (hr.keep hB1))
 clear hW1 hP hz1 hB1 hr
 go_enter Tryz.func62, Tryz.ntmps62
 go_wp2_with fail
 rw [HW1.out]
 go_wp2_with (go_at_call 153; (with_reducible refine HC.out.mono ?_); rintro e w4 ⟨rfl, hB4⟩)
 go_ret
 exact ⟨rfl, below_up HB1.out hB4⟩
end Go.Proofs.YthdiccdnggloiaaGreatDoor
