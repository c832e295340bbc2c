/- Parts of the proof, no condition: StRef3, StRef5. -/
import Derived.Test.YthdiccdnggloiaaGreatDoorKp9
import Derived.Lib.QuietBelow
import Derived.Test.YthdiccdnggloiaaGreatDoorKp13
set_option maxRecDepth 100000
set_option maxHeartbeats 16000000
set_option linter.unusedSimpArgs false
set_option linter.unusedVariables false
namespace Go.Proofs.YthdiccdnggloiaaGreatDoor
open Go.RowKit Go.Sort Go.Shelf Go.Maps
theorem keptError_is (s : Sto) (a : StA) (w : World) (hI : StIn w s a) :
  Calls Tryz.prog 79 #[.agg #[.int .i64 s.least, .int .i64 s.wait, .slice a.ta s.tiers.length a.tc, .slice a.fa s.files.length a.fc, .slice a.ca s.copies.length a.cc, .slice a.ha s.held.length a.hc, .slice a.ba s.bin.length a.bc]] w fun e w' => e = .returned (.int .i64 (St.keptE s)) ∧ Below w.heap.size w w' := by
 obtain ⟨W1, hW1, hP, hz1, hB1⟩ := box w #[.int .i64 s.least, .int .i64 s.wait, .slice a.ta s.tiers.length a.tc, .slice a.fa s.files.length a.fc, .slice a.ca s.copies.length a.cc, .slice a.ha s.held.length a.hc, .slice a.ba s.bin.length a.bc] 28
 have HW1 := Lib.hid hW1
 have HI1 := Lib.hid (hI.keep hB1)
 have q0 : W1.cell? ⟨w.heap.size, 0, none⟩ = some (.int .i64 s.least) := (hP.cell 0).trans rfl
 have q1 : W1.cell? ⟨w.heap.size, 1, none⟩ = some (.int .i64 s.wait) := (hP.cell 1).trans rfl
 have q2 : W1.cell? ⟨w.heap.size, 2, none⟩ = some (.slice a.ta s.tiers.length a.tc) := (hP.cell 2).trans rfl
 have q3 : W1.cell? ⟨w.heap.size, 3, none⟩ = some (.slice a.fa s.files.length a.fc) := (hP.cell 3).trans rfl
 have q4 : W1.cell? ⟨w.heap.size, 4, none⟩ = some (.slice a.ca s.copies.length a.cc) := (hP.cell 4).trans rfl
 have q5 : W1.cell? ⟨w.heap.size, 5, none⟩ = some (.slice a.ha s.held.length a.hc) := (hP.cell 5).trans rfl
 have q6 : W1.cell? ⟨w.heap.size, 6, none⟩ = some (.slice a.ba s.bin.length a.bc) := (hP.cell 6).trans rfl
 have HP := Lib.hid hP; have HB1 := Lib.hid hB1
 clear hW1 hP
 have hhl := hI.hl; have hbl := hI.bl
 obtain ⟨qa, hqa⟩ : ∃ qa, St.scan (St.heldE s.files) [] s.held = qa := ⟨_, rfl⟩
 obtain ⟨qb, hqb⟩ : ∃ qb, St.scan (St.binE s.files s.held) [] s.bin = qb := ⟨_, rfl⟩
 have HF : Hid (St.keptE s = if qa = 0 then qb else qa) := Lib.hid (by unfold St.keptE; rw [hqa, hqb])
 have HQ1 : Hid (St.scan (St.heldE s.files) (s.held.take 0) (s.held.drop 0) = qa) := Lib.hid hqa
 have HQ2 : Hid (St.scan (St.binE s.files s.held) (s.bin.take 0) (s.bin.drop 0) = qb) := Lib.hid hqb
 have HOR := Lib.hid (fun (d : ByteArray) W (hb : Below W1.heap.size W1 W) => original_is s a d W (HI1.out.keep hb))
 have HHS := Lib.hid (fun (d : ByteArray) W (hb : Below W1.heap.size W1 W) => containsS_is s.held a.ha a.hc d W (HI1.out.keep hb).he hhl)
 have HID := Lib.hid (fun (n : Int) W => inS_is n 0 73048 W)
 have HCL : Hid (∀ W, Below W1.heap.size W1 W → W.cell? ⟨w.heap.size, 0, none⟩ = some (.int .i64 s.least) ∧ W.cell? ⟨w.heap.size, 1, none⟩ = some (.int .i64 s.wait) ∧ W.cell? ⟨w.heap.size, 2, none⟩ = some (.slice a.ta s.tiers.length a.tc) ∧ W.cell? ⟨w.heap.size, 3, none⟩ = some (.slice a.fa s.files.length a.fc) ∧ W.cell? ⟨w.heap.size, 4, none⟩ = some (.slice a.ca s.copies.length a.cc) ∧ W.cell? ⟨w.heap.size, 5, none⟩ = some (.slice a.ha s.held.length a.hc) ∧ W.cell? ⟨w.heap.size, 6, none⟩ = some (.slice a.ba s.bin.length a.bc)) := Lib.hid fun W hb =>
  have k := HP.out.keep hb
  ⟨(k.cell 0).trans rfl, (k.cell 1).trans rfl, (k.cell 2).trans rfl, (k.cell 3).trans rfl, (k.cell 4).trans rfl, (k.cell 5).trans rfl, (k.cell 6).trans rfl⟩
 clear hI hqa hqb
 obtain ⟨n, hn⟩ : ∃ n, s.held.length = n := ⟨_, rfl⟩
 have HN := Lib.hid hn
 obtain ⟨nt, hnt⟩ : ∃ nt, s.bin.length = nt := ⟨_, rfl⟩
 have HNT := Lib.hid hnt
 rw [hn] at q5 hhl HW1 HOR HHS HCL ⊢
 rw [hnt] at q6 hbl HW1 HOR HCL ⊢
 clear hn hnt
 go_enter Tryz.func79, Tryz.ntmps79
 go_wp2_with fail
 rw [HW1.out]
 go_wp2_with fail
 clear q0 q1 q2 q3 q4 q5 q6
 go_loopg [10] n (fun gk i wr => ∃ j : Nat, j ≤ n ∧ gk = n - j ∧ i = .int .i64 j ∧ St.scan (St.heldE s.files) (s.held.take j) (s.held.drop j) = qa ∧ Below W1.heap.size W1 wr)
 case atStart => exact ⟨0, by omega, rfl, rfl, HQ1.out, Below.refl _ _⟩
 case round =>
  obtain ⟨j, hj, rfl, rfl, hs, hBW⟩ := hrel
  have HS := Lib.hid hs; clear hs
  have HBR := Lib.hid (below_up HB1.out hBW)
  by_cases hlt : j < n
  ·obtain ⟨x, hx⟩ : ∃ x, s.held[j]? = some x := ⟨_, List.getElem?_eq_getElem (by rw [HN.out]; exact hlt)⟩
   obtain ⟨b, off, ha, hb, hcell⟩ := (HI1.out.keep hBW).he (by rw [HN.out]; omega)
   have HCE : Hid (∀ (W : World), Below W1.heap.size W1 W → ∀ (i : Nat) (y : ByteArray), s.held[i]? = some y → W.cell? ⟨b, off + i, none⟩ = some (.string y)) := Lib.hid fun W hb i y hy => by
    obtain ⟨b2, off2, ha2, hb2, hc2⟩ := (HI1.out.keep hb).he (by rw [HN.out]; omega)
    rw [ha] at ha2; cases ha2
    have := hc2 i y hy 0 (.string y) rfl
    rw [show off + i * St.eS.k + 0 = off + i by simp [St.eS]] at this
    exact this
   have c0 := HCE.out _ hBW j x hx
   clear hcell
   have HX := Lib.hid hx
   obtain ⟨kd, hkd⟩ : ∃ kd, decide (St.kindOf s.files x = 1) = kd := ⟨_, rfl⟩
   have HOX := Lib.hid (HOR.out x _ hBW)
   rw [hkd] at HOX
   have HDF : Hid (St.heldE s.files (s.held.take j) x = if kd = true then (match (s.held.take j).getLast? with | some p => (if St.le x p = true then 5 else 0) | none => 0) else 7) := Lib.hid (by unfold St.heldE; rw [← hkd]; simp only [decide_eq_true_eq]; rfl)
   obtain ⟨m0, m1, m2, m3, m4, m5, m6⟩ := HCL.out _ hBW
   have hj0 : (0 : Int) ≤ (j : Int) := by omega
   have hj1 : (j : Int) < (n : Int) := by omega
   have HBW := Lib.hid hBW
   clear hx hkd hBW
   rw [ha] at m5 HOX HCL ⊢
   cases kd
   ·have HBD : Hid (St.heldE s.files (s.held.take j) x = 7) := Lib.hid (by rw [HDF.out]; rfl)
    have HE := Lib.hid (St.scan_here HS.out HX.out (by rw [HBD.out]; decide))
    go_wp2_with (go_at_call 75; (with_reducible refine HOX.out.mono ?_); rintro e w6 ⟨rfl, hB6⟩)
    go_ret
    exact ⟨ret_int (by rw [HF.out, HE.out, HBD.out]; rfl), below_up HBR.out hB6⟩
   ·have HDG : Hid (St.heldE s.files (s.held.take j) x = (match (s.held.take j).getLast? with | some p => (if St.le x p = true then 5 else 0) | none => 0)) := Lib.hid (by rw [HDF.out, if_pos rfl])
    go_upto_region 6 with (go_at_call 75; (with_reducible refine HOX.out.mono ?_); rintro e w6 ⟨rfl, hB6⟩; have HBJ := Lib.hid (below_up HBW.out hB6); have HAL := Lib.hid (below_up HBR.out hB6))
    clear m0 m1 m2 m3 m4 m5 m6 c0
    obtain ⟨m0, m1, m2, m3, m4, m5, m6⟩ := HCL.out _ HBJ.out
    rcases Nat.eq_zero_or_pos j with rfl | hjp
    ·have HBD : Hid (St.heldE s.files (s.held.take 0) x = 0) := Lib.hid (by rw [HDG.out, St.last_zero])
     have HE := Lib.hid (St.scan_next HS.out HX.out HBD.out)
     go_wp2_with fail
     rw [← ha]
     go_roundg (n - (0 + 1))
     case rel => exact ⟨0 + 1, by omega, rfl, by go_num, HE.out, HBJ.out⟩
     case measure => omega
    ·obtain ⟨p, hp, hlast⟩ := St.last_at (L := s.held) (by rw [HN.out]; exact hlt) hjp
     obtain ⟨i, rfl⟩ : ∃ i, j = i + 1 := ⟨j - 1, by omega⟩
     rw [Nat.add_sub_cancel] at hp
     have p0 := HCE.out _ HBJ.out i p hp
     obtain ⟨bl, hbq⟩ : ∃ bl, (Op.bytesLess x.toList p.toList || x.toList == p.toList) = bl := ⟨_, rfl⟩
     have HBQ : Hid (St.le x p = bl) := Lib.hid hbq
     have HDZ : Hid (St.heldE s.files (s.held.take (i + 1)) x = if bl = true then 5 else 0) := Lib.hid (by rw [HDG.out, hlast, ← HBQ.out])
     clear hp hlast
     cases bl
     ·have HBD : Hid (St.heldE s.files (s.held.take (i + 1)) x = 0) := Lib.hid (by rw [HDZ.out]; rfl)
      have HE := Lib.hid (St.scan_next HS.out HX.out HBD.out)
      go_wp2_with fail
      rw [← ha]
      go_roundg (n - (i + 1 + 1))
      case rel => exact ⟨i + 1 + 1, by omega, rfl, by go_num, HE.out, HBJ.out⟩
      case measure => omega
     ·have HBD : Hid (St.heldE s.files (s.held.take (i + 1)) x = 5) := Lib.hid (by rw [HDZ.out]; rfl)
      have HE := Lib.hid (St.scan_here HS.out HX.out (by rw [HBD.out]; decide))
      go_wp2_with fail
      go_ret
      exact ⟨ret_int (by rw [HF.out, HE.out, HBD.out]; rfl), HAL.out⟩
  ·obtain rfl : j = n := by omega
   have HE := HS.out
   rw [← HN.out] at HE
   have hq0 := St.scan_done HE
   have HF2 : Hid (St.keptE s = qb) := Lib.hid (by rw [HF.out, if_pos hq0])
   clear HE hq0
   obtain ⟨m0, m1, m2, m3, m4, m5, m6⟩ := HCL.out _ hBW
   have HBK := Lib.hid hBW
   clear hBW
   go_wp2_with fail
   clear m0 m1 m2 m3 m4 m5 m6
   go_loopg [35] nt (fun gk i wq => ∃ k : Nat, k ≤ nt ∧ gk = nt - k ∧ i = .int .i64 k ∧ St.scan (St.binE s.files s.held) (s.bin.take k) (s.bin.drop k) = qb ∧ Below W1.heap.size W1 wq)
   case atStart => exact ⟨0, by omega, rfl, rfl, HQ2.out, HBK.out⟩
   case round =>
    obtain ⟨k, hk, rfl, rfl, hs, hBWq⟩ := hrel
    have HS2 := Lib.hid hs; clear hs
    have HBQ := Lib.hid (below_up HB1.out hBWq)
    by_cases hlt2 : k < nt
    ·obtain ⟨x, hx⟩ : ∃ x, s.bin[k]? = some x := ⟨_, List.getElem?_eq_getElem (by rw [HNT.out]; exact hlt2)⟩
     obtain ⟨b, off, ha, hb, hcell⟩ := (HI1.out.keep hBWq).bi (by rw [HNT.out]; omega)
     have c0 : wr.cell? ⟨b, off + k * 2, none⟩ = some (.string x.dig) := hcell k x hx 0 (.string x.dig) rfl
     have c1 : wr.cell? ⟨b, off + k * 2 + 1, none⟩ = some (.int .i64 x.day) := hcell k x hx 1 (.int .i64 x.day) rfl
     clear hcell
     have HX := Lib.hid hx
     obtain ⟨W3, hW3, hX3, hz3, hB3⟩ := box wr #[.string x.dig, .int .i64 x.day] 112
     have HW3 := Lib.hid hW3
     have HD : Hid (∀ W, Below W3.heap.size W3 W → W.cell? ⟨wr.heap.size, 0, none⟩ = some (.string x.dig) ∧ W.cell? ⟨wr.heap.size, 1, none⟩ = some (.int .i64 x.day)) := Lib.hid fun W hb =>
      have k := hX3.keep hb
      ⟨(k.cell 0).trans rfl, (k.cell 1).trans rfl⟩
     obtain ⟨d0, d1⟩ := HD.out _ (Below.refl _ _)
     have HAL3 := Lib.hid (below_up HBQ.out hB3)
     have HAW3 := Lib.hid (below_up hBWq hB3)
     obtain ⟨kd, hkd⟩ : ∃ kd, decide (St.kindOf s.files x.dig = 1) = kd := ⟨_, rfl⟩
     have HOX := Lib.hid (HOR.out x.dig _ HAW3.out)
     rw [hkd] at HOX
     have HDF : Hid (St.binE s.files s.held (s.bin.take k) x = if kd = true then (match (s.bin.take k).getLast? with | some p => (if St.le x.dig p.dig = true then 5 else St.binR s.held x) | none => St.binR s.held x) else 7) := Lib.hid (by unfold St.binE; rw [← hkd]; simp only [decide_eq_true_eq]; rfl)
     obtain ⟨m0, m1, m2, m3, m4, m5, m6⟩ := HCL.out _ HAW3.out
     have hj0 : (0 : Int) ≤ (k : Int) := by omega
     have hj1 : (k : Int) < (nt : Int) := by omega
     have HPV : Hid (∀ W, Below W1.heap.size W1 W → ∀ (i : Nat) (y : Gon), s.bin[i]? = some y → W.cell? ⟨b, off + i * 2, none⟩ = some (.string y.dig)) := Lib.hid fun W hb i y hy => by
      obtain ⟨b2, off2, ha2, hb2, hc2⟩ := (HI1.out.keep hb).bi (by rw [HNT.out]; omega)
      rw [ha] at ha2; cases ha2
      exact hc2 i y hy 0 _ rfl
     clear hx hX3 hz3 hB3 hW3 hBWq hkd
     rw [ha] at m6 HOX HCL ⊢
     cases kd
     ·have HBD : Hid (St.binE s.files s.held (s.bin.take k) x = 7) := Lib.hid (by rw [HDF.out]; rfl)
      have HE := Lib.hid (St.scan_here HS2.out HX.out (by rw [HBD.out]; decide))
      go_upto_region 12 with fail
      rw [HW3.out]
      go_wp2_with (go_at_call 75; (with_reducible refine HOX.out.mono ?_); rintro e w6 ⟨rfl, hB6⟩)
      go_ret
      exact ⟨ret_int (by rw [HF2.out, HE.out, HBD.out]), below_up HAL3.out hB6⟩
     ·have HDG : Hid (St.binE s.files s.held (s.bin.take k) x = (match (s.bin.take k).getLast? with | some p => (if St.le x.dig p.dig = true then 5 else St.binR s.held x) | none => St.binR s.held x)) := Lib.hid (by rw [HDF.out, if_pos rfl])
      obtain ⟨dy, hdy⟩ : ∃ dy, St.inB x.day 0 73048 = dy := ⟨_, rfl⟩
      have HDY := Lib.hid hdy
      clear hdy
      go_upto_region 12 with fail
      rw [HW3.out]
      go_upto_region 14 with (go_at_call 75; (with_reducible refine HOX.out.mono ?_); rintro e w6 ⟨rfl, hB6⟩; have HB36 := Lib.hid hB6)
      have HAL6 := Lib.hid (below_up HAL3.out HB36.out)
      have HAW6 := Lib.hid (below_up HAW3.out HB36.out)
      have HAQ6 := HAW6
      clear c0 c1 m0 m1 m2 m3 m4 m5 m6 d0 d1
      obtain ⟨d0, d1⟩ := HD.out _ HB36.out
      obtain ⟨m0, m1, m2, m3, m4, m5, m6⟩ := HCL.out _ HAW6.out
      have k0 := cell_regrown d0
      have k6 := cell_regrown m6
      clear m0 m1 m2 m3 m4 m5 m6 d0 d1
      rcases Nat.eq_zero_or_pos k with rfl | hjp
      ·have HDZ : Hid (St.binE s.files s.held (s.bin.take 0) x = St.binR s.held x) := Lib.hid (by rw [HDG.out, St.last_zero])
       refine wp_region_quiet_below (by kernel_rfl) (by kernel_rfl) ?_
       repeat (go_big_quiet_step ((fail)))
       refine wpQuiet_nil ?_
       intro _ hw'
       obtain ⟨⟨dq, osq⟩, hw''⟩ := hw'
       subst hw''
       have hBw7 := below_regrown w6 dq osq
       generalize grow (redrawn w6 dq) osq = w7 at *
       clear dq osq
       clear k0 k6
       obtain ⟨d0, d1⟩ := HD.out _ (below_up HB36.out hBw7)
       obtain ⟨m0, m1, m2, m3, m4, m5, m6⟩ := HCL.out _ (below_up HAW6.out hBw7)
       have HAW7 := Lib.hid (below_up HAW6.out hBw7)
       have HAL7 := Lib.hid (below_up HAL6.out hBw7)
       have HAQ7 := Lib.hid (below_up HAQ6.out hBw7)
       have HH2 := Lib.hid (HHS.out x.dig _ HAW7.out)
       cases dy
       ·have HBD : Hid (St.binE s.files s.held (s.bin.take (0)) x = 2) := Lib.hid (by rw [HDZ.out]; unfold St.binR; rw [HDY.out]; rfl)
        have HE := Lib.hid (St.scan_here HS2.out HX.out (by rw [HBD.out]; decide))
        go_wp2_with (go_at_call 70; (with_reducible refine (HID.out _ _).mono ?_); rw [HDY.out]; rintro e w8 ⟨rfl, rfl⟩)
        go_ret
        exact ⟨ret_int (by rw [HF2.out, HE.out, HBD.out]), HAL7.out⟩
       ·obtain ⟨hh, hhh⟩ : ∃ hh, St.hasS s.held x.dig = hh := ⟨_, rfl⟩
        have HBR2 : Hid (St.binE s.files s.held (s.bin.take (0)) x = if hh = true then 6 else 0) := Lib.hid (by rw [HDZ.out]; unfold St.binR; rw [HDY.out, hhh]; rfl)
        rw [hhh] at HH2
        clear hhh
        cases hh
        ·have HBD : Hid (St.binE s.files s.held (s.bin.take (0)) x = 0) := Lib.hid (by rw [HBR2.out]; rfl)
         have HE := Lib.hid (St.scan_next HS2.out HX.out HBD.out)
         go_wp2_with (first | (go_at_call 70; (with_reducible refine (HID.out _ _).mono ?_); rw [HDY.out]; rintro e w8 ⟨rfl, rfl⟩) | (go_at_call 49; (with_reducible refine HH2.out.mono ?_); rintro e w8 ⟨rfl, rfl⟩))
         rw [← ha]
         go_roundg (nt - (0 + 1))
         case rel => exact ⟨0 + 1, by omega, rfl, by go_num, HE.out, HAQ7.out⟩
         case measure => omega
        ·have HBD : Hid (St.binE s.files s.held (s.bin.take (0)) x = 6) := Lib.hid (by rw [HBR2.out]; rfl)
         have HE := Lib.hid (St.scan_here HS2.out HX.out (by rw [HBD.out]; decide))
         go_wp2_with (first | (go_at_call 70; (with_reducible refine (HID.out _ _).mono ?_); rw [HDY.out]; rintro e w8 ⟨rfl, rfl⟩) | (go_at_call 49; (with_reducible refine HH2.out.mono ?_); rintro e w8 ⟨rfl, rfl⟩))
         go_ret
         exact ⟨ret_int (by rw [HF2.out, HE.out, HBD.out]), HAL7.out⟩
      ·obtain ⟨p, hp, hlast⟩ := St.last_at (L := s.bin) (by rw [HNT.out]; exact hlt2) hjp
       obtain ⟨i, rfl⟩ : ∃ i, k = i + 1 := ⟨k - 1, by omega⟩
       rw [Nat.add_sub_cancel] at hp
       have k5 := cell_regrown (HPV.out _ HAW6.out i p hp)
       obtain ⟨bl, hbq⟩ : ∃ bl, (Op.bytesLess x.dig.toList p.dig.toList || x.dig.toList == p.dig.toList) = bl := ⟨_, rfl⟩
       have HBQ2 : Hid (St.le x.dig p.dig = bl) := Lib.hid hbq
       have HDP : Hid (St.binE s.files s.held (s.bin.take (i + 1)) x = if bl = true then 5 else St.binR s.held x) := Lib.hid (by rw [HDG.out, hlast, ← HBQ2.out])
       have HBC := Lib.hid hbq
       clear hp hlast hbq
       refine wp_region_quiet_below (by kernel_rfl) (by kernel_rfl) ?_
       repeat (go_big_quiet_step ((fail)))
       refine wpQuiet_nil ?_
       intro _ hw'
       obtain ⟨⟨dq, osq⟩, hw''⟩ := hw'
       subst hw''
       have hBw7 := below_regrown w6 dq osq
       generalize grow (redrawn w6 dq) osq = w7 at *
       clear dq osq
       clear k0 k5 k6
       cases bl
       ·have HDZ : Hid (St.binE s.files s.held (s.bin.take (i + 1)) x = St.binR s.held x) := Lib.hid (by rw [HDP.out]; rfl)
        simp only [HBC.out]
        obtain ⟨d0, d1⟩ := HD.out _ (below_up HB36.out hBw7)
        obtain ⟨m0, m1, m2, m3, m4, m5, m6⟩ := HCL.out _ (below_up HAW6.out hBw7)
        have HAW7 := Lib.hid (below_up HAW6.out hBw7)
        have HAL7 := Lib.hid (below_up HAL6.out hBw7)
        have HAQ7 := Lib.hid (below_up HAQ6.out hBw7)
        have HH2 := Lib.hid (HHS.out x.dig _ HAW7.out)
        cases dy
        ·have HBD : Hid (St.binE s.files s.held (s.bin.take (i + 1)) x = 2) := Lib.hid (by rw [HDZ.out]; unfold St.binR; rw [HDY.out]; rfl)
         have HE := Lib.hid (St.scan_here HS2.out HX.out (by rw [HBD.out]; decide))
         go_wp2_with (go_at_call 70; (with_reducible refine (HID.out _ _).mono ?_); rw [HDY.out]; rintro e w8 ⟨rfl, rfl⟩)
         go_ret
         exact ⟨ret_int (by rw [HF2.out, HE.out, HBD.out]), HAL7.out⟩
        ·obtain ⟨hh, hhh⟩ : ∃ hh, St.hasS s.held x.dig = hh := ⟨_, rfl⟩
         have HBR2 : Hid (St.binE s.files s.held (s.bin.take (i + 1)) x = if hh = true then 6 else 0) := Lib.hid (by rw [HDZ.out]; unfold St.binR; rw [HDY.out, hhh]; rfl)
         rw [hhh] at HH2
         clear hhh
         cases hh
         ·have HBD : Hid (St.binE s.files s.held (s.bin.take (i + 1)) x = 0) := Lib.hid (by rw [HBR2.out]; rfl)
          have HE := Lib.hid (St.scan_next HS2.out HX.out HBD.out)
          go_wp2_with (first | (go_at_call 70; (with_reducible refine (HID.out _ _).mono ?_); rw [HDY.out]; rintro e w8 ⟨rfl, rfl⟩) | (go_at_call 49; (with_reducible refine HH2.out.mono ?_); rintro e w8 ⟨rfl, rfl⟩))
          rw [← ha]
          go_roundg (nt - (i + 1 + 1))
          case rel => exact ⟨i + 1 + 1, by omega, rfl, by go_num, HE.out, HAQ7.out⟩
          case measure => omega
         ·have HBD : Hid (St.binE s.files s.held (s.bin.take (i + 1)) x = 6) := Lib.hid (by rw [HBR2.out]; rfl)
          have HE := Lib.hid (St.scan_here HS2.out HX.out (by rw [HBD.out]; decide))
          go_wp2_with (first | (go_at_call 70; (with_reducible refine (HID.out _ _).mono ?_); rw [HDY.out]; rintro e w8 ⟨rfl, rfl⟩) | (go_at_call 49; (with_reducible refine HH2.out.mono ?_); rintro e w8 ⟨rfl, rfl⟩))
          go_ret
          exact ⟨ret_int (by rw [HF2.out, HE.out, HBD.out]), HAL7.out⟩
       ·have HBD : Hid (St.binE s.files s.held (s.bin.take (i + 1)) x = 5) := Lib.hid (by rw [HDP.out]; rfl)
        have HE := Lib.hid (St.scan_here HS2.out HX.out (by rw [HBD.out]; decide))
        simp only [HBC.out]
        go_wp2_with fail
        go_ret
        exact ⟨ret_int (by rw [HF2.out, HE.out, HBD.out]), below_up HAL6.out hBw7⟩
    ·obtain rfl : k = nt := by omega
     have HE := HS2.out
     rw [← HNT.out] at HE
     have HE2 := Lib.hid (St.scan_done HE)
     clear HE
     go_wp2_with fail
     go_ret
     exact ⟨ret_int (by rw [HF2.out, HE2.out]), HBQ.out⟩
theorem stErr_sizes (s : Sto) (a : StA) (w : World) (hI : StIn w s a) (hne : St.sizesE s ≠ 0) :
  Calls Tryz.prog 14 #[.agg #[.int .i64 s.least, .int .i64 s.wait, .slice a.ta s.tiers.length a.tc, .slice a.fa s.files.length a.fc, .slice a.ca s.copies.length a.cc, .slice a.ha s.held.length a.hc, .slice a.ba s.bin.length a.bc]] w fun e w' => e = .returned (.int .i64 (St.sizesE s)) ∧ Below w.heap.size w w' := by
 obtain ⟨W1, hW1, hP, hz1, hB1⟩ := box w #[.int .i64 s.least, .int .i64 s.wait, .slice a.ta s.tiers.length a.tc, .slice a.fa s.files.length a.fc, .slice a.ca s.copies.length a.cc, .slice a.ha s.held.length a.hc, .slice a.ba s.bin.length a.bc] 28
 have HW1 := Lib.hid hW1
 have HI1 := Lib.hid (hI.keep hB1)
 have q0 : W1.cell? ⟨w.heap.size, 0, none⟩ = some (.int .i64 s.least) := (hP.cell 0).trans rfl
 have q1 : W1.cell? ⟨w.heap.size, 1, none⟩ = some (.int .i64 s.wait) := (hP.cell 1).trans rfl
 have q2 : W1.cell? ⟨w.heap.size, 2, none⟩ = some (.slice a.ta s.tiers.length a.tc) := (hP.cell 2).trans rfl
 have q3 : W1.cell? ⟨w.heap.size, 3, none⟩ = some (.slice a.fa s.files.length a.fc) := (hP.cell 3).trans rfl
 have q4 : W1.cell? ⟨w.heap.size, 4, none⟩ = some (.slice a.ca s.copies.length a.cc) := (hP.cell 4).trans rfl
 have q5 : W1.cell? ⟨w.heap.size, 5, none⟩ = some (.slice a.ha s.held.length a.hc) := (hP.cell 5).trans rfl
 have q6 : W1.cell? ⟨w.heap.size, 6, none⟩ = some (.slice a.ba s.bin.length a.bc) := (hP.cell 6).trans rfl
 have HP := Lib.hid hP; have HB1 := Lib.hid hB1
 clear hW1 hP
 obtain ⟨q, hq⟩ : ∃ q, St.sizesE s = q := ⟨_, rfl⟩
 rw [hq] at hne ⊢
 unfold St.sizesE at hq
 have HO1 := Lib.hid (fun W => inS_is s.least 1 8 W)
 have HO2 := Lib.hid (fun W => inS_is s.wait 0 1000 W)
 have h1 := hI.tl; have h2 := hI.fl; have h3 := hI.cl; have h4 := hI.hl; have h5 := hI.bl
 clear hI
 generalize s.tiers.length = n1 at *
 generalize s.files.length = n2 at *
 generalize s.copies.length = n3 at *
 generalize s.held.length = n4 at *
 generalize s.bin.length = n5 at *
 generalize St.inB s.least 1 8 = b1 at *
 generalize St.inB s.wait 0 1000 = b2 at *
 cases b1
 ·have HQ : Hid ((2 : Int) = q) := Lib.hid (by rw [← hq, if_neg (by simp)])
  clear hq
  go_enter Tryz.func14, Tryz.ntmps14
  go_wp2_with fail
  rw [HW1.out]
  go_wp2_with (go_at_call 70; first | ((with_reducible refine (HO1.out _).mono ?_); rintro e w2 ⟨rfl, rfl⟩) | ((with_reducible refine (HO2.out _).mono ?_); rintro e w2 ⟨rfl, rfl⟩))
  go_ret
  exact ⟨ret_int HQ.out, HB1.out⟩
 ·cases b2
  ·have HQ : Hid ((2 : Int) = q) := Lib.hid (by rw [← hq, if_neg (by simp)])
   clear hq
   go_enter Tryz.func14, Tryz.ntmps14
   go_wp2_with fail
   rw [HW1.out]
   go_wp2_with (go_at_call 70; first | ((with_reducible refine (HO1.out _).mono ?_); rintro e w2 ⟨rfl, rfl⟩) | ((with_reducible refine (HO2.out _).mono ?_); rintro e w2 ⟨rfl, rfl⟩))
   go_ret
   exact ⟨ret_int HQ.out, HB1.out⟩
  ·rw [if_pos ⟨rfl, rfl⟩] at hq
   by_cases g1 : 8 < n1
   ·have HQ : Hid ((4 : Int) = q) := Lib.hid (by rw [← hq, if_pos (.inl g1)])
    have g1' : (8 : Int) < (n1 : Int) := by omega
    clear hq
    go_enter Tryz.func14, Tryz.ntmps14
    go_wp2_with fail
    rw [HW1.out]
    go_wp2_with (go_at_call 70; first | ((with_reducible refine (HO1.out _).mono ?_); rintro e w2 ⟨rfl, rfl⟩) | ((with_reducible refine (HO2.out _).mono ?_); rintro e w2 ⟨rfl, rfl⟩))
    go_ret
    exact ⟨ret_int HQ.out, HB1.out⟩
   have g1' : ¬ ((8 : Int) < (n1 : Int)) := by omega
   by_cases g2 : 500 < n2
   ·have HQ : Hid ((4 : Int) = q) := Lib.hid (by rw [← hq, if_pos (.inr (.inl g2))])
    have g2' : (500 : Int) < (n2 : Int) := by omega
    clear hq
    go_enter Tryz.func14, Tryz.ntmps14
    go_wp2_with fail
    rw [HW1.out]
    go_wp2_with (go_at_call 70; first | ((with_reducible refine (HO1.out _).mono ?_); rintro e w2 ⟨rfl, rfl⟩) | ((with_reducible refine (HO2.out _).mono ?_); rintro e w2 ⟨rfl, rfl⟩))
    go_ret
    exact ⟨ret_int HQ.out, HB1.out⟩
   have g2' : ¬ ((500 : Int) < (n2 : Int)) := by omega
   by_cases g3 : 4000 < n3
   ·have HQ : Hid ((4 : Int) = q) := Lib.hid (by rw [← hq, if_pos (.inr (.inr (.inl g3)))])
    have g3' : (4000 : Int) < (n3 : Int) := by omega
    clear hq
    go_enter Tryz.func14, Tryz.ntmps14
    go_wp2_with fail
    rw [HW1.out]
    go_wp2_with (go_at_call 70; first | ((with_reducible refine (HO1.out _).mono ?_); rintro e w2 ⟨rfl, rfl⟩) | ((with_reducible refine (HO2.out _).mono ?_); rintro e w2 ⟨rfl, rfl⟩))
    go_ret
    exact ⟨ret_int HQ.out, HB1.out⟩
   have g3' : ¬ ((4000 : Int) < (n3 : Int)) := by omega
   by_cases g4 : 500 < n4
   ·have HQ : Hid ((4 : Int) = q) := Lib.hid (by rw [← hq, if_pos (.inr (.inr (.inr (.inl g4))))])
    have g4' : (500 : Int) < (n4 : Int) := by omega
    clear hq
    go_enter Tryz.func14, Tryz.ntmps14
    go_wp2_with fail
    rw [HW1.out]
    go_wp2_with (go_at_call 70; first | ((with_reducible refine (HO1.out _).mono ?_); rintro e w2 ⟨rfl, rfl⟩) | ((with_reducible refine (HO2.out _).mono ?_); rintro e w2 ⟨rfl, rfl⟩))
    go_ret
    exact ⟨ret_int HQ.out, HB1.out⟩
   have g4' : ¬ ((500 : Int) < (n4 : Int)) := by omega
   by_cases g5 : 500 < n5
   ·have HQ : Hid ((4 : Int) = q) := Lib.hid (by rw [← hq, if_pos (.inr (.inr (.inr (.inr g5))))])
    have g5' : (500 : Int) < (n5 : Int) := by omega
    clear hq
    go_enter Tryz.func14, Tryz.ntmps14
    go_wp2_with fail
    rw [HW1.out]
    go_wp2_with (go_at_call 70; first | ((with_reducible refine (HO1.out _).mono ?_); rintro e w2 ⟨rfl, rfl⟩) | ((with_reducible refine (HO2.out _).mono ?_); rintro e w2 ⟨rfl, rfl⟩))
    go_ret
    exact ⟨ret_int HQ.out, HB1.out⟩
   exact absurd (by rw [← hq, if_neg (by omega)]) hne
end Go.Proofs.YthdiccdnggloiaaGreatDoor
