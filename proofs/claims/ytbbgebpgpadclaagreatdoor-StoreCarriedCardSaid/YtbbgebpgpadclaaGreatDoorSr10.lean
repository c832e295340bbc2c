/- Parts of the proof, no condition: StChk8, StChk9, StEq. -/
import Derived.Test.YtbbgebpgpadclaaGreatDoorSr9
import Derived.Test.YtbbgebpgpadclaaGreatDoorSr5
import Derived.Test.YtbbgebpgpadclaaGreatDoorSr6
import Derived.Deep.QuietTactic
import Derived.BigQuiet
set_option maxRecDepth 100000
set_option maxHeartbeats 16000000
set_option linter.unusedSimpArgs false
set_option linter.unusedVariables false
namespace Go.Proofs.YtbbgebpgpadclaaGreatDoor
open Go.RowKit Go.Sort Go.Shelf Go.Maps
namespace St
theorem held_up {F : List Fil} {L : List ByteArray} (h : scan (heldE F) [] L = 0) : Up id L := up_of_scan h fun pre x p hb hp => by
 unfold heldE at hb
 rw [hp] at hb
 split at hb
 ·have e : (if le x p = true then (5 : Int) else 0) = 0 := hb
  split at e
  ·cases e
  ·rename_i g
   rw [le_not] at g
   show lt p x = true
   simpa using g
 ·cases hb
end St
theorem checkNeeded_is (s : Sto) (a : StA) (w : World) (hI : StIn w s a) (hsz : St.sizesE s = 0) (hfu : St.Up (·.dig) s.files) :
  Calls Tryz.prog 44 #[.agg #[.int .i64 s.least, .int .i64 s.wait, .slice a.ta s.tiers.length a.tc, .slice a.fa s.files.length a.fc, .slice a.ca s.copies.length a.cc, .slice a.ha s.held.length a.hc, .slice a.ba s.bin.length a.bc]] w fun e w' => e = .returned (.int .i64 (St.keptE s)) ∧ Below w.heap.size w w' := by
 obtain ⟨W1, hW1, hP, hz1, hB1⟩ := box w #[.int .i64 s.least, .int .i64 s.wait, .slice a.ta s.tiers.length a.tc, .slice a.fa s.files.length a.fc, .slice a.ca s.copies.length a.cc, .slice a.ha s.held.length a.hc, .slice a.ba s.bin.length a.bc] 28
 have HW1 := Lib.hid hW1
 have HI1 := Lib.hid (hI.keep hB1)
 have q0 : W1.cell? ⟨w.heap.size, 0, none⟩ = some (.int .i64 s.least) := (hP.cell 0).trans rfl
 have q1 : W1.cell? ⟨w.heap.size, 1, none⟩ = some (.int .i64 s.wait) := (hP.cell 1).trans rfl
 have q2 : W1.cell? ⟨w.heap.size, 2, none⟩ = some (.slice a.ta s.tiers.length a.tc) := (hP.cell 2).trans rfl
 have q3 : W1.cell? ⟨w.heap.size, 3, none⟩ = some (.slice a.fa s.files.length a.fc) := (hP.cell 3).trans rfl
 have q4 : W1.cell? ⟨w.heap.size, 4, none⟩ = some (.slice a.ca s.copies.length a.cc) := (hP.cell 4).trans rfl
 have q5 : W1.cell? ⟨w.heap.size, 5, none⟩ = some (.slice a.ha s.held.length a.hc) := (hP.cell 5).trans rfl
 have q6 : W1.cell? ⟨w.heap.size, 6, none⟩ = some (.slice a.ba s.bin.length a.bc) := (hP.cell 6).trans rfl
 have HP := Lib.hid hP; have HB1 := Lib.hid hB1
 clear hW1 hP
 obtain ⟨_, _, z3, _, z5, z6⟩ := St.sizes_iff.1 hsz
 have HU := Lib.hid hfu
 have HHZ := Lib.hid hI.hz; have HBZ := Lib.hid hI.bz
 have hhl := hI.hl; have hbl := hI.bl
 obtain ⟨qa, hqa⟩ : ∃ qa, St.scan (St.heldE s.files) [] s.held = qa := ⟨_, rfl⟩
 obtain ⟨qb, hqb⟩ : ∃ qb, St.scan (St.binE s.files s.held) [] s.bin = qb := ⟨_, rfl⟩
 have HF : Hid (St.keptE s = if qa = 0 then qb else qa) := Lib.hid (by unfold St.keptE; rw [hqa, hqb])
 have HQ1 : Hid (St.scan (St.heldE s.files) (s.held.take 0) (s.held.drop 0) = qa) := Lib.hid hqa
 have HQ2 : Hid (St.scan (St.binE s.files s.held) (s.bin.take 0) (s.bin.drop 0) = qb) := Lib.hid hqb
 have HUH := Lib.hid (fun h0 : qa = 0 => St.held_up (hqa.trans h0))
 have HBY := Lib.hid (byDigest_is s a W1 HI1.out z3)
 have HHD := Lib.hid (fun W => held_is s a W)
 have HHT := Lib.hid (fun (h0 : qa = 0) (d : ByteArray) W (hb : Below W1.heap.size W1 W) => hasS_is s.held (HUH.out h0) (by omega) d a.ha a.hc W hhl (HI1.out.keep hb).he)
 have HID := Lib.hid (fun (n : Int) W => isDayS_is n W)
 have HCL : Hid (∀ W, Below W1.heap.size W1 W → W.cell? ⟨w.heap.size, 0, none⟩ = some (.int .i64 s.least) ∧ W.cell? ⟨w.heap.size, 1, none⟩ = some (.int .i64 s.wait) ∧ W.cell? ⟨w.heap.size, 2, none⟩ = some (.slice a.ta s.tiers.length a.tc) ∧ W.cell? ⟨w.heap.size, 3, none⟩ = some (.slice a.fa s.files.length a.fc) ∧ W.cell? ⟨w.heap.size, 4, none⟩ = some (.slice a.ca s.copies.length a.cc) ∧ W.cell? ⟨w.heap.size, 5, none⟩ = some (.slice a.ha s.held.length a.hc) ∧ W.cell? ⟨w.heap.size, 6, none⟩ = some (.slice a.ba s.bin.length a.bc)) := Lib.hid fun W hb =>
  have k := HP.out.keep hb
  ⟨(k.cell 0).trans rfl, (k.cell 1).trans rfl, (k.cell 2).trans rfl, (k.cell 3).trans rfl, (k.cell 4).trans rfl, (k.cell 5).trans rfl, (k.cell 6).trans rfl⟩
 clear hI hqa hqb hsz hfu
 obtain ⟨n, hn⟩ : ∃ n, s.held.length = n := ⟨_, rfl⟩
 have HN := Lib.hid hn
 obtain ⟨nt, hnt⟩ : ∃ nt, s.bin.length = nt := ⟨_, rfl⟩
 have HNT := Lib.hid hnt
 rw [hn] at q5 hhl z5 HW1 HBY HHD HHT HCL ⊢
 rw [hnt] at q6 hbl z6 HW1 HBY HHD HCL ⊢
 have HC5 : Hid (∀ W, Below W1.heap.size W1 W → W.cell? ⟨w.heap.size, 5, none⟩ = some (.slice a.ha n a.hc)) := Lib.hid fun W hb => (HCL.out W hb).2.2.2.2.2.1
 clear hn hnt
 go_enter Tryz.func44, Tryz.ntmps44
 go_wp2_with fail
 rw [HW1.out]
 go_wp2_with (go_at_call 83; refine HBY.out.mono ?_; rintro e w5 ⟨mb, rfl, hmb, hM, hB5⟩; have HM5 := Lib.hid hM; have HBW5 := Lib.hid hB5; have HB5 := Lib.hid (below_up HB1.out hB5); have n5 := HC5.out _ HBW5.out)
 clear q0 q1 q2 q3 q4 q5 q6 n5 hmb hM hB5
 go_loopg [13] n (fun gk i wr => ∃ j : Nat, j ≤ n ∧ gk = n - j ∧ i = .int .i64 j ∧ St.scan (St.heldE s.files) (s.held.take j) (s.held.drop j) = qa ∧ Below w5.heap.size w5 wr)
 case atStart => exact ⟨0, by omega, rfl, rfl, HQ1.out, Below.refl _ _⟩
 case round =>
  obtain ⟨j, hj, rfl, rfl, hs, hB⟩ := hrel
  have HS := Lib.hid hs; clear hs
  have HBR := Lib.hid (below_up HB5.out hB)
  have hBW := below_up HBW5.out hB
  by_cases hlt : j < n
  ·obtain ⟨x, hx⟩ : ∃ x, s.held[j]? = some x := ⟨_, List.getElem?_eq_getElem (by rw [HN.out]; exact hlt)⟩
   obtain ⟨b, off, ha, hb, hcell⟩ := (HI1.out.keep hBW).he (by rw [HN.out]; omega)
   have HCE : Hid (∀ (i : Nat) (y : ByteArray), s.held[i]? = some y → wr.cell? ⟨b, off + i, none⟩ = some (.string y)) := Lib.hid fun i y hy => by
    have := hcell i y hy 0 (.string y) rfl
    rw [show off + i * St.eS.k + 0 = off + i by simp [St.eS]] at this
    exact this
   have c0 := HCE.out j x hx
   clear hcell
   have HX := Lib.hid hx
   obtain ⟨y, hlk, hy⟩ := FMap.kind (HM5.out.keep hB) HU.out (HHZ.out x (List.mem_of_getElem? hx))
   have hyk : y.kind = St.kindOf s.files x := by rw [hy, St.filD_kind]
   have hfk := fldKind y.dig y.frm y.size y.kind
   have HDF : Hid (St.heldE s.files (s.held.take j) x = if y.kind = 1 then (match (s.held.take j).getLast? with | some p => (if St.le x p = true then 5 else 0) | none => 0) else 7) := Lib.hid (by rw [hyk]; rfl)
   have n5 := HC5.out _ hBW
   have hj0 : (0 : Int) ≤ (j : Int) := by omega
   have hj1 : (j : Int) < (n : Int) := by omega
   have HBW := Lib.hid hBW; have HBJ := Lib.hid hB
   clear hx hB hy hyk hBW
   rw [ha] at n5 ⊢
   by_cases hk1 : y.kind = 1
   ·have hkb : (y.kind != 1) = false := by simpa using hk1
    have HDG : Hid (St.heldE s.files (s.held.take j) x = (match (s.held.take j).getLast? with | some p => (if St.le x p = true then 5 else 0) | none => 0)) := Lib.hid (by rw [HDF.out, if_pos hk1])
    clear hk1
    go_upto_region 7 with fail
    rcases Nat.eq_zero_or_pos j with rfl | hjp
    ·have HBD : Hid (St.heldE s.files (s.held.take 0) x = 0) := Lib.hid (by rw [HDG.out, St.last_zero])
     have HE := Lib.hid (St.scan_next HS.out HX.out HBD.out)
     go_wp2_with fail
     rw [← ha]
     go_roundg (n - (0 + 1))
     case rel => exact ⟨0 + 1, by omega, rfl, by go_num, HE.out, HBJ.out⟩
     case measure => omega
    ·obtain ⟨p, hp, hlast⟩ := St.last_at (L := s.held) (by rw [HN.out]; exact hlt) hjp
     obtain ⟨i, rfl⟩ : ∃ i, j = i + 1 := ⟨j - 1, by omega⟩
     rw [Nat.add_sub_cancel] at hp
     have p0 := HCE.out i p hp
     obtain ⟨bl, hbq⟩ : ∃ bl, (Op.bytesLess x.toList p.toList || x.toList == p.toList) = bl := ⟨_, rfl⟩
     have HBQ : Hid (St.le x p = bl) := Lib.hid hbq
     have HDZ : Hid (St.heldE s.files (s.held.take (i + 1)) x = if bl = true then 5 else 0) := Lib.hid (by rw [HDG.out, hlast, ← HBQ.out])
     clear hp hlast
     cases bl
     ·have HBD : Hid (St.heldE s.files (s.held.take (i + 1)) x = 0) := Lib.hid (by rw [HDZ.out]; rfl)
      have HE := Lib.hid (St.scan_next HS.out HX.out HBD.out)
      go_wp2_with fail
      rw [← ha]
      go_roundg (n - (i + 1 + 1))
      case rel => exact ⟨i + 1 + 1, by omega, rfl, by go_num, HE.out, HBJ.out⟩
      case measure => omega
     ·have HBD : Hid (St.heldE s.files (s.held.take (i + 1)) x = 5) := Lib.hid (by rw [HDZ.out]; rfl)
      have HE := Lib.hid (St.scan_here HS.out HX.out (by rw [HBD.out]; decide))
      go_wp2_with fail
      go_ret
      exact ⟨ret_int (by rw [HF.out, HE.out, HBD.out]; rfl), HBR.out⟩
   ·have hkb : (y.kind != 1) = true := by simpa using hk1
    have HBD : Hid (St.heldE s.files (s.held.take j) x = 7) := Lib.hid (by rw [HDF.out, if_neg hk1])
    have HE := Lib.hid (St.scan_here HS.out HX.out (by rw [HBD.out]; decide))
    go_wp2_with fail
    go_ret
    exact ⟨ret_int (by rw [HF.out, HE.out, HBD.out]; rfl), HBR.out⟩
  ·obtain rfl : j = n := by omega
   have HE := HS.out
   rw [← HN.out] at HE
   have hq0 := St.scan_done HE
   have HF2 : Hid (St.keptE s = qb) := Lib.hid (by rw [HF.out, if_pos hq0])
   have HHS := Lib.hid (HHT.out hq0)
   clear HE hq0
   obtain ⟨m0, m1, m2, m3, m4, m5, m6⟩ := HCL.out _ hBW
   have HBK := Lib.hid hB
   clear hBW hB HHT
   go_wp2_with fail
   clear m0 m1 m2 m3 m4 m5 m6
   go_loopg [39] nt (fun gk i wq => ∃ k : Nat, k ≤ nt ∧ gk = nt - k ∧ i = .int .i64 k ∧ St.scan (St.binE s.files s.held) (s.bin.take k) (s.bin.drop k) = qb ∧ Below w5.heap.size w5 wq)
   case atStart => exact ⟨0, by omega, rfl, rfl, HQ2.out, HBK.out⟩
   case round =>
    obtain ⟨k, hk, rfl, rfl, hs, hB⟩ := hrel
    have HS2 := Lib.hid hs; clear hs
    have HBQ := Lib.hid (below_up HB5.out hB)
    have hBWq := below_up HBW5.out hB
    by_cases hlt2 : k < nt
    ·obtain ⟨x, hx⟩ : ∃ x, s.bin[k]? = some x := ⟨_, List.getElem?_eq_getElem (by rw [HNT.out]; exact hlt2)⟩
     obtain ⟨b, off, ha, hb, hcell⟩ := (HI1.out.keep hBWq).bi (by rw [HNT.out]; omega)
     have c0 : wr.cell? ⟨b, off + k * 2, none⟩ = some (.string x.dig) := hcell k x hx 0 (.string x.dig) rfl
     have c1 : wr.cell? ⟨b, off + k * 2 + 1, none⟩ = some (.int .i64 x.day) := hcell k x hx 1 (.int .i64 x.day) rfl
     clear hcell
     have HX := Lib.hid hx
     obtain ⟨W3, hW3, hX3, hz3, hB3⟩ := box wr #[.string x.dig, .int .i64 x.day] 72
     have HW3 := Lib.hid hW3
     have HD : Hid (∀ W, Below W3.heap.size W3 W → W.cell? ⟨wr.heap.size, 0, none⟩ = some (.string x.dig) ∧ W.cell? ⟨wr.heap.size, 1, none⟩ = some (.int .i64 x.day)) := Lib.hid fun W hb =>
      have k := hX3.keep hb
      ⟨(k.cell 0).trans rfl, (k.cell 1).trans rfl⟩
     obtain ⟨d0, d1⟩ := HD.out _ (Below.refl _ _)
     obtain ⟨y, hlk, hy⟩ := FMap.kind ((HM5.out.keep hB).keep hB3) HU.out (HBZ.out x (List.mem_of_getElem? hx))
     have hyk : y.kind = St.kindOf s.files x.dig := by rw [hy, St.filD_kind]
     have hfk := fldKind y.dig y.frm y.size y.kind
     have HDF : Hid (St.binE s.files s.held (s.bin.take k) x = if y.kind = 1 then (match (s.bin.take k).getLast? with | some p => (if St.le x.dig p.dig = true then 5 else St.binR s.held x) | none => St.binR s.held x) else 7) := Lib.hid (by rw [hyk]; rfl)
     have HAL6 := Lib.hid (below_up HBQ.out hB3)
     have HAQ6 := Lib.hid (below_up hB hB3)
     have HAW6 := Lib.hid (below_up hBWq hB3)
     obtain ⟨m0, m1, m2, m3, m4, m5, m6⟩ := HCL.out _ HAW6.out
     have hj0 : (0 : Int) ≤ (k : Int) := by omega
     have hj1 : (k : Int) < (nt : Int) := by omega
     have HPV : Hid (∀ W, Below W1.heap.size W1 W → ∀ (i : Nat) (y : Gon), s.bin[i]? = some y → W.cell? ⟨b, off + i * 2, none⟩ = some (.string y.dig)) := Lib.hid fun W hb i y hy => by
      obtain ⟨b2, off2, ha2, hb2, hc2⟩ := (HI1.out.keep hb).bi (by rw [HNT.out]; omega)
      rw [ha] at ha2; cases ha2
      exact hc2 i y hy 0 _ rfl
     clear hx hB hX3 hz3 hB3 hW3 hBWq hy hyk
     rw [ha] at m6 HHD HCL ⊢
     by_cases hk1 : y.kind = 1
     ·have hkb : (y.kind != 1) = false := by simpa using hk1
      have HDG : Hid (St.binE s.files s.held (s.bin.take k) x = (match (s.bin.take k).getLast? with | some p => (if St.le x.dig p.dig = true then 5 else St.binR s.held x) | none => St.binR s.held x)) := Lib.hid (by rw [HDF.out, if_pos hk1])
      have HB36 := Lib.hid (Below.refl W3.heap.size W3)
      obtain ⟨dy, hdy⟩ : ∃ dy, St.inB x.day 0 73048 = dy := ⟨_, rfl⟩
      have HDY := Lib.hid hdy
      clear hk1 hdy
      go_upto_region 13 with fail
      rw [HW3.out]
      go_upto_region 15 with fail
      have k0 := cell_regrown d0
      have k6 := cell_regrown m6
      clear c0 c1 m0 m1 m2 m3 m4 m5 m6 d0 d1 hlk
      rcases Nat.eq_zero_or_pos k with rfl | hjp
      ·have HDZ : Hid (St.binE s.files s.held (s.bin.take 0) x = St.binR s.held x) := Lib.hid (by rw [HDG.out, St.last_zero])
       refine wp_region_quiet_below (by kernel_rfl) (by kernel_rfl) ?_
       repeat (go_big_quiet_step ((fail)))
       refine wpQuiet_nil ?_
       intro _ hw'
       obtain ⟨⟨dq, osq⟩, hw''⟩ := hw'
       subst hw''
       have hBw7 := below_regrown W3 dq osq
       generalize grow (redrawn W3 dq) osq = w7 at *
       clear dq osq
       clear k0 k6
       obtain ⟨d0, d1⟩ := HD.out _ (below_up HB36.out hBw7)
       obtain ⟨m0, m1, m2, m3, m4, m5, m6⟩ := HCL.out _ (below_up HAW6.out hBw7)
       have HAW7 := Lib.hid (below_up HAW6.out hBw7)
       have HAL7 := Lib.hid (below_up HAL6.out hBw7)
       have HAQ7 := Lib.hid (below_up HAQ6.out hBw7)
       cases dy
       ·have HBD : Hid (St.binE s.files s.held (s.bin.take (0)) x = 2) := Lib.hid (by rw [HDZ.out]; unfold St.binR; rw [HDY.out]; rfl)
        have HE := Lib.hid (St.scan_here HS2.out HX.out (by rw [HBD.out]; decide))
        go_wp2_with (go_at_call 87; (with_reducible refine (HID.out _ _).mono ?_); rw [HDY.out]; rintro e w8 ⟨rfl, rfl⟩)
        go_ret
        exact ⟨ret_int (by rw [HF2.out, HE.out, HBD.out]), HAL7.out⟩
       ·have HH1 := Lib.hid (fun d os => Calls.regrown_of (w := w7) (d := d) (os := os) (HHD.out _))
        have HH2 := Lib.hid (fun d os => Calls.regrown_of (w := w7) (d := d) (os := os) (HHS.out x.dig _ (below_up HAW7.out (below_regrown w7 d os))))
        have k0 := cell_regrown m0
        have k1 := cell_regrown m1
        have k2 := cell_regrown m2
        have k3 := cell_regrown m3
        have k4 := cell_regrown m4
        have k5 := cell_regrown m5
        have k6 := cell_regrown m6
        have k7 := cell_regrown d0
        have k8 := cell_regrown d1
        obtain ⟨hh, hhh⟩ : ∃ hh, St.hasS s.held x.dig = hh := ⟨_, rfl⟩
        have HBR2 : Hid (St.binE s.files s.held (s.bin.take (0)) x = if hh = true then 6 else 0) := Lib.hid (by rw [HDZ.out]; unfold St.binR; rw [HDY.out, hhh]; rfl)
        rw [hhh] at HH2
        clear hhh
        go_upto_region 19 with (go_at_call 87; (with_reducible refine (HID.out _ _).mono ?_); rw [HDY.out]; rintro e w8 ⟨rfl, rfl⟩)
        refine wp_region_quiet_below (by kernel_rfl) (by kernel_rfl) ?_
        repeat (go_big_quiet_step ((first | (go_at_call 88; with_reducible exact HH1.out _ _) | (go_at_call 89; with_reducible exact HH2.out _ _))))
        refine wpQuiet_nil ?_
        intro _ hw'
        obtain ⟨⟨dq, osq⟩, hw''⟩ := hw'
        subst hw''
        have hBw9 := below_regrown w7 dq osq
        generalize grow (redrawn w7 dq) osq = w9 at *
        clear dq osq
        cases hh
        ·have HBD : Hid (St.binE s.files s.held (s.bin.take (0)) x = 0) := Lib.hid (by rw [HBR2.out]; rfl)
         have HE := Lib.hid (St.scan_next HS2.out HX.out HBD.out)
         go_wp2_with fail
         rw [← ha]
         go_roundg (nt - (0 + 1))
         case rel => exact ⟨0 + 1, by omega, rfl, by go_num, HE.out, below_up HAQ7.out hBw9⟩
         case measure => omega
        ·have HBD : Hid (St.binE s.files s.held (s.bin.take (0)) x = 6) := Lib.hid (by rw [HBR2.out]; rfl)
         have HE := Lib.hid (St.scan_here HS2.out HX.out (by rw [HBD.out]; decide))
         go_wp2_with fail
         go_ret
         exact ⟨ret_int (by rw [HF2.out, HE.out, HBD.out]), below_up HAL7.out hBw9⟩
      ·obtain ⟨p, hp, hlast⟩ := St.last_at (L := s.bin) (by rw [HNT.out]; exact hlt2) hjp
       obtain ⟨i, rfl⟩ : ∃ i, k = i + 1 := ⟨k - 1, by omega⟩
       rw [Nat.add_sub_cancel] at hp
       have k5 := cell_regrown (HPV.out _ HAW6.out i p hp)
       obtain ⟨bl, hbq⟩ : ∃ bl, (Op.bytesLess x.dig.toList p.dig.toList || x.dig.toList == p.dig.toList) = bl := ⟨_, rfl⟩
       have HBQ2 : Hid (St.le x.dig p.dig = bl) := Lib.hid hbq
       have HDP : Hid (St.binE s.files s.held (s.bin.take (i + 1)) x = if bl = true then 5 else St.binR s.held x) := Lib.hid (by rw [HDG.out, hlast, ← HBQ2.out])
       have HBC := Lib.hid hbq
       clear hp hlast hbq
       refine wp_region_quiet_below (by kernel_rfl) (by kernel_rfl) ?_
       repeat (go_big_quiet_step ((fail)))
       refine wpQuiet_nil ?_
       intro _ hw'
       obtain ⟨⟨dq, osq⟩, hw''⟩ := hw'
       subst hw''
       have hBw7 := below_regrown W3 dq osq
       generalize grow (redrawn W3 dq) osq = w7 at *
       clear dq osq
       clear k0 k5 k6
       cases bl
       ·have HDZ : Hid (St.binE s.files s.held (s.bin.take (i + 1)) x = St.binR s.held x) := Lib.hid (by rw [HDP.out]; rfl)
        simp only [HBC.out]
        obtain ⟨d0, d1⟩ := HD.out _ (below_up HB36.out hBw7)
        obtain ⟨m0, m1, m2, m3, m4, m5, m6⟩ := HCL.out _ (below_up HAW6.out hBw7)
        have HAW7 := Lib.hid (below_up HAW6.out hBw7)
        have HAL7 := Lib.hid (below_up HAL6.out hBw7)
        have HAQ7 := Lib.hid (below_up HAQ6.out hBw7)
        cases dy
        ·have HBD : Hid (St.binE s.files s.held (s.bin.take (i + 1)) x = 2) := Lib.hid (by rw [HDZ.out]; unfold St.binR; rw [HDY.out]; rfl)
         have HE := Lib.hid (St.scan_here HS2.out HX.out (by rw [HBD.out]; decide))
         go_wp2_with (go_at_call 87; (with_reducible refine (HID.out _ _).mono ?_); rw [HDY.out]; rintro e w8 ⟨rfl, rfl⟩)
         go_ret
         exact ⟨ret_int (by rw [HF2.out, HE.out, HBD.out]), HAL7.out⟩
        ·have HH1 := Lib.hid (fun d os => Calls.regrown_of (w := w7) (d := d) (os := os) (HHD.out _))
         have HH2 := Lib.hid (fun d os => Calls.regrown_of (w := w7) (d := d) (os := os) (HHS.out x.dig _ (below_up HAW7.out (below_regrown w7 d os))))
         have k0 := cell_regrown m0
         have k1 := cell_regrown m1
         have k2 := cell_regrown m2
         have k3 := cell_regrown m3
         have k4 := cell_regrown m4
         have k5 := cell_regrown m5
         have k6 := cell_regrown m6
         have k7 := cell_regrown d0
         have k8 := cell_regrown d1
         obtain ⟨hh, hhh⟩ : ∃ hh, St.hasS s.held x.dig = hh := ⟨_, rfl⟩
         have HBR2 : Hid (St.binE s.files s.held (s.bin.take (i + 1)) x = if hh = true then 6 else 0) := Lib.hid (by rw [HDZ.out]; unfold St.binR; rw [HDY.out, hhh]; rfl)
         rw [hhh] at HH2
         clear hhh
         go_upto_region 19 with (go_at_call 87; (with_reducible refine (HID.out _ _).mono ?_); rw [HDY.out]; rintro e w8 ⟨rfl, rfl⟩)
         refine wp_region_quiet_below (by kernel_rfl) (by kernel_rfl) ?_
         repeat (go_big_quiet_step ((first | (go_at_call 88; with_reducible exact HH1.out _ _) | (go_at_call 89; with_reducible exact HH2.out _ _))))
         refine wpQuiet_nil ?_
         intro _ hw'
         obtain ⟨⟨dq, osq⟩, hw''⟩ := hw'
         subst hw''
         have hBw9 := below_regrown w7 dq osq
         generalize grow (redrawn w7 dq) osq = w9 at *
         clear dq osq
         cases hh
         ·have HBD : Hid (St.binE s.files s.held (s.bin.take (i + 1)) x = 0) := Lib.hid (by rw [HBR2.out]; rfl)
          have HE := Lib.hid (St.scan_next HS2.out HX.out HBD.out)
          go_wp2_with fail
          rw [← ha]
          go_roundg (nt - (i + 1 + 1))
          case rel => exact ⟨i + 1 + 1, by omega, rfl, by go_num, HE.out, below_up HAQ7.out hBw9⟩
          case measure => omega
         ·have HBD : Hid (St.binE s.files s.held (s.bin.take (i + 1)) x = 6) := Lib.hid (by rw [HBR2.out]; rfl)
          have HE := Lib.hid (St.scan_here HS2.out HX.out (by rw [HBD.out]; decide))
          go_wp2_with fail
          go_ret
          exact ⟨ret_int (by rw [HF2.out, HE.out, HBD.out]), below_up HAL7.out hBw9⟩
       ·have HBD : Hid (St.binE s.files s.held (s.bin.take (i + 1)) x = 5) := Lib.hid (by rw [HDP.out]; rfl)
        have HE := Lib.hid (St.scan_here HS2.out HX.out (by rw [HBD.out]; decide))
        simp only [HBC.out]
        go_wp2_with fail
        go_ret
        exact ⟨ret_int (by rw [HF2.out, HE.out, HBD.out]), below_up HAL6.out hBw7⟩
     ·have hkb : (y.kind != 1) = true := by simpa using hk1
      have HBD : Hid (St.binE s.files s.held (s.bin.take k) x = 7) := Lib.hid (by rw [HDF.out, if_neg hk1])
      have HE := Lib.hid (St.scan_here HS2.out HX.out (by rw [HBD.out]; decide))
      go_upto_region 13 with fail
      rw [HW3.out]
      go_wp2_with fail
      go_ret
      exact ⟨ret_int (by rw [HF2.out, HE.out, HBD.out]), HAL6.out⟩
    ·obtain rfl : k = nt := by omega
     have HE := HS2.out
     rw [← HNT.out] at HE
     have HE2 := Lib.hid (St.scan_done HE)
     clear HE
     go_wp2_with fail
     go_ret
     exact ⟨ret_int (by rw [HF2.out, HE2.out]), HBQ.out⟩
theorem enters_ck0 : ∀ args w, (callFunc 40 args).run Tryz.prog w = .ok (.enter 40 args) w := enters_of Tryz.func40 (by kernel_rfl) rfl
theorem enters_ck1 : ∀ args w, (callFunc 41 args).run Tryz.prog w = .ok (.enter 41 args) w := enters_of Tryz.func41 (by kernel_rfl) rfl
theorem enters_ck2 : ∀ args w, (callFunc 42 args).run Tryz.prog w = .ok (.enter 42 args) w := enters_of Tryz.func42 (by kernel_rfl) rfl
theorem enters_ck3 : ∀ args w, (callFunc 43 args).run Tryz.prog w = .ok (.enter 43 args) w := enters_of Tryz.func43 (by kernel_rfl) rfl
theorem enters_ck4 : ∀ args w, (callFunc 44 args).run Tryz.prog w = .ok (.enter 44 args) w := enters_of Tryz.func44 (by kernel_rfl) rfl
theorem check_is (s : Sto) (a : StA) (w : World) (hI : StIn w s a) :
  Calls Tryz.prog 17 #[.agg #[.int .i64 s.least, .int .i64 s.wait, .slice a.ta s.tiers.length a.tc, .slice a.fa s.files.length a.fc, .slice a.ca s.copies.length a.cc, .slice a.ha s.held.length a.hc, .slice a.ba s.bin.length a.bc]] w fun e w' => e = .returned (.int .i64 (St.err s)) ∧ Below w.heap.size w w' := by
 obtain ⟨W1, hW1, hP, hz1, hB1⟩ := box w #[.int .i64 s.least, .int .i64 s.wait, .slice a.ta s.tiers.length a.tc, .slice a.fa s.files.length a.fc, .slice a.ca s.copies.length a.cc, .slice a.ha s.held.length a.hc, .slice a.ba s.bin.length a.bc] 28
 have HW1 := Lib.hid hW1
 have HI1 := Lib.hid (hI.keep hB1)
 have q0 : W1.cell? ⟨w.heap.size, 0, none⟩ = some (.int .i64 s.least) := (hP.cell 0).trans rfl
 have q1 : W1.cell? ⟨w.heap.size, 1, none⟩ = some (.int .i64 s.wait) := (hP.cell 1).trans rfl
 have q2 : W1.cell? ⟨w.heap.size, 2, none⟩ = some (.slice a.ta s.tiers.length a.tc) := (hP.cell 2).trans rfl
 have q3 : W1.cell? ⟨w.heap.size, 3, none⟩ = some (.slice a.fa s.files.length a.fc) := (hP.cell 3).trans rfl
 have q4 : W1.cell? ⟨w.heap.size, 4, none⟩ = some (.slice a.ca s.copies.length a.cc) := (hP.cell 4).trans rfl
 have q5 : W1.cell? ⟨w.heap.size, 5, none⟩ = some (.slice a.ha s.held.length a.hc) := (hP.cell 5).trans rfl
 have q6 : W1.cell? ⟨w.heap.size, 6, none⟩ = some (.slice a.ba s.bin.length a.bc) := (hP.cell 6).trans rfl
 have HP := Lib.hid hP; have HB1 := Lib.hid hB1
 clear hW1 hP
 obtain ⟨W2, hW2, hX2, hz2, hB2⟩ := box W1 #[.func (.func 40) #[] #[], .func (.func 41) #[] #[], .func (.func 42) #[] #[], .func (.func 43) #[] #[], .func (.func 44) #[] #[]] 50
 have HW2 := Lib.hid hW2; have HX2 := Lib.hid hX2
 have HBB := Lib.hid (below_up HB1.out hB2)
 have HB2 := Lib.hid hB2
 have HI := Lib.hid hI
 obtain ⟨e0, h0⟩ : ∃ e0, St.sizesE s = e0 := ⟨_, rfl⟩
 obtain ⟨e1, h1⟩ : ∃ e1, St.scan St.tierE [] s.tiers = e1 := ⟨_, rfl⟩
 obtain ⟨e2, h2⟩ : ∃ e2, St.filesE s.files = e2 := ⟨_, rfl⟩
 obtain ⟨e3, h3⟩ : ∃ e3, St.copiesE s = e3 := ⟨_, rfl⟩
 obtain ⟨e4, h4⟩ : ∃ e4, St.keptE s = e4 := ⟨_, rfl⟩
 have HF : Hid (St.err s = if e0 = 0 then (if e1 = 0 then (if e2 = 0 then (if e3 = 0 then e4 else e3) else e2) else e1) else e0) := Lib.hid (by unfold St.err; rw [h0, h1, h2, h3, h4])
 have HC0 := Lib.hid (fun W (hb : Below w.heap.size w W) => checkSizes_is s a W (HI.out.keep hb))
 have HC1 := Lib.hid (fun W (hb : Below w.heap.size w W) => checkTiers_is s a W (HI.out.keep hb))
 have HC2 := Lib.hid (fun (g0 : e0 = 0) W (hb : Below w.heap.size w W) => checkFiles_is s a W (HI.out.keep hb) (St.sizes_iff.1 (h0.trans g0)).2.2.1)
 have HC3 := Lib.hid (fun (g0 : e0 = 0) (g1 : e1 = 0) (g2 : e2 = 0) W (hb : Below w.heap.size w W) => checkCopies_is s a W (HI.out.keep hb) (h0.trans g0) (h1.trans g1) (h2.trans g2))
 have HC4 := Lib.hid (fun (g0 : e0 = 0) (g2 : e2 = 0) W (hb : Below w.heap.size w W) => checkNeeded_is s a W (HI.out.keep hb) (h0.trans g0) (St.files_ok (h2.trans g2)).2.1)
 rw [h0] at HC0; rw [h1] at HC1; rw [h2] at HC2; rw [h3] at HC3; rw [h4] at HC4
 have HCL := Lib.hid (fun W (hb : Below W2.heap.size W2 W) => HP.out.keep (below_up HB2.out hb))
 have eg0 := enters_ck0; have eg1 := enters_ck1; have eg2 := enters_ck2; have eg3 := enters_ck3; have eg4 := enters_ck4
 clear h0 h1 h2 h3 h4 hI hB2 hW2 hX2 hz2 q0 q1 q2 q3 q4 q5 q6
 go_enter Tryz.func17, Tryz.ntmps17
 go_wp2_with fail
 rw [HW1.out, HW2.out]
 go_loopg [8] 5 (fun gk i wr => ∃ j : Nat, j ≤ 5 ∧ gk = 5 - j ∧ i = .int .i64 j ∧ (1 ≤ j → e0 = 0) ∧ (2 ≤ j → e1 = 0) ∧ (3 ≤ j → e2 = 0) ∧ (4 ≤ j → e3 = 0) ∧ (5 ≤ j → e4 = 0) ∧ Below W2.heap.size W2 wr)
 case atStart => exact ⟨0, by omega, rfl, rfl, fun h => by omega, fun h => by omega, fun h => by omega, fun h => by omega, fun h => by omega, Below.refl _ _⟩
 case round =>
  obtain ⟨j, hj, rfl, rfl, r1, r2, r3, r4, r5, hB⟩ := hrel
  have R1 := Lib.hid r1; have R2 := Lib.hid r2; have R3 := Lib.hid r3; have R4 := Lib.hid r4; have R5 := Lib.hid r5
  have hk := HX2.out.keep hB
  rw [hz1] at hk
  have f0 : wr.cell? ⟨w.heap.size + 1, 0, none⟩ = some (.func (.func 40) #[] #[]) := (hk.cell 0).trans rfl
  have f1 : wr.cell? ⟨w.heap.size + 1, 1, none⟩ = some (.func (.func 41) #[] #[]) := (hk.cell 1).trans rfl
  have f2 : wr.cell? ⟨w.heap.size + 1, 2, none⟩ = some (.func (.func 42) #[] #[]) := (hk.cell 2).trans rfl
  have f3 : wr.cell? ⟨w.heap.size + 1, 3, none⟩ = some (.func (.func 43) #[] #[]) := (hk.cell 3).trans rfl
  have f4 : wr.cell? ⟨w.heap.size + 1, 4, none⟩ = some (.func (.func 44) #[] #[]) := (hk.cell 4).trans rfl
  have k := HCL.out _ hB
  have m0 : wr.cell? ⟨w.heap.size, 0, none⟩ = some (.int .i64 s.least) := (k.cell 0).trans rfl
  have m1 : wr.cell? ⟨w.heap.size, 1, none⟩ = some (.int .i64 s.wait) := (k.cell 1).trans rfl
  have m2 : wr.cell? ⟨w.heap.size, 2, none⟩ = some (.slice a.ta s.tiers.length a.tc) := (k.cell 2).trans rfl
  have m3 : wr.cell? ⟨w.heap.size, 3, none⟩ = some (.slice a.fa s.files.length a.fc) := (k.cell 3).trans rfl
  have m4 : wr.cell? ⟨w.heap.size, 4, none⟩ = some (.slice a.ca s.copies.length a.cc) := (k.cell 4).trans rfl
  have m5 : wr.cell? ⟨w.heap.size, 5, none⟩ = some (.slice a.ha s.held.length a.hc) := (k.cell 5).trans rfl
  have m6 : wr.cell? ⟨w.heap.size, 6, none⟩ = some (.slice a.ba s.bin.length a.bc) := (k.cell 6).trans rfl
  have HBC := Lib.hid (below_up HBB.out hB)
  have HBR := Lib.hid hB
  clear r1 r2 r3 r4 r5 hk k hB
  have hj4 : j = 0 ∨ j = 1 ∨ j = 2 ∨ j = 3 ∨ j = 4 ∨ j = 5 := by omega
  rcases hj4 with rfl | rfl | rfl | rfl | rfl | rfl
  ·-- checkSizes: the check; HC0.out: its contract; e0: its answer; 1: the next place
   have HCC := Lib.hid (HC0.out)
   by_cases h0 : e0 = 0
   ·have HZ := Lib.hid h0
    have hzb : (e0 != 0) = false := by simpa using h0
    clear h0
    go_wp2_with (go_at_fn 40; (with_reducible refine (HCC.out _ HBC.out).mono ?_); rintro e w5 ⟨rfl, hB5⟩)
    go_roundg (5 - 1)
    case rel => exact ⟨1, by omega, rfl, by go_num, fun hh => by first | omega | exact HZ.out | exact R1.out (by omega) | exact R2.out (by omega) | exact R3.out (by omega) | exact R4.out (by omega) | exact R5.out (by omega), fun hh => by first | omega | exact HZ.out | exact R1.out (by omega) | exact R2.out (by omega) | exact R3.out (by omega) | exact R4.out (by omega) | exact R5.out (by omega), fun hh => by first | omega | exact HZ.out | exact R1.out (by omega) | exact R2.out (by omega) | exact R3.out (by omega) | exact R4.out (by omega) | exact R5.out (by omega), fun hh => by first | omega | exact HZ.out | exact R1.out (by omega) | exact R2.out (by omega) | exact R3.out (by omega) | exact R4.out (by omega) | exact R5.out (by omega), fun hh => by first | omega | exact HZ.out | exact R1.out (by omega) | exact R2.out (by omega) | exact R3.out (by omega) | exact R4.out (by omega) | exact R5.out (by omega), below_up HBR.out hB5⟩
    case measure => omega
   ·have HZ := Lib.hid h0
    have hzb : (e0 != 0) = true := by simpa using h0
    clear h0
    go_wp2_with (go_at_fn 40; (with_reducible refine (HCC.out _ HBC.out).mono ?_); rintro e w5 ⟨rfl, hB5⟩)
    go_ret
    exact ⟨ret_int (by have z := HZ.out; rw [HF.out]; rw [if_neg z]), below_up HBC.out hB5⟩
  ·-- checkTiers: the check; HC1.out: its contract; e1: its answer; 2: the next place
   have HCC := Lib.hid (HC1.out)
   by_cases h0 : e1 = 0
   ·have HZ := Lib.hid h0
    have hzb : (e1 != 0) = false := by simpa using h0
    clear h0
    go_wp2_with (go_at_fn 41; (with_reducible refine (HCC.out _ HBC.out).mono ?_); rintro e w5 ⟨rfl, hB5⟩)
    go_roundg (5 - 2)
    case rel => exact ⟨2, by omega, rfl, by go_num, fun hh => by first | omega | exact HZ.out | exact R1.out (by omega) | exact R2.out (by omega) | exact R3.out (by omega) | exact R4.out (by omega) | exact R5.out (by omega), fun hh => by first | omega | exact HZ.out | exact R1.out (by omega) | exact R2.out (by omega) | exact R3.out (by omega) | exact R4.out (by omega) | exact R5.out (by omega), fun hh => by first | omega | exact HZ.out | exact R1.out (by omega) | exact R2.out (by omega) | exact R3.out (by omega) | exact R4.out (by omega) | exact R5.out (by omega), fun hh => by first | omega | exact HZ.out | exact R1.out (by omega) | exact R2.out (by omega) | exact R3.out (by omega) | exact R4.out (by omega) | exact R5.out (by omega), fun hh => by first | omega | exact HZ.out | exact R1.out (by omega) | exact R2.out (by omega) | exact R3.out (by omega) | exact R4.out (by omega) | exact R5.out (by omega), below_up HBR.out hB5⟩
    case measure => omega
   ·have HZ := Lib.hid h0
    have hzb : (e1 != 0) = true := by simpa using h0
    clear h0
    go_wp2_with (go_at_fn 41; (with_reducible refine (HCC.out _ HBC.out).mono ?_); rintro e w5 ⟨rfl, hB5⟩)
    go_ret
    exact ⟨ret_int (by have z := HZ.out; rw [HF.out]; rw [if_pos (R1.out (by omega)), if_neg z]), below_up HBC.out hB5⟩
  ·-- checkFiles: the check; HC2.out (R1.out (by omega)): its contract; e2: its answer; 3: the next place
   have HCC := Lib.hid (HC2.out (R1.out (by omega)))
   by_cases h0 : e2 = 0
   ·have HZ := Lib.hid h0
    have hzb : (e2 != 0) = false := by simpa using h0
    clear h0
    go_wp2_with (go_at_fn 42; (with_reducible refine (HCC.out _ HBC.out).mono ?_); rintro e w5 ⟨rfl, hB5⟩)
    go_roundg (5 - 3)
    case rel => exact ⟨3, by omega, rfl, by go_num, fun hh => by first | omega | exact HZ.out | exact R1.out (by omega) | exact R2.out (by omega) | exact R3.out (by omega) | exact R4.out (by omega) | exact R5.out (by omega), fun hh => by first | omega | exact HZ.out | exact R1.out (by omega) | exact R2.out (by omega) | exact R3.out (by omega) | exact R4.out (by omega) | exact R5.out (by omega), fun hh => by first | omega | exact HZ.out | exact R1.out (by omega) | exact R2.out (by omega) | exact R3.out (by omega) | exact R4.out (by omega) | exact R5.out (by omega), fun hh => by first | omega | exact HZ.out | exact R1.out (by omega) | exact R2.out (by omega) | exact R3.out (by omega) | exact R4.out (by omega) | exact R5.out (by omega), fun hh => by first | omega | exact HZ.out | exact R1.out (by omega) | exact R2.out (by omega) | exact R3.out (by omega) | exact R4.out (by omega) | exact R5.out (by omega), below_up HBR.out hB5⟩
    case measure => omega
   ·have HZ := Lib.hid h0
    have hzb : (e2 != 0) = true := by simpa using h0
    clear h0
    go_wp2_with (go_at_fn 42; (with_reducible refine (HCC.out _ HBC.out).mono ?_); rintro e w5 ⟨rfl, hB5⟩)
    go_ret
    exact ⟨ret_int (by have z := HZ.out; rw [HF.out]; rw [if_pos (R1.out (by omega)), if_pos (R2.out (by omega)), if_neg z]), below_up HBC.out hB5⟩
  ·-- checkCopies: the check; HC3.out (R1.out (by omega)) (R2.out (by omega)) (R3.out (by omega)): its contract; e3: its answer; 4: the next place
   have HCC := Lib.hid (HC3.out (R1.out (by omega)) (R2.out (by omega)) (R3.out (by omega)))
   by_cases h0 : e3 = 0
   ·have HZ := Lib.hid h0
    have hzb : (e3 != 0) = false := by simpa using h0
    clear h0
    go_wp2_with (go_at_fn 43; (with_reducible refine (HCC.out _ HBC.out).mono ?_); rintro e w5 ⟨rfl, hB5⟩)
    go_roundg (5 - 4)
    case rel => exact ⟨4, by omega, rfl, by go_num, fun hh => by first | omega | exact HZ.out | exact R1.out (by omega) | exact R2.out (by omega) | exact R3.out (by omega) | exact R4.out (by omega) | exact R5.out (by omega), fun hh => by first | omega | exact HZ.out | exact R1.out (by omega) | exact R2.out (by omega) | exact R3.out (by omega) | exact R4.out (by omega) | exact R5.out (by omega), fun hh => by first | omega | exact HZ.out | exact R1.out (by omega) | exact R2.out (by omega) | exact R3.out (by omega) | exact R4.out (by omega) | exact R5.out (by omega), fun hh => by first | omega | exact HZ.out | exact R1.out (by omega) | exact R2.out (by omega) | exact R3.out (by omega) | exact R4.out (by omega) | exact R5.out (by omega), fun hh => by first | omega | exact HZ.out | exact R1.out (by omega) | exact R2.out (by omega) | exact R3.out (by omega) | exact R4.out (by omega) | exact R5.out (by omega), below_up HBR.out hB5⟩
    case measure => omega
   ·have HZ := Lib.hid h0
    have hzb : (e3 != 0) = true := by simpa using h0
    clear h0
    go_wp2_with (go_at_fn 43; (with_reducible refine (HCC.out _ HBC.out).mono ?_); rintro e w5 ⟨rfl, hB5⟩)
    go_ret
    exact ⟨ret_int (by have z := HZ.out; rw [HF.out]; rw [if_pos (R1.out (by omega)), if_pos (R2.out (by omega)), if_pos (R3.out (by omega)), if_neg z]), below_up HBC.out hB5⟩
  ·-- checkNeeded: the check; HC4.out (R1.out (by omega)) (R3.out (by omega)): its contract; e4: its answer; 5: the next place
   have HCC := Lib.hid (HC4.out (R1.out (by omega)) (R3.out (by omega)))
   by_cases h0 : e4 = 0
   ·have HZ := Lib.hid h0
    have hzb : (e4 != 0) = false := by simpa using h0
    clear h0
    go_wp2_with (go_at_fn 44; (with_reducible refine (HCC.out _ HBC.out).mono ?_); rintro e w5 ⟨rfl, hB5⟩)
    go_roundg (5 - 5)
    case rel => exact ⟨5, by omega, rfl, by go_num, fun hh => by first | omega | exact HZ.out | exact R1.out (by omega) | exact R2.out (by omega) | exact R3.out (by omega) | exact R4.out (by omega) | exact R5.out (by omega), fun hh => by first | omega | exact HZ.out | exact R1.out (by omega) | exact R2.out (by omega) | exact R3.out (by omega) | exact R4.out (by omega) | exact R5.out (by omega), fun hh => by first | omega | exact HZ.out | exact R1.out (by omega) | exact R2.out (by omega) | exact R3.out (by omega) | exact R4.out (by omega) | exact R5.out (by omega), fun hh => by first | omega | exact HZ.out | exact R1.out (by omega) | exact R2.out (by omega) | exact R3.out (by omega) | exact R4.out (by omega) | exact R5.out (by omega), fun hh => by first | omega | exact HZ.out | exact R1.out (by omega) | exact R2.out (by omega) | exact R3.out (by omega) | exact R4.out (by omega) | exact R5.out (by omega), below_up HBR.out hB5⟩
    case measure => omega
   ·have HZ := Lib.hid h0
    have hzb : (e4 != 0) = true := by simpa using h0
    clear h0
    go_wp2_with (go_at_fn 44; (with_reducible refine (HCC.out _ HBC.out).mono ?_); rintro e w5 ⟨rfl, hB5⟩)
    go_ret
    exact ⟨ret_int (by have z := HZ.out; rw [HF.out]; rw [if_pos (R1.out (by omega)), if_pos (R2.out (by omega)), if_pos (R3.out (by omega)), if_pos (R4.out (by omega))]), below_up HBC.out hB5⟩
  ·have g0 := R1.out (by omega)
   have g1 := R2.out (by omega)
   have g2 := R3.out (by omega)
   have g3 := R4.out (by omega)
   have g4 := R5.out (by omega)
   have HE : Hid (St.err s = 0) := Lib.hid (by rw [HF.out, if_pos g0, if_pos g1, if_pos g2, if_pos g3, g4])
   clear g0 g1 g2 g3 g4
   go_wp2_with fail
   go_ret
   exact ⟨ret_int HE.out.symm, HBC.out⟩

theorem neTir (n : ByteArray) (r c : Int) (y : Bool) (w : World) : Sem.run Tryz.prog (binOp .neq 65 (.agg #[.string n, .int .i64 r, .int .i64 c, .bool y]) (.agg #[.string n, .int .i64 r, .int .i64 c, .bool y])) w = .ok (.bool false) w := by
 have u3 := Tryz.underlying3
 have a3 := Tryz.isAgg3
 have z3 := Tryz.sizeOf3
 have u9 := Tryz.underlying9
 have a9 := Tryz.isAgg9
 have z9 := Tryz.sizeOf9
 have u4 := Tryz.underlying4
 have a4 := Tryz.isAgg4
 have z4 := Tryz.sizeOf4
 have hS : Tryz.prog.underlying 65 = some (.struct (Tryz.prog.fieldsOf 65)) := by kernel_rfl
 have hp : Tryz.prog.stoodInHeld 65 = false := by kernel_rfl
 rw [run_neq_struct, show (10000 : Nat) = 9999 + 1 from rfl, run_equalIn_agg w 9999 65 _ _ hS hp]
 simp only [Program.fieldsOf, Tryz.underlying65]
 go_simp
 try simp

theorem neFil (n : ByteArray) (r c : Int) (y : ByteArray) (w : World) : Sem.run Tryz.prog (binOp .neq 68 (.agg #[.string n, .int .i64 r, .int .i64 c, .string y]) (.agg #[.string n, .int .i64 r, .int .i64 c, .string y])) w = .ok (.bool false) w := by
 have u3 := Tryz.underlying3
 have a3 := Tryz.isAgg3
 have z3 := Tryz.sizeOf3
 have u9 := Tryz.underlying9
 have a9 := Tryz.isAgg9
 have z9 := Tryz.sizeOf9
 have u4 := Tryz.underlying4
 have a4 := Tryz.isAgg4
 have z4 := Tryz.sizeOf4
 have hS : Tryz.prog.underlying 68 = some (.struct (Tryz.prog.fieldsOf 68)) := by kernel_rfl
 have hp : Tryz.prog.stoodInHeld 68 = false := by kernel_rfl
 rw [run_neq_struct, show (10000 : Nat) = 9999 + 1 from rfl, run_equalIn_agg w 9999 68 _ _ hS hp]
 simp only [Program.fieldsOf, Tryz.underlying68]
 go_simp
 try simp

theorem neCop (n r : ByteArray) (c : Bool) (y : Int) (w : World) : Sem.run Tryz.prog (binOp .neq 70 (.agg #[.string n, .string r, .bool c, .int .i64 y]) (.agg #[.string n, .string r, .bool c, .int .i64 y])) w = .ok (.bool false) w := by
 have u3 := Tryz.underlying3
 have a3 := Tryz.isAgg3
 have z3 := Tryz.sizeOf3
 have u9 := Tryz.underlying9
 have a9 := Tryz.isAgg9
 have z9 := Tryz.sizeOf9
 have u4 := Tryz.underlying4
 have a4 := Tryz.isAgg4
 have z4 := Tryz.sizeOf4
 have hS : Tryz.prog.underlying 70 = some (.struct (Tryz.prog.fieldsOf 70)) := by kernel_rfl
 have hp : Tryz.prog.stoodInHeld 70 = false := by kernel_rfl
 rw [run_neq_struct, show (10000 : Nat) = 9999 + 1 from rfl, run_equalIn_agg w 9999 70 _ _ hS hp]
 simp only [Program.fieldsOf, Tryz.underlying70]
 go_simp
 try simp

theorem neGon (n : ByteArray) (c : Int) (w : World) : Sem.run Tryz.prog (binOp .neq 72 (.agg #[.string n, .int .i64 c]) (.agg #[.string n, .int .i64 c])) w = .ok (.bool false) w := by
 have u3 := Tryz.underlying3
 have a3 := Tryz.isAgg3
 have z3 := Tryz.sizeOf3
 have u9 := Tryz.underlying9
 have a9 := Tryz.isAgg9
 have z9 := Tryz.sizeOf9
 have u4 := Tryz.underlying4
 have a4 := Tryz.isAgg4
 have z4 := Tryz.sizeOf4
 have hS : Tryz.prog.underlying 72 = some (.struct (Tryz.prog.fieldsOf 72)) := by kernel_rfl
 have hp : Tryz.prog.stoodInHeld 72 = false := by kernel_rfl
 rw [run_neq_struct, show (10000 : Nat) = 9999 + 1 from rfl, run_equalIn_agg w 9999 72 _ _ hS hp]
 simp only [Program.fieldsOf, Tryz.underlying72]
 go_simp
 try simp
theorem guardTir : Tryz.prog.eqGuardType Tryz.prog.depth 65 = false := by kernel_rfl
theorem guardFil : Tryz.prog.eqGuardType Tryz.prog.depth 68 = false := by kernel_rfl
theorem guardCop : Tryz.prog.eqGuardType Tryz.prog.depth 70 = false := by kernel_rfl
theorem guardGon : Tryz.prog.eqGuardType Tryz.prog.depth 72 = false := by kernel_rfl
theorem eqT_same (O : List Tir) (a b : Option Addr) (ca cb : Nat) (w : World) (hx : RowE St.eT w a O) (hy : RowE St.eT w b O) (hn : O.length ≤ 9223372036854775807) :
  Calls Tryz.prog 30 #[.slice a O.length ca, .slice b O.length cb] w fun e w' => e = .returned (.bool true) ∧ Below w.heap.size w w' := by
 have HX := Lib.hid hx; have HY := Lib.hid hy
 obtain ⟨n, hnn⟩ : ∃ n, O.length = n := ⟨_, rfl⟩
 have HN := Lib.hid hnn
 rw [hnn] at hn ⊢
 have hl' : ((n : Int) == (n : Int)) = true := by simp
 clear hx hy hnn
 go_enter Tryz.func30, Tryz.ntmps30
 go_wp2_with fail
 go_loopg [13] n (fun gk i wr => ∃ j : Nat, j ≤ n ∧ gk = n - j ∧ i = .int .i64 j ∧ Below w.heap.size w wr)
 case atStart => exact ⟨0, by omega, rfl, rfl, Below.refl _ _⟩
 case round =>
  obtain ⟨j, hj, rfl, rfl, hB⟩ := hrel
  by_cases hlt : j < n
  ·obtain ⟨x, hq⟩ : ∃ x, O[j]? = some x := ⟨_, List.getElem?_eq_getElem (by rw [HN.out]; exact hlt)⟩
   obtain ⟨b1, o1, ha1, hb1, hc1⟩ := HX.out.keep hB (by rw [HN.out]; omega)
   obtain ⟨b2, o2, ha2, hb2, hc2⟩ := HY.out.keep hB (by rw [HN.out]; omega)
   have c0 : wr.cell? ⟨b1, o1 + j * 4, none⟩ = some (.string x.name) := hc1 j x hq 0 (.string x.name) rfl
   have c1 : wr.cell? ⟨b1, o1 + j * 4 + 1, none⟩ = some (.int .i64 x.room) := hc1 j x hq 1 (.int .i64 x.room) rfl
   have c2 : wr.cell? ⟨b1, o1 + j * 4 + 2, none⟩ = some (.int .i64 x.cost) := hc1 j x hq 2 (.int .i64 x.cost) rfl
   have c3 : wr.cell? ⟨b1, o1 + j * 4 + 3, none⟩ = some (.bool x.away) := hc1 j x hq 3 (.bool x.away) rfl
   have d0 : wr.cell? ⟨b2, o2 + j * 4, none⟩ = some (.string x.name) := hc2 j x hq 0 (.string x.name) rfl
   have d1 : wr.cell? ⟨b2, o2 + j * 4 + 1, none⟩ = some (.int .i64 x.room) := hc2 j x hq 1 (.int .i64 x.room) rfl
   have d2 : wr.cell? ⟨b2, o2 + j * 4 + 2, none⟩ = some (.int .i64 x.cost) := hc2 j x hq 2 (.int .i64 x.cost) rfl
   have d3 : wr.cell? ⟨b2, o2 + j * 4 + 3, none⟩ = some (.bool x.away) := hc2 j x hq 3 (.bool x.away) rfl
   have hj0 : (0 : Int) ≤ (j : Int) := by omega
   have hj1 : (j : Int) < (n : Int) := by omega
   have hne := neTir x.name x.room x.cost x.away
   have hgd := guardTir
   clear hc1 hc2 hq
   rw [ha1, ha2]
   go_wp2_with fail
   go_quiet (fail)
   go_wp2_with fail
   rw [← ha1, ← ha2]
   go_roundg (n - (j + 1))
   case rel => exact ⟨j + 1, by omega, rfl, by go_num, below_drewN hB _⟩
   case measure => omega
  ·obtain rfl : j = n := by omega
   have hjn : ¬ ((j : Int) < (j : Int)) := by omega
   go_wp2_with fail
   go_ret
   exact ⟨rfl, hB⟩
theorem eqF_same (O : List Fil) (a b : Option Addr) (ca cb : Nat) (w : World) (hx : RowE St.eF w a O) (hy : RowE St.eF w b O) (hn : O.length ≤ 9223372036854775807) :
  Calls Tryz.prog 31 #[.slice a O.length ca, .slice b O.length cb] w fun e w' => e = .returned (.bool true) ∧ Below w.heap.size w w' := by
 have HX := Lib.hid hx; have HY := Lib.hid hy
 obtain ⟨n, hnn⟩ : ∃ n, O.length = n := ⟨_, rfl⟩
 have HN := Lib.hid hnn
 rw [hnn] at hn ⊢
 have hl' : ((n : Int) == (n : Int)) = true := by simp
 clear hx hy hnn
 go_enter Tryz.func31, Tryz.ntmps31
 go_wp2_with fail
 go_loopg [13] n (fun gk i wr => ∃ j : Nat, j ≤ n ∧ gk = n - j ∧ i = .int .i64 j ∧ Below w.heap.size w wr)
 case atStart => exact ⟨0, by omega, rfl, rfl, Below.refl _ _⟩
 case round =>
  obtain ⟨j, hj, rfl, rfl, hB⟩ := hrel
  by_cases hlt : j < n
  ·obtain ⟨x, hq⟩ : ∃ x, O[j]? = some x := ⟨_, List.getElem?_eq_getElem (by rw [HN.out]; exact hlt)⟩
   obtain ⟨b1, o1, ha1, hb1, hc1⟩ := HX.out.keep hB (by rw [HN.out]; omega)
   obtain ⟨b2, o2, ha2, hb2, hc2⟩ := HY.out.keep hB (by rw [HN.out]; omega)
   have c0 : wr.cell? ⟨b1, o1 + j * 4, none⟩ = some (.string x.dig) := hc1 j x hq 0 (.string x.dig) rfl
   have c1 : wr.cell? ⟨b1, o1 + j * 4 + 1, none⟩ = some (.int .i64 x.size) := hc1 j x hq 1 (.int .i64 x.size) rfl
   have c2 : wr.cell? ⟨b1, o1 + j * 4 + 2, none⟩ = some (.int .i64 x.kind) := hc1 j x hq 2 (.int .i64 x.kind) rfl
   have c3 : wr.cell? ⟨b1, o1 + j * 4 + 3, none⟩ = some (.string x.frm) := hc1 j x hq 3 (.string x.frm) rfl
   have d0 : wr.cell? ⟨b2, o2 + j * 4, none⟩ = some (.string x.dig) := hc2 j x hq 0 (.string x.dig) rfl
   have d1 : wr.cell? ⟨b2, o2 + j * 4 + 1, none⟩ = some (.int .i64 x.size) := hc2 j x hq 1 (.int .i64 x.size) rfl
   have d2 : wr.cell? ⟨b2, o2 + j * 4 + 2, none⟩ = some (.int .i64 x.kind) := hc2 j x hq 2 (.int .i64 x.kind) rfl
   have d3 : wr.cell? ⟨b2, o2 + j * 4 + 3, none⟩ = some (.string x.frm) := hc2 j x hq 3 (.string x.frm) rfl
   have hj0 : (0 : Int) ≤ (j : Int) := by omega
   have hj1 : (j : Int) < (n : Int) := by omega
   have hne := neFil x.dig x.size x.kind x.frm
   have hgd := guardFil
   clear hc1 hc2 hq
   rw [ha1, ha2]
   go_wp2_with fail
   go_quiet (fail)
   go_wp2_with fail
   rw [← ha1, ← ha2]
   go_roundg (n - (j + 1))
   case rel => exact ⟨j + 1, by omega, rfl, by go_num, below_drewN hB _⟩
   case measure => omega
  ·obtain rfl : j = n := by omega
   have hjn : ¬ ((j : Int) < (j : Int)) := by omega
   go_wp2_with fail
   go_ret
   exact ⟨rfl, hB⟩
theorem eqC_same (O : List Cop) (a b : Option Addr) (ca cb : Nat) (w : World) (hx : RowE St.eC w a O) (hy : RowE St.eC w b O) (hn : O.length ≤ 9223372036854775807) :
  Calls Tryz.prog 32 #[.slice a O.length ca, .slice b O.length cb] w fun e w' => e = .returned (.bool true) ∧ Below w.heap.size w w' := by
 have HX := Lib.hid hx; have HY := Lib.hid hy
 obtain ⟨n, hnn⟩ : ∃ n, O.length = n := ⟨_, rfl⟩
 have HN := Lib.hid hnn
 rw [hnn] at hn ⊢
 have hl' : ((n : Int) == (n : Int)) = true := by simp
 clear hx hy hnn
 go_enter Tryz.func32, Tryz.ntmps32
 go_wp2_with fail
 go_loopg [13] n (fun gk i wr => ∃ j : Nat, j ≤ n ∧ gk = n - j ∧ i = .int .i64 j ∧ Below w.heap.size w wr)
 case atStart => exact ⟨0, by omega, rfl, rfl, Below.refl _ _⟩
 case round =>
  obtain ⟨j, hj, rfl, rfl, hB⟩ := hrel
  by_cases hlt : j < n
  ·obtain ⟨x, hq⟩ : ∃ x, O[j]? = some x := ⟨_, List.getElem?_eq_getElem (by rw [HN.out]; exact hlt)⟩
   obtain ⟨b1, o1, ha1, hb1, hc1⟩ := HX.out.keep hB (by rw [HN.out]; omega)
   obtain ⟨b2, o2, ha2, hb2, hc2⟩ := HY.out.keep hB (by rw [HN.out]; omega)
   have c0 : wr.cell? ⟨b1, o1 + j * 4, none⟩ = some (.string x.dig) := hc1 j x hq 0 (.string x.dig) rfl
   have c1 : wr.cell? ⟨b1, o1 + j * 4 + 1, none⟩ = some (.string x.tier) := hc1 j x hq 1 (.string x.tier) rfl
   have c2 : wr.cell? ⟨b1, o1 + j * 4 + 2, none⟩ = some (.bool x.good) := hc1 j x hq 2 (.bool x.good) rfl
   have c3 : wr.cell? ⟨b1, o1 + j * 4 + 3, none⟩ = some (.int .i64 x.asked) := hc1 j x hq 3 (.int .i64 x.asked) rfl
   have d0 : wr.cell? ⟨b2, o2 + j * 4, none⟩ = some (.string x.dig) := hc2 j x hq 0 (.string x.dig) rfl
   have d1 : wr.cell? ⟨b2, o2 + j * 4 + 1, none⟩ = some (.string x.tier) := hc2 j x hq 1 (.string x.tier) rfl
   have d2 : wr.cell? ⟨b2, o2 + j * 4 + 2, none⟩ = some (.bool x.good) := hc2 j x hq 2 (.bool x.good) rfl
   have d3 : wr.cell? ⟨b2, o2 + j * 4 + 3, none⟩ = some (.int .i64 x.asked) := hc2 j x hq 3 (.int .i64 x.asked) rfl
   have hj0 : (0 : Int) ≤ (j : Int) := by omega
   have hj1 : (j : Int) < (n : Int) := by omega
   have hne := neCop x.dig x.tier x.good x.asked
   have hgd := guardCop
   clear hc1 hc2 hq
   rw [ha1, ha2]
   go_wp2_with fail
   go_quiet (fail)
   go_wp2_with fail
   rw [← ha1, ← ha2]
   go_roundg (n - (j + 1))
   case rel => exact ⟨j + 1, by omega, rfl, by go_num, below_drewN hB _⟩
   case measure => omega
  ·obtain rfl : j = n := by omega
   have hjn : ¬ ((j : Int) < (j : Int)) := by omega
   go_wp2_with fail
   go_ret
   exact ⟨rfl, hB⟩
theorem eqG_same (O : List Gon) (a b : Option Addr) (ca cb : Nat) (w : World) (hx : RowE St.eG w a O) (hy : RowE St.eG w b O) (hn : O.length ≤ 9223372036854775807) :
  Calls Tryz.prog 34 #[.slice a O.length ca, .slice b O.length cb] w fun e w' => e = .returned (.bool true) ∧ Below w.heap.size w w' := by
 have HX := Lib.hid hx; have HY := Lib.hid hy
 obtain ⟨n, hnn⟩ : ∃ n, O.length = n := ⟨_, rfl⟩
 have HN := Lib.hid hnn
 rw [hnn] at hn ⊢
 have hl' : ((n : Int) == (n : Int)) = true := by simp
 clear hx hy hnn
 go_enter Tryz.func34, Tryz.ntmps34
 go_wp2_with fail
 go_loopg [13] n (fun gk i wr => ∃ j : Nat, j ≤ n ∧ gk = n - j ∧ i = .int .i64 j ∧ Below w.heap.size w wr)
 case atStart => exact ⟨0, by omega, rfl, rfl, Below.refl _ _⟩
 case round =>
  obtain ⟨j, hj, rfl, rfl, hB⟩ := hrel
  by_cases hlt : j < n
  ·obtain ⟨x, hq⟩ : ∃ x, O[j]? = some x := ⟨_, List.getElem?_eq_getElem (by rw [HN.out]; exact hlt)⟩
   obtain ⟨b1, o1, ha1, hb1, hc1⟩ := HX.out.keep hB (by rw [HN.out]; omega)
   obtain ⟨b2, o2, ha2, hb2, hc2⟩ := HY.out.keep hB (by rw [HN.out]; omega)
   have c0 : wr.cell? ⟨b1, o1 + j * 2, none⟩ = some (.string x.dig) := hc1 j x hq 0 (.string x.dig) rfl
   have c1 : wr.cell? ⟨b1, o1 + j * 2 + 1, none⟩ = some (.int .i64 x.day) := hc1 j x hq 1 (.int .i64 x.day) rfl
   have d0 : wr.cell? ⟨b2, o2 + j * 2, none⟩ = some (.string x.dig) := hc2 j x hq 0 (.string x.dig) rfl
   have d1 : wr.cell? ⟨b2, o2 + j * 2 + 1, none⟩ = some (.int .i64 x.day) := hc2 j x hq 1 (.int .i64 x.day) rfl
   have hj0 : (0 : Int) ≤ (j : Int) := by omega
   have hj1 : (j : Int) < (n : Int) := by omega
   have hne := neGon x.dig x.day
   have hgd := guardGon
   clear hc1 hc2 hq
   rw [ha1, ha2]
   go_wp2_with fail
   go_quiet (fail)
   go_wp2_with fail
   rw [← ha1, ← ha2]
   go_roundg (n - (j + 1))
   case rel => exact ⟨j + 1, by omega, rfl, by go_num, below_drewN hB _⟩
   case measure => omega
  ·obtain rfl : j = n := by omega
   have hjn : ¬ ((j : Int) < (j : Int)) := by omega
   go_wp2_with fail
   go_ret
   exact ⟨rfl, hB⟩
theorem eqS_same (O : List ByteArray) (a b : Option Addr) (ca cb : Nat) (w : World) (hx : RowE St.eS w a O) (hy : RowE St.eS w b O) (hn : O.length ≤ 9223372036854775807) :
  Calls Tryz.prog 33 #[.slice a O.length ca, .slice b O.length cb] w fun e w' => e = .returned (.bool true) ∧ Below w.heap.size w w' := by
 have HX := Lib.hid hx; have HY := Lib.hid hy
 obtain ⟨n, hnn⟩ : ∃ n, O.length = n := ⟨_, rfl⟩
 have HN := Lib.hid hnn
 rw [hnn] at hn ⊢
 have hl' : ((n : Int) == (n : Int)) = true := by simp
 clear hx hy hnn
 go_enter Tryz.func33, Tryz.ntmps33
 go_wp2_with fail
 go_loopg [13] n (fun gk i wr => ∃ j : Nat, j ≤ n ∧ gk = n - j ∧ i = .int .i64 j ∧ Below w.heap.size w wr)
 case atStart => exact ⟨0, by omega, rfl, rfl, Below.refl _ _⟩
 case round =>
  obtain ⟨j, hj, rfl, rfl, hB⟩ := hrel
  by_cases hlt : j < n
  ·obtain ⟨x, hq⟩ : ∃ x, O[j]? = some x := ⟨_, List.getElem?_eq_getElem (by rw [HN.out]; exact hlt)⟩
   obtain ⟨b1, o1, ha1, hb1, hc1⟩ := HX.out.keep hB (by rw [HN.out]; omega)
   obtain ⟨b2, o2, ha2, hb2, hc2⟩ := HY.out.keep hB (by rw [HN.out]; omega)
   have c0 : wr.cell? ⟨b1, o1 + j, none⟩ = some (.string x) := by have := hc1 j x hq 0 (.string x) rfl; rw [show o1 + j * St.eS.k + 0 = o1 + j by simp [St.eS]] at this; exact this
   have d0 : wr.cell? ⟨b2, o2 + j, none⟩ = some (.string x) := by have := hc2 j x hq 0 (.string x) rfl; rw [show o2 + j * St.eS.k + 0 = o2 + j by simp [St.eS]] at this; exact this
   have hj0 : (0 : Int) ≤ (j : Int) := by omega
   have hj1 : (j : Int) < (n : Int) := by omega
   clear hc1 hc2 hq
   rw [ha1, ha2]
   go_wp2_with fail
   go_quiet (fail)
   go_wp2_with fail
   rw [← ha1, ← ha2]
   go_roundg (n - (j + 1))
   case rel => exact ⟨j + 1, by omega, rfl, by go_num, below_drewN hB _⟩
   case measure => omega
  ·obtain rfl : j = n := by omega
   have hjn : ¬ ((j : Int) < (j : Int)) := by omega
   go_wp2_with fail
   go_ret
   exact ⟨rfl, hB⟩
theorem sameStore_is (s : Sto) (a b : StA) (w : World) (hA : StIn w s a) (hB : StIn w s b) : Calls Tryz.prog 21 #[.agg #[.int .i64 s.least, .int .i64 s.wait, .slice a.ta s.tiers.length a.tc, .slice a.fa s.files.length a.fc, .slice a.ca s.copies.length a.cc, .slice a.ha s.held.length a.hc, .slice a.ba s.bin.length a.bc], .agg #[.int .i64 s.least, .int .i64 s.wait, .slice b.ta s.tiers.length b.tc, .slice b.fa s.files.length b.fc, .slice b.ca s.copies.length b.cc, .slice b.ha s.held.length b.hc, .slice b.ba s.bin.length b.bc]] w fun e w' => e = .returned (.bool true) ∧ Below w.heap.size w w' := by
 obtain ⟨W1, hW1, hP, hz1, hB1⟩ := box w #[.int .i64 s.least, .int .i64 s.wait, .slice a.ta s.tiers.length a.tc, .slice a.fa s.files.length a.fc, .slice a.ca s.copies.length a.cc, .slice a.ha s.held.length a.hc, .slice a.ba s.bin.length a.bc] 28
 obtain ⟨W2, hW2, hQ, hz2, hB2⟩ := box W1 #[.int .i64 s.least, .int .i64 s.wait, .slice b.ta s.tiers.length b.tc, .slice b.fa s.files.length b.fc, .slice b.ca s.copies.length b.cc, .slice b.ha s.held.length b.hc, .slice b.ba s.bin.length b.bc] 28
 have HW1 := Lib.hid hW1; have HW2 := Lib.hid hW2
 have hP := hP.keep hB2
 rw [hz1] at hQ
 have hBB := below_up hB1 hB2
 have HBB := Lib.hid hBB
 have HCL : Hid (∀ V, Below W2.heap.size W2 V → (V.cell? ⟨w.heap.size, 0, none⟩ = some (.int .i64 s.least) ∧ V.cell? ⟨w.heap.size, 1, none⟩ = some (.int .i64 s.wait) ∧ V.cell? ⟨w.heap.size, 2, none⟩ = some (.slice a.ta s.tiers.length a.tc) ∧ V.cell? ⟨w.heap.size, 3, none⟩ = some (.slice a.fa s.files.length a.fc) ∧ V.cell? ⟨w.heap.size, 4, none⟩ = some (.slice a.ca s.copies.length a.cc) ∧ V.cell? ⟨w.heap.size, 5, none⟩ = some (.slice a.ha s.held.length a.hc) ∧ V.cell? ⟨w.heap.size, 6, none⟩ = some (.slice a.ba s.bin.length a.bc)) ∧ V.cell? ⟨w.heap.size + 1, 0, none⟩ = some (.int .i64 s.least) ∧ V.cell? ⟨w.heap.size + 1, 1, none⟩ = some (.int .i64 s.wait) ∧ V.cell? ⟨w.heap.size + 1, 2, none⟩ = some (.slice b.ta s.tiers.length b.tc) ∧ V.cell? ⟨w.heap.size + 1, 3, none⟩ = some (.slice b.fa s.files.length b.fc) ∧ V.cell? ⟨w.heap.size + 1, 4, none⟩ = some (.slice b.ca s.copies.length b.cc) ∧ V.cell? ⟨w.heap.size + 1, 5, none⟩ = some (.slice b.ha s.held.length b.hc) ∧ V.cell? ⟨w.heap.size + 1, 6, none⟩ = some (.slice b.ba s.bin.length b.bc)) := Lib.hid fun V hv => ⟨(hP.keep hv).seven, (hQ.keep hv).seven⟩
 have IA := Lib.hid (fun V (hv : Below W2.heap.size W2 V) => hA.keep (below_up hBB hv))
 have IB := Lib.hid (fun V (hv : Below W2.heap.size W2 V) => hB.keep (below_up hBB hv))
 have t1 := hA.tl; have t2 := hA.fl; have t3 := hA.cl; have t4 := hA.hl; have t5 := hA.bl
 have HE1 := Lib.hid (fun V hv => eqT_same s.tiers a.ta b.ta a.tc b.tc V (IA.out V hv).ti (IB.out V hv).ti (by omega))
 have HE2 := Lib.hid (fun V hv => eqF_same s.files a.fa b.fa a.fc b.fc V (IA.out V hv).fi (IB.out V hv).fi (by omega))
 have HE3 := Lib.hid (fun V hv => eqC_same s.copies a.ca b.ca a.cc b.cc V (IA.out V hv).co (IB.out V hv).co (by omega))
 have HE4 := Lib.hid (fun V hv => eqS_same s.held a.ha b.ha a.hc b.hc V (IA.out V hv).he (IB.out V hv).he (by omega))
 have HE5 := Lib.hid (fun V hv => eqG_same s.bin a.ba b.ba a.bc b.bc V (IA.out V hv).bi (IB.out V hv).bi (by omega))
 clear hA hB hW1 hW2 hP hQ hz1 hz2 hB1 hB2 hBB t1 t2 t3 t4 t5
 have hv : Below W2.heap.size W2 W2 := Below.refl _ _
 obtain ⟨⟨p0, p1, p2, p3, p4, p5, p6⟩, q0, q1, q2, q3, q4, q5, q6⟩ := HCL.out _ hv
 have e1 : (s.least == s.least) = true := by simp
 have e2 : (s.wait == s.wait) = true := by simp
 go_enter Tryz.func21, Tryz.ntmps21
 go_wp2_with fail
 rw [HW1.out, HW2.out]
 go_wp2_with (first
  | (go_at_call 30; (with_reducible refine (HE1.out _ hv).mono ?_); rintro e wq ⟨rfl, hq⟩; have hv := below_up hv hq; obtain ⟨⟨p0, p1, p2, p3, p4, p5, p6⟩, q0, q1, q2, q3, q4, q5, q6⟩ := HCL.out _ hv)
  | (go_at_call 31; (with_reducible refine (HE2.out _ hv).mono ?_); rintro e wq ⟨rfl, hq⟩; have hv := below_up hv hq; obtain ⟨⟨p0, p1, p2, p3, p4, p5, p6⟩, q0, q1, q2, q3, q4, q5, q6⟩ := HCL.out _ hv)
  | (go_at_call 32; (with_reducible refine (HE3.out _ hv).mono ?_); rintro e wq ⟨rfl, hq⟩; have hv := below_up hv hq; obtain ⟨⟨p0, p1, p2, p3, p4, p5, p6⟩, q0, q1, q2, q3, q4, q5, q6⟩ := HCL.out _ hv)
  | (go_at_call 33; (with_reducible refine (HE4.out _ hv).mono ?_); rintro e wq ⟨rfl, hq⟩; have hv := below_up hv hq; obtain ⟨⟨p0, p1, p2, p3, p4, p5, p6⟩, q0, q1, q2, q3, q4, q5, q6⟩ := HCL.out _ hv)
  | (go_at_call 34; (with_reducible refine (HE5.out _ hv).mono ?_); rintro e wq ⟨rfl, hq⟩; have hv := below_up hv hq))
 go_ret
 exact ⟨rfl, below_up HBB.out hv⟩
def Sto.zero : Sto := ⟨0, 0, [], [], [], [], []⟩
def StA.zero : StA := ⟨none, 0, none, 0, none, 0, none, 0, none, 0⟩
theorem StIn.zero (w : World) : StIn w Sto.zero StA.zero :=
 ⟨RowE.nil _ _ _, RowE.nil _ _ _, RowE.nil _ _ _, RowE.nil _ _ _, RowE.nil _ _ _, ⟨Nat.le_refl _, by decide⟩, ⟨Nat.le_refl _, by decide⟩, ⟨Nat.le_refl _, by decide⟩, ⟨Nat.le_refl _, by decide⟩, ⟨Nat.le_refl _, by decide⟩, fun _ h => (by cases h), fun _ h => (by cases h), fun _ h => (by cases h), fun _ h => (by cases h), fun _ h => (by cases h)⟩
theorem became_ok (s : Sto) (a b : StA) (w : World) (hA : StIn w s a) (hB : StIn w s b) : Calls Tryz.prog 7 #[.agg #[.int .i64 s.least, .int .i64 s.wait, .slice a.ta s.tiers.length a.tc, .slice a.fa s.files.length a.fc, .slice a.ca s.copies.length a.cc, .slice a.ha s.held.length a.hc, .slice a.ba s.bin.length a.bc], .int .i64 0, .agg #[.int .i64 s.least, .int .i64 s.wait, .slice b.ta s.tiers.length b.tc, .slice b.fa s.files.length b.fc, .slice b.ca s.copies.length b.cc, .slice b.ha s.held.length b.hc, .slice b.ba s.bin.length b.bc], .int .i64 0] w fun e w' => e = .returned (.bool true) ∧ Below w.heap.size w w' := by
 obtain ⟨W1, hW1, hP, hz1, hB1⟩ := box w #[.int .i64 s.least, .int .i64 s.wait, .slice a.ta s.tiers.length a.tc, .slice a.fa s.files.length a.fc, .slice a.ca s.copies.length a.cc, .slice a.ha s.held.length a.hc, .slice a.ba s.bin.length a.bc] 28
 obtain ⟨W2, hW2, hQ, hz2, hB2⟩ := box W1 #[.int .i64 s.least, .int .i64 s.wait, .slice b.ta s.tiers.length b.tc, .slice b.fa s.files.length b.fc, .slice b.ca s.copies.length b.cc, .slice b.ha s.held.length b.hc, .slice b.ba s.bin.length b.bc] 28
 have HW1 := Lib.hid hW1; have HW2 := Lib.hid hW2
 have hP := hP.keep hB2
 rw [hz1] at hQ
 have hBB := below_up hB1 hB2
 have HBB := Lib.hid hBB
 have HSS := Lib.hid (sameStore_is s a b W2 (hA.keep hBB) (hB.keep hBB))
 obtain ⟨p0, p1, p2, p3, p4, p5, p6⟩ := hP.seven
 obtain ⟨q0, q1, q2, q3, q4, q5, q6⟩ := hQ.seven
 clear hA hB hW1 hW2 hP hQ hz1 hz2 hB1 hB2 hBB
 go_enter Tryz.func7, Tryz.ntmps7
 go_wp2_with fail
 rw [HW1.out, HW2.out]
 go_wp2_with (go_at_call 21; (with_reducible refine HSS.out.mono ?_); rintro e wq ⟨rfl, hq⟩)
 go_ret
 exact ⟨rfl, below_up HBB.out hq⟩
end Go.Proofs.YtbbgebpgpadclaaGreatDoor
