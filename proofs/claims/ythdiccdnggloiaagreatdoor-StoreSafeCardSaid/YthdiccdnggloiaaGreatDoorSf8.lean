/- Parts of the proof, no condition: StChk8, StChk9, StNd, StDelF, StEq, StRel, StRen, StTlM. -/
import Derived.Test.YthdiccdnggloiaaGreatDoorSf7
import Derived.Test.YthdiccdnggloiaaGreatDoorSf5
import Derived.Test.YthdiccdnggloiaaGreatDoorSf4
import Derived.Test.YthdiccdnggloiaaGreatDoorSf6
import Derived.Lib.QuietBelow
import Derived.Deep.QuietTactic
import Derived.BigQuiet
import Derived.Test.YthdiccdnggloiaaGreatDoorSf3
set_option maxRecDepth 100000
set_option maxHeartbeats 16000000
set_option linter.unusedSimpArgs false
set_option linter.unusedVariables false
namespace Go.Proofs.YthdiccdnggloiaaGreatDoor
open Go.RowKit Go.Sort Go.Shelf Go.Maps
namespace St
theorem held_up {F : List Fil} {L : List ByteArray} (h : scan (heldE F) [] L = 0) : Up id L := up_of_scan h fun pre x p hb hp => by
 unfold heldE at hb
 rw [hp] at hb
 split at hb
 ·have e : (if le x p = true then (5 : Int) else 0) = 0 := hb
  split at e
  ·cases e
  ·rename_i g
   rw [le_not] at g
   show lt p x = true
   simpa using g
 ·cases hb
end St
theorem checkNeeded_is (s : Sto) (a : StA) (w : World) (hI : StIn w s a) (hsz : St.sizesE s = 0) (hfu : St.Up (·.dig) s.files) :
  Calls Tryz.prog 112 #[.agg #[.int .i64 s.least, .int .i64 s.wait, .slice a.ta s.tiers.length a.tc, .slice a.fa s.files.length a.fc, .slice a.ca s.copies.length a.cc, .slice a.ha s.held.length a.hc, .slice a.ba s.bin.length a.bc]] w fun e w' => e = .returned (.int .i64 (St.keptE s)) ∧ Below w.heap.size w w' := by
 obtain ⟨W1, hW1, hP, hz1, hB1⟩ := box w #[.int .i64 s.least, .int .i64 s.wait, .slice a.ta s.tiers.length a.tc, .slice a.fa s.files.length a.fc, .slice a.ca s.copies.length a.cc, .slice a.ha s.held.length a.hc, .slice a.ba s.bin.length a.bc] 28
 have HW1 := Lib.hid hW1
 have HI1 := Lib.hid (hI.keep hB1)
 have q0 : W1.cell? ⟨w.heap.size, 0, none⟩ = some (.int .i64 s.least) := (hP.cell 0).trans rfl
 have q1 : W1.cell? ⟨w.heap.size, 1, none⟩ = some (.int .i64 s.wait) := (hP.cell 1).trans rfl
 have q2 : W1.cell? ⟨w.heap.size, 2, none⟩ = some (.slice a.ta s.tiers.length a.tc) := (hP.cell 2).trans rfl
 have q3 : W1.cell? ⟨w.heap.size, 3, none⟩ = some (.slice a.fa s.files.length a.fc) := (hP.cell 3).trans rfl
 have q4 : W1.cell? ⟨w.heap.size, 4, none⟩ = some (.slice a.ca s.copies.length a.cc) := (hP.cell 4).trans rfl
 have q5 : W1.cell? ⟨w.heap.size, 5, none⟩ = some (.slice a.ha s.held.length a.hc) := (hP.cell 5).trans rfl
 have q6 : W1.cell? ⟨w.heap.size, 6, none⟩ = some (.slice a.ba s.bin.length a.bc) := (hP.cell 6).trans rfl
 have HP := Lib.hid hP; have HB1 := Lib.hid hB1
 clear hW1 hP
 obtain ⟨_, _, z3, _, z5, z6⟩ := St.sizes_iff.1 hsz
 have HU := Lib.hid hfu
 have HHZ := Lib.hid hI.hz; have HBZ := Lib.hid hI.bz
 have hhl := hI.hl; have hbl := hI.bl
 obtain ⟨qa, hqa⟩ : ∃ qa, St.scan (St.heldE s.files) [] s.held = qa := ⟨_, rfl⟩
 obtain ⟨qb, hqb⟩ : ∃ qb, St.scan (St.binE s.files s.held) [] s.bin = qb := ⟨_, rfl⟩
 have HF : Hid (St.keptE s = if qa = 0 then qb else qa) := Lib.hid (by unfold St.keptE; rw [hqa, hqb])
 have HQ1 : Hid (St.scan (St.heldE s.files) (s.held.take 0) (s.held.drop 0) = qa) := Lib.hid hqa
 have HQ2 : Hid (St.scan (St.binE s.files s.held) (s.bin.take 0) (s.bin.drop 0) = qb) := Lib.hid hqb
 have HUH := Lib.hid (fun h0 : qa = 0 => St.held_up (hqa.trans h0))
 have HBY := Lib.hid (byDigest_is s a W1 HI1.out z3)
 have HHD := Lib.hid (fun W => held_is s a W)
 have HHT := Lib.hid (fun (h0 : qa = 0) (d : ByteArray) W (hb : Below W1.heap.size W1 W) => hasS_is s.held (HUH.out h0) (by omega) d a.ha a.hc W hhl (HI1.out.keep hb).he)
 have HID := Lib.hid (fun (n : Int) W => isDayS_is n W)
 have HCL : Hid (∀ W, Below W1.heap.size W1 W → W.cell? ⟨w.heap.size, 0, none⟩ = some (.int .i64 s.least) ∧ W.cell? ⟨w.heap.size, 1, none⟩ = some (.int .i64 s.wait) ∧ W.cell? ⟨w.heap.size, 2, none⟩ = some (.slice a.ta s.tiers.length a.tc) ∧ W.cell? ⟨w.heap.size, 3, none⟩ = some (.slice a.fa s.files.length a.fc) ∧ W.cell? ⟨w.heap.size, 4, none⟩ = some (.slice a.ca s.copies.length a.cc) ∧ W.cell? ⟨w.heap.size, 5, none⟩ = some (.slice a.ha s.held.length a.hc) ∧ W.cell? ⟨w.heap.size, 6, none⟩ = some (.slice a.ba s.bin.length a.bc)) := Lib.hid fun W hb =>
  have k := HP.out.keep hb
  ⟨(k.cell 0).trans rfl, (k.cell 1).trans rfl, (k.cell 2).trans rfl, (k.cell 3).trans rfl, (k.cell 4).trans rfl, (k.cell 5).trans rfl, (k.cell 6).trans rfl⟩
 clear hI hqa hqb hsz hfu
 obtain ⟨n, hn⟩ : ∃ n, s.held.length = n := ⟨_, rfl⟩
 have HN := Lib.hid hn
 obtain ⟨nt, hnt⟩ : ∃ nt, s.bin.length = nt := ⟨_, rfl⟩
 have HNT := Lib.hid hnt
 rw [hn] at q5 hhl z5 HW1 HBY HHD HHT HCL ⊢
 rw [hnt] at q6 hbl z6 HW1 HBY HHD HCL ⊢
 have HC5 : Hid (∀ W, Below W1.heap.size W1 W → W.cell? ⟨w.heap.size, 5, none⟩ = some (.slice a.ha n a.hc)) := Lib.hid fun W hb => (HCL.out W hb).2.2.2.2.2.1
 clear hn hnt
 go_enter Tryz.func112, Tryz.ntmps112
 go_wp2_with fail
 rw [HW1.out]
 go_wp2_with (go_at_call 98; refine HBY.out.mono ?_; rintro e w5 ⟨mb, rfl, hmb, hM, hB5⟩; have HM5 := Lib.hid hM; have HBW5 := Lib.hid hB5; have HB5 := Lib.hid (below_up HB1.out hB5); have n5 := HC5.out _ HBW5.out)
 clear q0 q1 q2 q3 q4 q5 q6 n5 hmb hM hB5
 go_loopg [13] n (fun gk i wr => ∃ j : Nat, j ≤ n ∧ gk = n - j ∧ i = .int .i64 j ∧ St.scan (St.heldE s.files) (s.held.take j) (s.held.drop j) = qa ∧ Below w5.heap.size w5 wr)
 case atStart => exact ⟨0, by omega, rfl, rfl, HQ1.out, Below.refl _ _⟩
 case round =>
  obtain ⟨j, hj, rfl, rfl, hs, hB⟩ := hrel
  have HS := Lib.hid hs; clear hs
  have HBR := Lib.hid (below_up HB5.out hB)
  have hBW := below_up HBW5.out hB
  by_cases hlt : j < n
  ·obtain ⟨x, hx⟩ : ∃ x, s.held[j]? = some x := ⟨_, List.getElem?_eq_getElem (by rw [HN.out]; exact hlt)⟩
   obtain ⟨b, off, ha, hb, hcell⟩ := (HI1.out.keep hBW).he (by rw [HN.out]; omega)
   have HCE : Hid (∀ (i : Nat) (y : ByteArray), s.held[i]? = some y → wr.cell? ⟨b, off + i, none⟩ = some (.string y)) := Lib.hid fun i y hy => by
    have := hcell i y hy 0 (.string y) rfl
    rw [show off + i * St.eS.k + 0 = off + i by simp [St.eS]] at this
    exact this
   have c0 := HCE.out j x hx
   clear hcell
   have HX := Lib.hid hx
   obtain ⟨y, hlk, hy⟩ := FMap.kind (HM5.out.keep hB) HU.out (HHZ.out x (List.mem_of_getElem? hx))
   have hyk : y.kind = St.kindOf s.files x := by rw [hy, St.filD_kind]
   have hfk := fldKind y.dig y.frm y.size y.kind
   have HDF : Hid (St.heldE s.files (s.held.take j) x = if y.kind = 1 then (match (s.held.take j).getLast? with | some p => (if St.le x p = true then 5 else 0) | none => 0) else 7) := Lib.hid (by rw [hyk]; rfl)
   have n5 := HC5.out _ hBW
   have hj0 : (0 : Int) ≤ (j : Int) := by omega
   have hj1 : (j : Int) < (n : Int) := by omega
   have HBW := Lib.hid hBW; have HBJ := Lib.hid hB
   clear hx hB hy hyk hBW
   rw [ha] at n5 ⊢
   by_cases hk1 : y.kind = 1
   ·have hkb : (y.kind != 1) = false := by simpa using hk1
    have HDG : Hid (St.heldE s.files (s.held.take j) x = (match (s.held.take j).getLast? with | some p => (if St.le x p = true then 5 else 0) | none => 0)) := Lib.hid (by rw [HDF.out, if_pos hk1])
    clear hk1
    go_upto_region 7 with fail
    rcases Nat.eq_zero_or_pos j with rfl | hjp
    ·have HBD : Hid (St.heldE s.files (s.held.take 0) x = 0) := Lib.hid (by rw [HDG.out, St.last_zero])
     have HE := Lib.hid (St.scan_next HS.out HX.out HBD.out)
     go_wp2_with fail
     rw [← ha]
     go_roundg (n - (0 + 1))
     case rel => exact ⟨0 + 1, by omega, rfl, by go_num, HE.out, HBJ.out⟩
     case measure => omega
    ·obtain ⟨p, hp, hlast⟩ := St.last_at (L := s.held) (by rw [HN.out]; exact hlt) hjp
     obtain ⟨i, rfl⟩ : ∃ i, j = i + 1 := ⟨j - 1, by omega⟩
     rw [Nat.add_sub_cancel] at hp
     have p0 := HCE.out i p hp
     obtain ⟨bl, hbq⟩ : ∃ bl, (Op.bytesLess x.toList p.toList || x.toList == p.toList) = bl := ⟨_, rfl⟩
     have HBQ : Hid (St.le x p = bl) := Lib.hid hbq
     have HDZ : Hid (St.heldE s.files (s.held.take (i + 1)) x = if bl = true then 5 else 0) := Lib.hid (by rw [HDG.out, hlast, ← HBQ.out])
     clear hp hlast
     cases bl
     ·have HBD : Hid (St.heldE s.files (s.held.take (i + 1)) x = 0) := Lib.hid (by rw [HDZ.out]; rfl)
      have HE := Lib.hid (St.scan_next HS.out HX.out HBD.out)
      go_wp2_with fail
      rw [← ha]
      go_roundg (n - (i + 1 + 1))
      case rel => exact ⟨i + 1 + 1, by omega, rfl, by go_num, HE.out, HBJ.out⟩
      case measure => omega
     ·have HBD : Hid (St.heldE s.files (s.held.take (i + 1)) x = 5) := Lib.hid (by rw [HDZ.out]; rfl)
      have HE := Lib.hid (St.scan_here HS.out HX.out (by rw [HBD.out]; decide))
      go_wp2_with fail
      go_ret
      exact ⟨ret_int (by rw [HF.out, HE.out, HBD.out]; rfl), HBR.out⟩
   ·have hkb : (y.kind != 1) = true := by simpa using hk1
    have HBD : Hid (St.heldE s.files (s.held.take j) x = 7) := Lib.hid (by rw [HDF.out, if_neg hk1])
    have HE := Lib.hid (St.scan_here HS.out HX.out (by rw [HBD.out]; decide))
    go_wp2_with fail
    go_ret
    exact ⟨ret_int (by rw [HF.out, HE.out, HBD.out]; rfl), HBR.out⟩
  ·obtain rfl : j = n := by omega
   have HE := HS.out
   rw [← HN.out] at HE
   have hq0 := St.scan_done HE
   have HF2 : Hid (St.keptE s = qb) := Lib.hid (by rw [HF.out, if_pos hq0])
   have HHS := Lib.hid (HHT.out hq0)
   clear HE hq0
   obtain ⟨m0, m1, m2, m3, m4, m5, m6⟩ := HCL.out _ hBW
   have HBK := Lib.hid hB
   clear hBW hB HHT
   go_wp2_with fail
   clear m0 m1 m2 m3 m4 m5 m6
   go_loopg [39] nt (fun gk i wq => ∃ k : Nat, k ≤ nt ∧ gk = nt - k ∧ i = .int .i64 k ∧ St.scan (St.binE s.files s.held) (s.bin.take k) (s.bin.drop k) = qb ∧ Below w5.heap.size w5 wq)
   case atStart => exact ⟨0, by omega, rfl, rfl, HQ2.out, HBK.out⟩
   case round =>
    obtain ⟨k, hk, rfl, rfl, hs, hB⟩ := hrel
    have HS2 := Lib.hid hs; clear hs
    have HBQ := Lib.hid (below_up HB5.out hB)
    have hBWq := below_up HBW5.out hB
    by_cases hlt2 : k < nt
    ·obtain ⟨x, hx⟩ : ∃ x, s.bin[k]? = some x := ⟨_, List.getElem?_eq_getElem (by rw [HNT.out]; exact hlt2)⟩
     obtain ⟨b, off, ha, hb, hcell⟩ := (HI1.out.keep hBWq).bi (by rw [HNT.out]; omega)
     have c0 : wr.cell? ⟨b, off + k * 2, none⟩ = some (.string x.dig) := hcell k x hx 0 (.string x.dig) rfl
     have c1 : wr.cell? ⟨b, off + k * 2 + 1, none⟩ = some (.int .i64 x.day) := hcell k x hx 1 (.int .i64 x.day) rfl
     clear hcell
     have HX := Lib.hid hx
     obtain ⟨W3, hW3, hX3, hz3, hB3⟩ := box wr #[.string x.dig, .int .i64 x.day] 112
     have HW3 := Lib.hid hW3
     have HD : Hid (∀ W, Below W3.heap.size W3 W → W.cell? ⟨wr.heap.size, 0, none⟩ = some (.string x.dig) ∧ W.cell? ⟨wr.heap.size, 1, none⟩ = some (.int .i64 x.day)) := Lib.hid fun W hb =>
      have k := hX3.keep hb
      ⟨(k.cell 0).trans rfl, (k.cell 1).trans rfl⟩
     obtain ⟨d0, d1⟩ := HD.out _ (Below.refl _ _)
     obtain ⟨y, hlk, hy⟩ := FMap.kind ((HM5.out.keep hB).keep hB3) HU.out (HBZ.out x (List.mem_of_getElem? hx))
     have hyk : y.kind = St.kindOf s.files x.dig := by rw [hy, St.filD_kind]
     have hfk := fldKind y.dig y.frm y.size y.kind
     have HDF : Hid (St.binE s.files s.held (s.bin.take k) x = if y.kind = 1 then (match (s.bin.take k).getLast? with | some p => (if St.le x.dig p.dig = true then 5 else St.binR s.held x) | none => St.binR s.held x) else 7) := Lib.hid (by rw [hyk]; rfl)
     have HAL6 := Lib.hid (below_up HBQ.out hB3)
     have HAQ6 := Lib.hid (below_up hB hB3)
     have HAW6 := Lib.hid (below_up hBWq hB3)
     obtain ⟨m0, m1, m2, m3, m4, m5, m6⟩ := HCL.out _ HAW6.out
     have hj0 : (0 : Int) ≤ (k : Int) := by omega
     have hj1 : (k : Int) < (nt : Int) := by omega
     have HPV : Hid (∀ W, Below W1.heap.size W1 W → ∀ (i : Nat) (y : Gon), s.bin[i]? = some y → W.cell? ⟨b, off + i * 2, none⟩ = some (.string y.dig)) := Lib.hid fun W hb i y hy => by
      obtain ⟨b2, off2, ha2, hb2, hc2⟩ := (HI1.out.keep hb).bi (by rw [HNT.out]; omega)
      rw [ha] at ha2; cases ha2
      exact hc2 i y hy 0 _ rfl
     clear hx hB hX3 hz3 hB3 hW3 hBWq hy hyk
     rw [ha] at m6 HHD HCL ⊢
     by_cases hk1 : y.kind = 1
     ·have hkb : (y.kind != 1) = false := by simpa using hk1
      have HDG : Hid (St.binE s.files s.held (s.bin.take k) x = (match (s.bin.take k).getLast? with | some p => (if St.le x.dig p.dig = true then 5 else St.binR s.held x) | none => St.binR s.held x)) := Lib.hid (by rw [HDF.out, if_pos hk1])
      have HB36 := Lib.hid (Below.refl W3.heap.size W3)
      obtain ⟨dy, hdy⟩ : ∃ dy, St.inB x.day 0 73048 = dy := ⟨_, rfl⟩
      have HDY := Lib.hid hdy
      clear hk1 hdy
      go_upto_region 13 with fail
      rw [HW3.out]
      go_upto_region 15 with fail
      have k0 := cell_regrown d0
      have k6 := cell_regrown m6
      clear c0 c1 m0 m1 m2 m3 m4 m5 m6 d0 d1 hlk
      rcases Nat.eq_zero_or_pos k with rfl | hjp
      ·have HDZ : Hid (St.binE s.files s.held (s.bin.take 0) x = St.binR s.held x) := Lib.hid (by rw [HDG.out, St.last_zero])
       refine wp_region_quiet_below (by kernel_rfl) (by kernel_rfl) ?_
       repeat (go_big_quiet_step ((fail)))
       refine wpQuiet_nil ?_
       intro _ hw'
       obtain ⟨⟨dq, osq⟩, hw''⟩ := hw'
       subst hw''
       have hBw7 := below_regrown W3 dq osq
       generalize grow (redrawn W3 dq) osq = w7 at *
       clear dq osq
       clear k0 k6
       obtain ⟨d0, d1⟩ := HD.out _ (below_up HB36.out hBw7)
       obtain ⟨m0, m1, m2, m3, m4, m5, m6⟩ := HCL.out _ (below_up HAW6.out hBw7)
       have HAW7 := Lib.hid (below_up HAW6.out hBw7)
       have HAL7 := Lib.hid (below_up HAL6.out hBw7)
       have HAQ7 := Lib.hid (below_up HAQ6.out hBw7)
       cases dy
       ·have HBD : Hid (St.binE s.files s.held (s.bin.take (0)) x = 2) := Lib.hid (by rw [HDZ.out]; unfold St.binR; rw [HDY.out]; rfl)
        have HE := Lib.hid (St.scan_here HS2.out HX.out (by rw [HBD.out]; decide))
        go_wp2_with (go_at_call 64; (with_reducible refine (HID.out _ _).mono ?_); rw [HDY.out]; rintro e w8 ⟨rfl, rfl⟩)
        go_ret
        exact ⟨ret_int (by rw [HF2.out, HE.out, HBD.out]), HAL7.out⟩
       ·have HH1 := Lib.hid (fun d os => Calls.regrown_of (w := w7) (d := d) (os := os) (HHD.out _))
        have HH2 := Lib.hid (fun d os => Calls.regrown_of (w := w7) (d := d) (os := os) (HHS.out x.dig _ (below_up HAW7.out (below_regrown w7 d os))))
        have k0 := cell_regrown m0
        have k1 := cell_regrown m1
        have k2 := cell_regrown m2
        have k3 := cell_regrown m3
        have k4 := cell_regrown m4
        have k5 := cell_regrown m5
        have k6 := cell_regrown m6
        have k7 := cell_regrown d0
        have k8 := cell_regrown d1
        obtain ⟨hh, hhh⟩ : ∃ hh, St.hasS s.held x.dig = hh := ⟨_, rfl⟩
        have HBR2 : Hid (St.binE s.files s.held (s.bin.take (0)) x = if hh = true then 6 else 0) := Lib.hid (by rw [HDZ.out]; unfold St.binR; rw [HDY.out, hhh]; rfl)
        rw [hhh] at HH2
        clear hhh
        go_upto_region 19 with (go_at_call 64; (with_reducible refine (HID.out _ _).mono ?_); rw [HDY.out]; rintro e w8 ⟨rfl, rfl⟩)
        refine wp_region_quiet_below (by kernel_rfl) (by kernel_rfl) ?_
        repeat (go_big_quiet_step ((first | (go_at_call 58; with_reducible exact HH1.out _ _) | (go_at_call 63; with_reducible exact HH2.out _ _))))
        refine wpQuiet_nil ?_
        intro _ hw'
        obtain ⟨⟨dq, osq⟩, hw''⟩ := hw'
        subst hw''
        have hBw9 := below_regrown w7 dq osq
        generalize grow (redrawn w7 dq) osq = w9 at *
        clear dq osq
        cases hh
        ·have HBD : Hid (St.binE s.files s.held (s.bin.take (0)) x = 0) := Lib.hid (by rw [HBR2.out]; rfl)
         have HE := Lib.hid (St.scan_next HS2.out HX.out HBD.out)
         go_wp2_with fail
         rw [← ha]
         go_roundg (nt - (0 + 1))
         case rel => exact ⟨0 + 1, by omega, rfl, by go_num, HE.out, below_up HAQ7.out hBw9⟩
         case measure => omega
        ·have HBD : Hid (St.binE s.files s.held (s.bin.take (0)) x = 6) := Lib.hid (by rw [HBR2.out]; rfl)
         have HE := Lib.hid (St.scan_here HS2.out HX.out (by rw [HBD.out]; decide))
         go_wp2_with fail
         go_ret
         exact ⟨ret_int (by rw [HF2.out, HE.out, HBD.out]), below_up HAL7.out hBw9⟩
      ·obtain ⟨p, hp, hlast⟩ := St.last_at (L := s.bin) (by rw [HNT.out]; exact hlt2) hjp
       obtain ⟨i, rfl⟩ : ∃ i, k = i + 1 := ⟨k - 1, by omega⟩
       rw [Nat.add_sub_cancel] at hp
       have k5 := cell_regrown (HPV.out _ HAW6.out i p hp)
       obtain ⟨bl, hbq⟩ : ∃ bl, (Op.bytesLess x.dig.toList p.dig.toList || x.dig.toList == p.dig.toList) = bl := ⟨_, rfl⟩
       have HBQ2 : Hid (St.le x.dig p.dig = bl) := Lib.hid hbq
       have HDP : Hid (St.binE s.files s.held (s.bin.take (i + 1)) x = if bl = true then 5 else St.binR s.held x) := Lib.hid (by rw [HDG.out, hlast, ← HBQ2.out])
       have HBC := Lib.hid hbq
       clear hp hlast hbq
       refine wp_region_quiet_below (by kernel_rfl) (by kernel_rfl) ?_
       repeat (go_big_quiet_step ((fail)))
       refine wpQuiet_nil ?_
       intro _ hw'
       obtain ⟨⟨dq, osq⟩, hw''⟩ := hw'
       subst hw''
       have hBw7 := below_regrown W3 dq osq
       generalize grow (redrawn W3 dq) osq = w7 at *
       clear dq osq
       clear k0 k5 k6
       cases bl
       ·have HDZ : Hid (St.binE s.files s.held (s.bin.take (i + 1)) x = St.binR s.held x) := Lib.hid (by rw [HDP.out]; rfl)
        simp only [HBC.out]
        obtain ⟨d0, d1⟩ := HD.out _ (below_up HB36.out hBw7)
        obtain ⟨m0, m1, m2, m3, m4, m5, m6⟩ := HCL.out _ (below_up HAW6.out hBw7)
        have HAW7 := Lib.hid (below_up HAW6.out hBw7)
        have HAL7 := Lib.hid (below_up HAL6.out hBw7)
        have HAQ7 := Lib.hid (below_up HAQ6.out hBw7)
        cases dy
        ·have HBD : Hid (St.binE s.files s.held (s.bin.take (i + 1)) x = 2) := Lib.hid (by rw [HDZ.out]; unfold St.binR; rw [HDY.out]; rfl)
         have HE := Lib.hid (St.scan_here HS2.out HX.out (by rw [HBD.out]; decide))
         go_wp2_with (go_at_call 64; (with_reducible refine (HID.out _ _).mono ?_); rw [HDY.out]; rintro e w8 ⟨rfl, rfl⟩)
         go_ret
         exact ⟨ret_int (by rw [HF2.out, HE.out, HBD.out]), HAL7.out⟩
        ·have HH1 := Lib.hid (fun d os => Calls.regrown_of (w := w7) (d := d) (os := os) (HHD.out _))
         have HH2 := Lib.hid (fun d os => Calls.regrown_of (w := w7) (d := d) (os := os) (HHS.out x.dig _ (below_up HAW7.out (below_regrown w7 d os))))
         have k0 := cell_regrown m0
         have k1 := cell_regrown m1
         have k2 := cell_regrown m2
         have k3 := cell_regrown m3
         have k4 := cell_regrown m4
         have k5 := cell_regrown m5
         have k6 := cell_regrown m6
         have k7 := cell_regrown d0
         have k8 := cell_regrown d1
         obtain ⟨hh, hhh⟩ : ∃ hh, St.hasS s.held x.dig = hh := ⟨_, rfl⟩
         have HBR2 : Hid (St.binE s.files s.held (s.bin.take (i + 1)) x = if hh = true then 6 else 0) := Lib.hid (by rw [HDZ.out]; unfold St.binR; rw [HDY.out, hhh]; rfl)
         rw [hhh] at HH2
         clear hhh
         go_upto_region 19 with (go_at_call 64; (with_reducible refine (HID.out _ _).mono ?_); rw [HDY.out]; rintro e w8 ⟨rfl, rfl⟩)
         refine wp_region_quiet_below (by kernel_rfl) (by kernel_rfl) ?_
         repeat (go_big_quiet_step ((first | (go_at_call 58; with_reducible exact HH1.out _ _) | (go_at_call 63; with_reducible exact HH2.out _ _))))
         refine wpQuiet_nil ?_
         intro _ hw'
         obtain ⟨⟨dq, osq⟩, hw''⟩ := hw'
         subst hw''
         have hBw9 := below_regrown w7 dq osq
         generalize grow (redrawn w7 dq) osq = w9 at *
         clear dq osq
         cases hh
         ·have HBD : Hid (St.binE s.files s.held (s.bin.take (i + 1)) x = 0) := Lib.hid (by rw [HBR2.out]; rfl)
          have HE := Lib.hid (St.scan_next HS2.out HX.out HBD.out)
          go_wp2_with fail
          rw [← ha]
          go_roundg (nt - (i + 1 + 1))
          case rel => exact ⟨i + 1 + 1, by omega, rfl, by go_num, HE.out, below_up HAQ7.out hBw9⟩
          case measure => omega
         ·have HBD : Hid (St.binE s.files s.held (s.bin.take (i + 1)) x = 6) := Lib.hid (by rw [HBR2.out]; rfl)
          have HE := Lib.hid (St.scan_here HS2.out HX.out (by rw [HBD.out]; decide))
          go_wp2_with fail
          go_ret
          exact ⟨ret_int (by rw [HF2.out, HE.out, HBD.out]), below_up HAL7.out hBw9⟩
       ·have HBD : Hid (St.binE s.files s.held (s.bin.take (i + 1)) x = 5) := Lib.hid (by rw [HDP.out]; rfl)
        have HE := Lib.hid (St.scan_here HS2.out HX.out (by rw [HBD.out]; decide))
        simp only [HBC.out]
        go_wp2_with fail
        go_ret
        exact ⟨ret_int (by rw [HF2.out, HE.out, HBD.out]), below_up HAL6.out hBw7⟩
     ·have hkb : (y.kind != 1) = true := by simpa using hk1
      have HBD : Hid (St.binE s.files s.held (s.bin.take k) x = 7) := Lib.hid (by rw [HDF.out, if_neg hk1])
      have HE := Lib.hid (St.scan_here HS2.out HX.out (by rw [HBD.out]; decide))
      go_upto_region 13 with fail
      rw [HW3.out]
      go_wp2_with fail
      go_ret
      exact ⟨ret_int (by rw [HF2.out, HE.out, HBD.out]), HAL6.out⟩
    ·obtain rfl : k = nt := by omega
     have HE := HS2.out
     rw [← HNT.out] at HE
     have HE2 := Lib.hid (St.scan_done HE)
     clear HE
     go_wp2_with fail
     go_ret
     exact ⟨ret_int (by rw [HF2.out, HE2.out]), HBQ.out⟩
theorem enters_ck0 : ∀ args w, (callFunc 108 args).run Tryz.prog w = .ok (.enter 108 args) w := enters_of Tryz.func108 (by kernel_rfl) rfl
theorem enters_ck1 : ∀ args w, (callFunc 109 args).run Tryz.prog w = .ok (.enter 109 args) w := enters_of Tryz.func109 (by kernel_rfl) rfl
theorem enters_ck2 : ∀ args w, (callFunc 110 args).run Tryz.prog w = .ok (.enter 110 args) w := enters_of Tryz.func110 (by kernel_rfl) rfl
theorem enters_ck3 : ∀ args w, (callFunc 111 args).run Tryz.prog w = .ok (.enter 111 args) w := enters_of Tryz.func111 (by kernel_rfl) rfl
theorem enters_ck4 : ∀ args w, (callFunc 112 args).run Tryz.prog w = .ok (.enter 112 args) w := enters_of Tryz.func112 (by kernel_rfl) rfl
theorem check_is (s : Sto) (a : StA) (w : World) (hI : StIn w s a) :
  Calls Tryz.prog 32 #[.agg #[.int .i64 s.least, .int .i64 s.wait, .slice a.ta s.tiers.length a.tc, .slice a.fa s.files.length a.fc, .slice a.ca s.copies.length a.cc, .slice a.ha s.held.length a.hc, .slice a.ba s.bin.length a.bc]] w fun e w' => e = .returned (.int .i64 (St.err s)) ∧ Below w.heap.size w w' := by
 obtain ⟨W1, hW1, hP, hz1, hB1⟩ := box w #[.int .i64 s.least, .int .i64 s.wait, .slice a.ta s.tiers.length a.tc, .slice a.fa s.files.length a.fc, .slice a.ca s.copies.length a.cc, .slice a.ha s.held.length a.hc, .slice a.ba s.bin.length a.bc] 28
 have HW1 := Lib.hid hW1
 have HI1 := Lib.hid (hI.keep hB1)
 have q0 : W1.cell? ⟨w.heap.size, 0, none⟩ = some (.int .i64 s.least) := (hP.cell 0).trans rfl
 have q1 : W1.cell? ⟨w.heap.size, 1, none⟩ = some (.int .i64 s.wait) := (hP.cell 1).trans rfl
 have q2 : W1.cell? ⟨w.heap.size, 2, none⟩ = some (.slice a.ta s.tiers.length a.tc) := (hP.cell 2).trans rfl
 have q3 : W1.cell? ⟨w.heap.size, 3, none⟩ = some (.slice a.fa s.files.length a.fc) := (hP.cell 3).trans rfl
 have q4 : W1.cell? ⟨w.heap.size, 4, none⟩ = some (.slice a.ca s.copies.length a.cc) := (hP.cell 4).trans rfl
 have q5 : W1.cell? ⟨w.heap.size, 5, none⟩ = some (.slice a.ha s.held.length a.hc) := (hP.cell 5).trans rfl
 have q6 : W1.cell? ⟨w.heap.size, 6, none⟩ = some (.slice a.ba s.bin.length a.bc) := (hP.cell 6).trans rfl
 have HP := Lib.hid hP; have HB1 := Lib.hid hB1
 clear hW1 hP
 obtain ⟨W2, hW2, hX2, hz2, hB2⟩ := box W1 #[.func (.func 108) #[] #[], .func (.func 109) #[] #[], .func (.func 110) #[] #[], .func (.func 111) #[] #[], .func (.func 112) #[] #[]] 38
 have HW2 := Lib.hid hW2; have HX2 := Lib.hid hX2
 have HBB := Lib.hid (below_up HB1.out hB2)
 have HB2 := Lib.hid hB2
 have HI := Lib.hid hI
 obtain ⟨e0, h0⟩ : ∃ e0, St.sizesE s = e0 := ⟨_, rfl⟩
 obtain ⟨e1, h1⟩ : ∃ e1, St.scan St.tierE [] s.tiers = e1 := ⟨_, rfl⟩
 obtain ⟨e2, h2⟩ : ∃ e2, St.filesE s.files = e2 := ⟨_, rfl⟩
 obtain ⟨e3, h3⟩ : ∃ e3, St.copiesE s = e3 := ⟨_, rfl⟩
 obtain ⟨e4, h4⟩ : ∃ e4, St.keptE s = e4 := ⟨_, rfl⟩
 have HF : Hid (St.err s = if e0 = 0 then (if e1 = 0 then (if e2 = 0 then (if e3 = 0 then e4 else e3) else e2) else e1) else e0) := Lib.hid (by unfold St.err; rw [h0, h1, h2, h3, h4])
 have HC0 := Lib.hid (fun W (hb : Below w.heap.size w W) => checkSizes_is s a W (HI.out.keep hb))
 have HC1 := Lib.hid (fun W (hb : Below w.heap.size w W) => checkTiers_is s a W (HI.out.keep hb))
 have HC2 := Lib.hid (fun (g0 : e0 = 0) W (hb : Below w.heap.size w W) => checkFiles_is s a W (HI.out.keep hb) (St.sizes_iff.1 (h0.trans g0)).2.2.1)
 have HC3 := Lib.hid (fun (g0 : e0 = 0) (g1 : e1 = 0) (g2 : e2 = 0) W (hb : Below w.heap.size w W) => checkCopies_is s a W (HI.out.keep hb) (h0.trans g0) (h1.trans g1) (h2.trans g2))
 have HC4 := Lib.hid (fun (g0 : e0 = 0) (g2 : e2 = 0) W (hb : Below w.heap.size w W) => checkNeeded_is s a W (HI.out.keep hb) (h0.trans g0) (St.files_ok (h2.trans g2)).2.1)
 rw [h0] at HC0; rw [h1] at HC1; rw [h2] at HC2; rw [h3] at HC3; rw [h4] at HC4
 have HCL := Lib.hid (fun W (hb : Below W2.heap.size W2 W) => HP.out.keep (below_up HB2.out hb))
 have eg0 := enters_ck0; have eg1 := enters_ck1; have eg2 := enters_ck2; have eg3 := enters_ck3; have eg4 := enters_ck4
 clear h0 h1 h2 h3 h4 hI hB2 hW2 hX2 hz2 q0 q1 q2 q3 q4 q5 q6
 go_enter Tryz.func32, Tryz.ntmps32
 go_wp2_with fail
 rw [HW1.out, HW2.out]
 go_loopg [8] 5 (fun gk i wr => ∃ j : Nat, j ≤ 5 ∧ gk = 5 - j ∧ i = .int .i64 j ∧ (1 ≤ j → e0 = 0) ∧ (2 ≤ j → e1 = 0) ∧ (3 ≤ j → e2 = 0) ∧ (4 ≤ j → e3 = 0) ∧ (5 ≤ j → e4 = 0) ∧ Below W2.heap.size W2 wr)
 case atStart => exact ⟨0, by omega, rfl, rfl, fun h => by omega, fun h => by omega, fun h => by omega, fun h => by omega, fun h => by omega, Below.refl _ _⟩
 case round =>
  obtain ⟨j, hj, rfl, rfl, r1, r2, r3, r4, r5, hB⟩ := hrel
  have R1 := Lib.hid r1; have R2 := Lib.hid r2; have R3 := Lib.hid r3; have R4 := Lib.hid r4; have R5 := Lib.hid r5
  have hk := HX2.out.keep hB
  rw [hz1] at hk
  have f0 : wr.cell? ⟨w.heap.size + 1, 0, none⟩ = some (.func (.func 108) #[] #[]) := (hk.cell 0).trans rfl
  have f1 : wr.cell? ⟨w.heap.size + 1, 1, none⟩ = some (.func (.func 109) #[] #[]) := (hk.cell 1).trans rfl
  have f2 : wr.cell? ⟨w.heap.size + 1, 2, none⟩ = some (.func (.func 110) #[] #[]) := (hk.cell 2).trans rfl
  have f3 : wr.cell? ⟨w.heap.size + 1, 3, none⟩ = some (.func (.func 111) #[] #[]) := (hk.cell 3).trans rfl
  have f4 : wr.cell? ⟨w.heap.size + 1, 4, none⟩ = some (.func (.func 112) #[] #[]) := (hk.cell 4).trans rfl
  have k := HCL.out _ hB
  have m0 : wr.cell? ⟨w.heap.size, 0, none⟩ = some (.int .i64 s.least) := (k.cell 0).trans rfl
  have m1 : wr.cell? ⟨w.heap.size, 1, none⟩ = some (.int .i64 s.wait) := (k.cell 1).trans rfl
  have m2 : wr.cell? ⟨w.heap.size, 2, none⟩ = some (.slice a.ta s.tiers.length a.tc) := (k.cell 2).trans rfl
  have m3 : wr.cell? ⟨w.heap.size, 3, none⟩ = some (.slice a.fa s.files.length a.fc) := (k.cell 3).trans rfl
  have m4 : wr.cell? ⟨w.heap.size, 4, none⟩ = some (.slice a.ca s.copies.length a.cc) := (k.cell 4).trans rfl
  have m5 : wr.cell? ⟨w.heap.size, 5, none⟩ = some (.slice a.ha s.held.length a.hc) := (k.cell 5).trans rfl
  have m6 : wr.cell? ⟨w.heap.size, 6, none⟩ = some (.slice a.ba s.bin.length a.bc) := (k.cell 6).trans rfl
  have HBC := Lib.hid (below_up HBB.out hB)
  have HBR := Lib.hid hB
  clear r1 r2 r3 r4 r5 hk k hB
  have hj4 : j = 0 ∨ j = 1 ∨ j = 2 ∨ j = 3 ∨ j = 4 ∨ j = 5 := by omega
  rcases hj4 with rfl | rfl | rfl | rfl | rfl | rfl
  ·-- checkSizes: the check; HC0.out: its contract; e0: its answer; 1: the next place
   have HCC := Lib.hid (HC0.out)
   by_cases h0 : e0 = 0
   ·have HZ := Lib.hid h0
    have hzb : (e0 != 0) = false := by simpa using h0
    clear h0
    go_wp2_with (go_at_fn 108; (with_reducible refine (HCC.out _ HBC.out).mono ?_); rintro e w5 ⟨rfl, hB5⟩)
    go_roundg (5 - 1)
    case rel => exact ⟨1, by omega, rfl, by go_num, fun hh => by first | omega | exact HZ.out | exact R1.out (by omega) | exact R2.out (by omega) | exact R3.out (by omega) | exact R4.out (by omega) | exact R5.out (by omega), fun hh => by first | omega | exact HZ.out | exact R1.out (by omega) | exact R2.out (by omega) | exact R3.out (by omega) | exact R4.out (by omega) | exact R5.out (by omega), fun hh => by first | omega | exact HZ.out | exact R1.out (by omega) | exact R2.out (by omega) | exact R3.out (by omega) | exact R4.out (by omega) | exact R5.out (by omega), fun hh => by first | omega | exact HZ.out | exact R1.out (by omega) | exact R2.out (by omega) | exact R3.out (by omega) | exact R4.out (by omega) | exact R5.out (by omega), fun hh => by first | omega | exact HZ.out | exact R1.out (by omega) | exact R2.out (by omega) | exact R3.out (by omega) | exact R4.out (by omega) | exact R5.out (by omega), below_up HBR.out hB5⟩
    case measure => omega
   ·have HZ := Lib.hid h0
    have hzb : (e0 != 0) = true := by simpa using h0
    clear h0
    go_wp2_with (go_at_fn 108; (with_reducible refine (HCC.out _ HBC.out).mono ?_); rintro e w5 ⟨rfl, hB5⟩)
    go_ret
    exact ⟨ret_int (by have z := HZ.out; rw [HF.out]; rw [if_neg z]), below_up HBC.out hB5⟩
  ·-- checkTiers: the check; HC1.out: its contract; e1: its answer; 2: the next place
   have HCC := Lib.hid (HC1.out)
   by_cases h0 : e1 = 0
   ·have HZ := Lib.hid h0
    have hzb : (e1 != 0) = false := by simpa using h0
    clear h0
    go_wp2_with (go_at_fn 109; (with_reducible refine (HCC.out _ HBC.out).mono ?_); rintro e w5 ⟨rfl, hB5⟩)
    go_roundg (5 - 2)
    case rel => exact ⟨2, by omega, rfl, by go_num, fun hh => by first | omega | exact HZ.out | exact R1.out (by omega) | exact R2.out (by omega) | exact R3.out (by omega) | exact R4.out (by omega) | exact R5.out (by omega), fun hh => by first | omega | exact HZ.out | exact R1.out (by omega) | exact R2.out (by omega) | exact R3.out (by omega) | exact R4.out (by omega) | exact R5.out (by omega), fun hh => by first | omega | exact HZ.out | exact R1.out (by omega) | exact R2.out (by omega) | exact R3.out (by omega) | exact R4.out (by omega) | exact R5.out (by omega), fun hh => by first | omega | exact HZ.out | exact R1.out (by omega) | exact R2.out (by omega) | exact R3.out (by omega) | exact R4.out (by omega) | exact R5.out (by omega), fun hh => by first | omega | exact HZ.out | exact R1.out (by omega) | exact R2.out (by omega) | exact R3.out (by omega) | exact R4.out (by omega) | exact R5.out (by omega), below_up HBR.out hB5⟩
    case measure => omega
   ·have HZ := Lib.hid h0
    have hzb : (e1 != 0) = true := by simpa using h0
    clear h0
    go_wp2_with (go_at_fn 109; (with_reducible refine (HCC.out _ HBC.out).mono ?_); rintro e w5 ⟨rfl, hB5⟩)
    go_ret
    exact ⟨ret_int (by have z := HZ.out; rw [HF.out]; rw [if_pos (R1.out (by omega)), if_neg z]), below_up HBC.out hB5⟩
  ·-- checkFiles: the check; HC2.out (R1.out (by omega)): its contract; e2: its answer; 3: the next place
   have HCC := Lib.hid (HC2.out (R1.out (by omega)))
   by_cases h0 : e2 = 0
   ·have HZ := Lib.hid h0
    have hzb : (e2 != 0) = false := by simpa using h0
    clear h0
    go_wp2_with (go_at_fn 110; (with_reducible refine (HCC.out _ HBC.out).mono ?_); rintro e w5 ⟨rfl, hB5⟩)
    go_roundg (5 - 3)
    case rel => exact ⟨3, by omega, rfl, by go_num, fun hh => by first | omega | exact HZ.out | exact R1.out (by omega) | exact R2.out (by omega) | exact R3.out (by omega) | exact R4.out (by omega) | exact R5.out (by omega), fun hh => by first | omega | exact HZ.out | exact R1.out (by omega) | exact R2.out (by omega) | exact R3.out (by omega) | exact R4.out (by omega) | exact R5.out (by omega), fun hh => by first | omega | exact HZ.out | exact R1.out (by omega) | exact R2.out (by omega) | exact R3.out (by omega) | exact R4.out (by omega) | exact R5.out (by omega), fun hh => by first | omega | exact HZ.out | exact R1.out (by omega) | exact R2.out (by omega) | exact R3.out (by omega) | exact R4.out (by omega) | exact R5.out (by omega), fun hh => by first | omega | exact HZ.out | exact R1.out (by omega) | exact R2.out (by omega) | exact R3.out (by omega) | exact R4.out (by omega) | exact R5.out (by omega), below_up HBR.out hB5⟩
    case measure => omega
   ·have HZ := Lib.hid h0
    have hzb : (e2 != 0) = true := by simpa using h0
    clear h0
    go_wp2_with (go_at_fn 110; (with_reducible refine (HCC.out _ HBC.out).mono ?_); rintro e w5 ⟨rfl, hB5⟩)
    go_ret
    exact ⟨ret_int (by have z := HZ.out; rw [HF.out]; rw [if_pos (R1.out (by omega)), if_pos (R2.out (by omega)), if_neg z]), below_up HBC.out hB5⟩
  ·-- checkCopies: the check; HC3.out (R1.out (by omega)) (R2.out (by omega)) (R3.out (by omega)): its contract; e3: its answer; 4: the next place
   have HCC := Lib.hid (HC3.out (R1.out (by omega)) (R2.out (by omega)) (R3.out (by omega)))
   by_cases h0 : e3 = 0
   ·have HZ := Lib.hid h0
    have hzb : (e3 != 0) = false := by simpa using h0
    clear h0
    go_wp2_with (go_at_fn 111; (with_reducible refine (HCC.out _ HBC.out).mono ?_); rintro e w5 ⟨rfl, hB5⟩)
    go_roundg (5 - 4)
    case rel => exact ⟨4, by omega, rfl, by go_num, fun hh => by first | omega | exact HZ.out | exact R1.out (by omega) | exact R2.out (by omega) | exact R3.out (by omega) | exact R4.out (by omega) | exact R5.out (by omega), fun hh => by first | omega | exact HZ.out | exact R1.out (by omega) | exact R2.out (by omega) | exact R3.out (by omega) | exact R4.out (by omega) | exact R5.out (by omega), fun hh => by first | omega | exact HZ.out | exact R1.out (by omega) | exact R2.out (by omega) | exact R3.out (by omega) | exact R4.out (by omega) | exact R5.out (by omega), fun hh => by first | omega | exact HZ.out | exact R1.out (by omega) | exact R2.out (by omega) | exact R3.out (by omega) | exact R4.out (by omega) | exact R5.out (by omega), fun hh => by first | omega | exact HZ.out | exact R1.out (by omega) | exact R2.out (by omega) | exact R3.out (by omega) | exact R4.out (by omega) | exact R5.out (by omega), below_up HBR.out hB5⟩
    case measure => omega
   ·have HZ := Lib.hid h0
    have hzb : (e3 != 0) = true := by simpa using h0
    clear h0
    go_wp2_with (go_at_fn 111; (with_reducible refine (HCC.out _ HBC.out).mono ?_); rintro e w5 ⟨rfl, hB5⟩)
    go_ret
    exact ⟨ret_int (by have z := HZ.out; rw [HF.out]; rw [if_pos (R1.out (by omega)), if_pos (R2.out (by omega)), if_pos (R3.out (by omega)), if_neg z]), below_up HBC.out hB5⟩
  ·-- checkNeeded: the check; HC4.out (R1.out (by omega)) (R3.out (by omega)): its contract; e4: its answer; 5: the next place
   have HCC := Lib.hid (HC4.out (R1.out (by omega)) (R3.out (by omega)))
   by_cases h0 : e4 = 0
   ·have HZ := Lib.hid h0
    have hzb : (e4 != 0) = false := by simpa using h0
    clear h0
    go_wp2_with (go_at_fn 112; (with_reducible refine (HCC.out _ HBC.out).mono ?_); rintro e w5 ⟨rfl, hB5⟩)
    go_roundg (5 - 5)
    case rel => exact ⟨5, by omega, rfl, by go_num, fun hh => by first | omega | exact HZ.out | exact R1.out (by omega) | exact R2.out (by omega) | exact R3.out (by omega) | exact R4.out (by omega) | exact R5.out (by omega), fun hh => by first | omega | exact HZ.out | exact R1.out (by omega) | exact R2.out (by omega) | exact R3.out (by omega) | exact R4.out (by omega) | exact R5.out (by omega), fun hh => by first | omega | exact HZ.out | exact R1.out (by omega) | exact R2.out (by omega) | exact R3.out (by omega) | exact R4.out (by omega) | exact R5.out (by omega), fun hh => by first | omega | exact HZ.out | exact R1.out (by omega) | exact R2.out (by omega) | exact R3.out (by omega) | exact R4.out (by omega) | exact R5.out (by omega), fun hh => by first | omega | exact HZ.out | exact R1.out (by omega) | exact R2.out (by omega) | exact R3.out (by omega) | exact R4.out (by omega) | exact R5.out (by omega), below_up HBR.out hB5⟩
    case measure => omega
   ·have HZ := Lib.hid h0
    have hzb : (e4 != 0) = true := by simpa using h0
    clear h0
    go_wp2_with (go_at_fn 112; (with_reducible refine (HCC.out _ HBC.out).mono ?_); rintro e w5 ⟨rfl, hB5⟩)
    go_ret
    exact ⟨ret_int (by have z := HZ.out; rw [HF.out]; rw [if_pos (R1.out (by omega)), if_pos (R2.out (by omega)), if_pos (R3.out (by omega)), if_pos (R4.out (by omega))]), below_up HBC.out hB5⟩
  ·have g0 := R1.out (by omega)
   have g1 := R2.out (by omega)
   have g2 := R3.out (by omega)
   have g3 := R4.out (by omega)
   have g4 := R5.out (by omega)
   have HE : Hid (St.err s = 0) := Lib.hid (by rw [HF.out, if_pos g0, if_pos g1, if_pos g2, if_pos g3, g4])
   clear g0 g1 g2 g3 g4
   go_wp2_with fail
   go_ret
   exact ⟨ret_int HE.out.symm, HBC.out⟩
namespace St
theorem kept_eq (s : Sto) (d : ByteArray) : kept s d = (hasS s.held d || hasK gdig s.bin d) := rfl
theorem neededD_eq (s : Sto) (d : ByteArray) : neededD s d = if (filD s.files d).kind = 1 then kept s (filD s.files d).dig else if (filD s.files d).kind = 2 then kept s (filD s.files d).frm else false := rfl
theorem fil_dig {s : Sto} {d : ByteArray} (h : (filD s.files d).kind ≠ 0) : (filD s.files d).dig = d := by
 cases hf : fileOf s.files d with
 | none => exact absurd (by unfold filD; rw [hf]; rfl) h
 | some f =>
   have e : filD s.files d = f := by unfold filD; rw [hf]; rfl
   rw [e]
   exact eq_iff.1 (find_mem hf).2
end St
theorem needed_is (s : Sto) (a : StA) (mb : Nat) (d : ByteArray) (w : World) (hI : StIn w s a) (hM : FMap w mb s.files) (r : St.Right s) (hd : d.size ≤ 9223372036854775807) :
  Calls Tryz.prog 171 #[.agg #[.int .i64 s.least, .int .i64 s.wait, .slice a.ta s.tiers.length a.tc, .slice a.fa s.files.length a.fc, .slice a.ca s.copies.length a.cc, .slice a.ha s.held.length a.hc, .slice a.ba s.bin.length a.bc, .map (some mb)], .string d] w fun e w' => e = .returned (.bool (St.neededD s d)) ∧ Below w.heap.size w w' := by
 obtain ⟨W1, hW1, hP, hz1, hB1⟩ := box w #[.int .i64 s.least, .int .i64 s.wait, .slice a.ta s.tiers.length a.tc, .slice a.fa s.files.length a.fc, .slice a.ca s.copies.length a.cc, .slice a.ha s.held.length a.hc, .slice a.ba s.bin.length a.bc, .map (some mb)] 135
 have HW1 := Lib.hid hW1; have HB1 := Lib.hid hB1
 have q7 : W1.cell? ⟨w.heap.size, 7, none⟩ = some (.map (some mb)) := hP.eight.2.2.2.2.2.2.2
 obtain ⟨f, hlk, hf⟩ := FMap.kind (hM.keep hB1) r.fup hd
 obtain ⟨W2, hW2, hX, hz2, hB2⟩ := box W1 #[.string f.dig, .int .i64 f.size, .int .i64 f.kind, .string f.frm] 30
 have HW2 := Lib.hid hW2
 have HBB := Lib.hid (below_up hB1 hB2)
 have hnd : St.neededD s d = if f.kind = 1 then St.kept s d else if f.kind = 2 then St.kept s f.frm else false := by
  rw [St.neededD_eq, ← hf]
  by_cases h1 : f.kind = 1
  ·rw [if_pos h1, if_pos h1, hf, St.fil_dig (by rw [← hf]; omega)]
  ·rw [if_neg h1, if_neg h1]
 have HND := Lib.hid hnd
 obtain ⟨_, y1, y2, y3, y4, y5⟩ := St.sizes_iff.1 r.sizes
 have HHR := Lib.hid (fun V => held_is s a V)
 have HBR := Lib.hid (fun V => binRow_is s a V)
 have HHS := Lib.hid (fun V (hv : Below W2.heap.size W2 V) k => hasS_is s.held r.hup (by omega) k a.ha a.hc V hI.hl ((hI.he.keep HBB.out).keep hv))
 have HBS := Lib.hid (fun V (hv : Below W2.heap.size W2 V) k => hasG_is s.bin r.bup (by omega) k a.ba a.bc V hI.bl ((hI.bi.keep HBB.out).keep hv))
 have HVC : Hid (∀ V, Below W2.heap.size W2 V → V.cell? ⟨w.heap.size, 0, none⟩ = some (.int .i64 s.least) ∧ V.cell? ⟨w.heap.size, 1, none⟩ = some (.int .i64 s.wait) ∧ V.cell? ⟨w.heap.size, 2, none⟩ = some (.slice a.ta s.tiers.length a.tc) ∧ V.cell? ⟨w.heap.size, 3, none⟩ = some (.slice a.fa s.files.length a.fc) ∧ V.cell? ⟨w.heap.size, 4, none⟩ = some (.slice a.ca s.copies.length a.cc) ∧ V.cell? ⟨w.heap.size, 5, none⟩ = some (.slice a.ha s.held.length a.hc) ∧ V.cell? ⟨w.heap.size, 6, none⟩ = some (.slice a.ba s.bin.length a.bc) ∧ V.cell? ⟨w.heap.size, 7, none⟩ = some (.map (some mb))) := Lib.hid fun V hv => ((hP.keep hB2).keep hv).eight
 have HUC : Hid (∀ V, Below W2.heap.size W2 V → V.cell? ⟨W1.heap.size, 3, none⟩ = some (.string f.frm)) := Lib.hid fun V hv => ((hX.keep hv).four).2.2.2
 obtain ⟨p0, p1, p2, p3, p4, p5, p6, p7⟩ := (hP.keep hB2).eight
 obtain ⟨x0, x1, x2, x3⟩ := hX.four
 clear hI hM r hW1 hP hz1 hB1 hW2 hX hz2 hB2 hf hnd
 go_enter Tryz.func171, Tryz.ntmps171
 go_wp2_with fail
 rw [HW1.out]
 go_upto_region 2 with fail
 rw [hlk]
 go_upto_region 2 with fail
 rw [HW2.out]
 clear q7 hlk
 by_cases hk1 : f.kind = 1
 ·have hkb : (f.kind == 1) = true := by simpa using hk1
  have hnd := HND.out
  rw [if_pos hk1, St.kept_eq] at hnd
  have HH := Lib.hid (fun V hv => HHS.out V hv d)
  have HG := Lib.hid (fun V hv => HBS.out V hv d)
  generalize St.hasS s.held d = b1 at *
  generalize St.hasK St.gdig s.bin d = b2 at *
  have HN := Lib.hid hnd
  clear hnd
  generalize f.kind = kd at *
  subst hk1
  cases b1
  all_goals
   go_wp2_with (first
    | (go_at_call 58; (with_reducible refine (HHR.out _).mono ?_); rintro e w3 ⟨rfl, hB3⟩)
    | (go_at_call 63; (with_reducible refine (HH.out _ hB3).mono ?_); rintro e w4 ⟨rfl, hB4⟩; have hv4 := below_up hB3 hB4; obtain ⟨p0, p1, p2, p3, p4, p5, p6, p7⟩ := HVC.out _ hv4)
    | (go_at_call 60; (with_reducible refine (HBR.out _).mono ?_); rintro e w5 ⟨rfl, hB5⟩; have hv5 := below_up hv4 hB5)
    | (go_at_call 62; (with_reducible refine (HG.out _ hv5).mono ?_); rintro e w6 ⟨rfl, hB6⟩; have hv4 := below_up hv5 hB6))
   go_ret
   exact ⟨ret_bool (by rw [HN.out]; rfl), below_up HBB.out hv4⟩
 ·have hkb : (f.kind == 1) = false := by simpa using hk1
  by_cases hk2 : f.kind = 2
  ·have hkc : (f.kind == 2) = true := by simpa using hk2
   have hnd := HND.out
   rw [if_neg hk1, if_pos hk2, St.kept_eq] at hnd
   have HH := Lib.hid (fun V hv => HHS.out V hv f.frm)
   have HG := Lib.hid (fun V hv => HBS.out V hv f.frm)
   generalize St.hasS s.held f.frm = b1 at *
   generalize St.hasK St.gdig s.bin f.frm = b2 at *
   have HN := Lib.hid hnd
   clear hnd hk1
   generalize f.kind = kd at *
   subst hk2
   have HRH := Lib.hid (fun d os => Calls.regrown_of (HHR.out (grow (redrawn W2 d) os)))
   have HRB := Lib.hid (fun d os => Calls.regrown_of (HBR.out (grow (redrawn W2 d) os)))
   have HRS := Lib.hid (fun d os => Calls.regrown_of (HH.out (grow (redrawn W2 d) os) (below_regrown W2 d os)))
   have HRG := Lib.hid (fun d os => Calls.regrown_of (HG.out (grow (redrawn W2 d) os) (below_regrown W2 d os)))
   go_upto_region 6 with fail
   have k0 := cell_regrown p0
   have k1 := cell_regrown p1
   have k2 := cell_regrown p2
   have k3 := cell_regrown p3
   have k4 := cell_regrown p4
   have k5 := cell_regrown p5
   have k6 := cell_regrown p6
   have k7 := cell_regrown x3
   clear p0 p1 p2 p3 p4 p5 p6 p7 x0 x1 x2 x3
   cases b1
   all_goals
    refine wp_region_quiet_below (by kernel_rfl) (by kernel_rfl) ?_
    repeat (go_big_quiet_step ((first | (go_at_call 58; with_reducible exact HRH.out _ _) | (go_at_call 60; with_reducible exact HRB.out _ _) | (go_at_call 63; with_reducible exact HRS.out _ _) | (go_at_call 62; with_reducible exact HRG.out _ _))))
    refine wpQuiet_nil ?_
    intro _ hw'
    obtain ⟨⟨dq, osq⟩, hw''⟩ := hw'
    subst hw''
    have hBw9 := below_regrown W2 dq osq
    generalize grow (redrawn W2 dq) osq = w9 at *
    clear dq osq
    go_wp2_with fail
    go_ret
    exact ⟨ret_bool (by rw [HN.out]; rfl), below_up HBB.out hBw9⟩
  ·have hkc : (f.kind == 2) = false := by simpa using hk2
   have hnd := HND.out
   rw [if_neg hk1, if_neg hk2] at hnd
   have HN := Lib.hid hnd
   clear hnd
   go_wp2_with fail
   go_ret
   exact ⟨ret_bool (by rw [HN.out]), HBB.out⟩
def DelOk {α : Type} (E : Enc α) (val : α → Value) (w0 : World) (g : Nat) (c : FuncId) (lb : Array Value) (p : α → Bool) (L : List α) : Prop :=
 ∀ (V : World) (x : α), x ∈ L → w0.grownBy V (some g) → Calls Tryz.prog c (#[val x] ++ lb) V fun e w' => e = .returned (.bool (p x)) ∧ Below V.heap.size V w'
theorem St.del_start {α : Type} {p : α → Bool} {L : List α} {j : Nat} {x : α} (hx : L[j]? = some x) (hp : p x = true) (hb : ∀ k y, k < j → L[k]? = some y → p y = false) : L.take j = (L.take (j + 1)).filter (fun y => !p y) := by
 rw [List.take_add_one, hx, List.filter_append]
 have h1 : (L.take j).filter (fun y => !p y) = L.take j := List.filter_eq_self.2 (fun y hy => by
  obtain ⟨i, hi⟩ := List.getElem?_of_mem hy
  have hij : i < j := by
   have := (List.getElem?_eq_some_iff.1 hi).1
   rw [List.length_take] at this; omega
  rw [List.getElem?_take_of_lt hij] at hi
  rw [hb i y hij hi]; rfl)
 rw [h1]
 simp [hp]
theorem St.del_none {α : Type} {p : α → Bool} {L : List α} (h : St.idx p L 0 < 0) : L.filter (fun y => !p y) = L :=
 List.filter_eq_self.2 (fun y hy => by rw [St.idx_neg.1 h y hy]; rfl)
theorem St.del_drop {α : Type} {L M : List α} {j : Nat} (h : M.drop j = L.drop j) : M.drop (j + 1) = L.drop (j + 1) := by
 have := congrArg (List.drop 1) h
 rwa [List.drop_drop, List.drop_drop] at this
theorem St.del_at {α : Type} {L M : List α} {j : Nat} (h : M.drop j = L.drop j) : M[j]? = L[j]? := by
 have := congrArg (fun l => l[0]?) h
 simpa using this
theorem St.del_skip {α : Type} {p : α → Bool} {L M : List α} {i j : Nat} {x : α} (h : M.take i = (L.take j).filter (fun y => !p y)) (hx : L[j]? = some x) (hp : p x = true) : M.take i = (L.take (j + 1)).filter (fun y => !p y) := by
 rw [h, List.take_add_one, hx, List.filter_append]
 simp [hp]
theorem St.del_move {α : Type} {p : α → Bool} {L M : List α} {i j : Nat} {x : α} (h : M.take i = (L.take j).filter (fun y => !p y)) (hi : i < M.length) (hx : L[j]? = some x) (hp : p x = false) : (M.set i x).take (i + 1) = (L.take (j + 1)).filter (fun y => !p y) := by
 have h1 : (M.set i x)[i]? = some x := by rw [List.getElem?_set_self hi]
 rw [List.take_add_one, h1, List.take_set_of_le (Nat.le_refl _), h, List.take_add_one, hx, List.filter_append]
 simp [hp]
theorem St.del_far {α : Type} {L M : List α} {i j : Nat} {x : α} (h : M.drop j = L.drop j) (hi : i < j) : (M.set i x).drop (j + 1) = L.drop (j + 1) := by
 rw [List.drop_set_of_lt (by omega)]
 exact St.del_drop h

theorem strF_idx (fn : FuncId) (lb : Array Value) (eg : ∀ args w, (callFunc fn args).run Tryz.prog w = .ok (.enter fn args) w) (p : ByteArray → Bool) (L : List ByteArray) (sa : Option Addr) (sc : Nat) (w : World) (hr : RowE St.eS w sa L) (hl : L.length ≤ sc ∧ sc ≤ 9223372036854775807)
  (HD : ∀ (V : World) (x : ByteArray), x ∈ L → Below w.heap.size w V → Calls Tryz.prog fn (#[.string x] ++ lb) V fun e w' => e = .returned (.bool (p x)) ∧ Below V.heap.size V w') :
  Calls Tryz.prog 161 #[.slice sa L.length sc, .func (.func fn) #[] lb] w fun e w' => e = .returned (.int .i64 (St.idx p L 0)) ∧ Below w.heap.size w w' := by
 have HR := Lib.hid hr; have HD := Lib.hid HD
 obtain ⟨q, hq⟩ : ∃ q, St.idx p L 0 = q := ⟨_, rfl⟩
 rw [hq]
 have HQ : Hid (St.idx p (L.drop 0) 0 = q) := Lib.hid hq
 obtain ⟨n, hn⟩ : ∃ n, L.length = n := ⟨_, rfl⟩
 have HN := Lib.hid hn
 rw [hn] at hl ⊢
 clear hr hq hn
 go_enter Tryz.func161, Tryz.ntmps161
 go_wp2_with fail
 go_loopg [8] n (fun gk i wr => ∃ j : Nat, j ≤ n ∧ gk = n - j ∧ i = .int .i64 j ∧ St.idx p (L.drop j) j = q ∧ Below w.heap.size w wr)
 case atStart => exact ⟨0, by omega, rfl, rfl, HQ.out, Below.refl _ _⟩
 case round =>
  obtain ⟨j, hj, rfl, rfl, hs, hB⟩ := hrel
  have HSC := Lib.hid hs; clear hs
  by_cases hlt : j < n
  ·obtain ⟨x, hx⟩ : ∃ x, L[j]? = some x := ⟨_, List.getElem?_eq_getElem (by rw [HN.out]; exact hlt)⟩
   obtain ⟨b, off, ha, hb, hcell⟩ := (HR.out.keep hB) (by rw [HN.out]; omega)
   have c0 : wr.cell? ⟨b, off + j, none⟩ = some (.string x) := by have := hcell j x hx 0 (.string x) rfl; rw [show off + j * St.eS.k + 0 = off + j by simp [St.eS]] at this; exact this
   have HX := Lib.hid hx
   have HC := Lib.hid (HD.out wr x (List.mem_of_getElem? hx) hB)
   have hj0 : (0 : Int) ≤ (j : Int) := by omega
   have hj1 : (j : Int) < (n : Int) := by omega
   obtain ⟨bq, hbq⟩ : ∃ bq, p x = bq := ⟨_, rfl⟩
   rw [hbq] at HC
   have HBQ := Lib.hid hbq
   rw [ha]
   cases bq
   ·have HE := Lib.hid (St.idx_next HSC.out HX.out HBQ.out)
    clear hx hbq hcell
    go_wp2_with fail
    refine HC.out.mono ?_
    rintro e w4 ⟨rfl, hB4⟩
    go_wp2_with fail
    rw [← ha]
    go_roundg (n - (j + 1))
    case rel => exact ⟨j + 1, by omega, rfl, by go_num, HE.out, below_up hB hB4⟩
    case measure => omega
   ·have HE := Lib.hid (St.idx_here HSC.out HX.out HBQ.out)
    clear hx hbq hcell
    go_wp2_with fail
    refine HC.out.mono ?_
    rintro e w4 ⟨rfl, hB4⟩
    go_wp2_with fail
    go_ret
    exact ⟨ret_int HE.out, below_up hB hB4⟩
  ·obtain rfl : j = n := by omega
   have HE := HSC.out
   rw [← HN.out] at HE
   have HE2 := Lib.hid (St.idx_end HE)
   clear HE
   go_wp2_with fail
   go_ret
   exact ⟨ret_int HE2.out, hB⟩


theorem strF_del (fn : FuncId) (lb : Array Value) (eg : ∀ args w, (callFunc fn args).run Tryz.prog w = .ok (.enter fn args) w) (p : ByteArray → Bool) (B g n cap : Nat) (L : List ByteArray) (w : World) (h : OwnC w B 9 1 g n cap (St.eS.flat L)) (hn : n ≤ 1000000) (hL : L.length = n) (HD : DelOk St.eS (fun x => .string x) w g fn lb p L) :
  Calls Tryz.prog 87 #[.slice (some ⟨g, 0, none⟩) n cap, .func (.func fn) #[] lb] w fun e w' => e = .returned (.slice (some ⟨g, 0, none⟩) (L.filter (fun y => !p y)).length cap) ∧ OwnC w' B 9 1 g (L.filter (fun y => !p y)).length cap (St.eS.flat (L.filter (fun y => !p y))) ∧ w.grownBy w' (some g) := by
 have h0 := h
 obtain ⟨cur, hB, hc, hnc, hcm, hcs, htk, hl⟩ := h0
 have hcm2 : cap ≤ 9223372036854775807 := hcm
 have HIX := Lib.hid (strF_idx fn lb eg p L (some ⟨g, 0, none⟩) cap w (RowE.ofV (E := St.eS) (ca := cap) (.inr ⟨g, cap, by rw [hL], by rw [hL]; exact h⟩)) (by omega) (fun V x hx hb => HD V x hx (grown_below (grown_self w g) hb)))
 rw [hL] at HIX
 have HO := Lib.hid h; have HLN := Lib.hid hL; have HD := Lib.hid HD
 by_cases hneg : St.idx p L 0 < 0
 ·have hfl := St.del_none hneg
  have hi1 : St.idx p L 0 = -1 := St.idx_none (St.idx_neg.1 hneg)
  rw [hi1] at HIX
  rw [hfl]
  clear h hc hcs htk hl hfl hi1 hneg hL
  go_enter Tryz.func87, Tryz.ntmps87
  go_wp2_with (go_at_call 161; (with_reducible refine HIX.out.mono ?_); rintro e w3 ⟨rfl, hB3⟩)
  go_ret
  rw [HLN.out]
  exact ⟨rfl, HO.out.keep hB3, grown_below (grown_self w g) hB3⟩
 ·obtain ⟨j0, x0, hq, hx0, hp0, hbef⟩ := St.idx_some (p := p) (L := L) (i := 0) rfl (by omega)
  have hq : St.idx p L 0 = (j0 : Int) := by rw [hq]; simp
  have hj0n : j0 < n := by rw [← hL]; exact (List.getElem?_eq_some_iff.1 hx0).1
  rw [hq] at HIX
  have HST := Lib.hid (St.del_start hx0 hp0 hbef)
  have hne : ((j0 : Int) == -1) = false := by simp
  clear h hc hcs htk hl hq hneg hL hx0 hp0 hbef
  go_enter Tryz.func87, Tryz.ntmps87
  go_wp2_with (go_at_call 161; (with_reducible refine HIX.out.mono ?_); rintro e w3 ⟨rfl, hB3⟩)
  go_loopg [5, 6] (n - (j0 + 1)) (fun gk iv jv wr => ∃ (i j : Nat) (M : List ByteArray), iv = .int .i64 i ∧ jv = .int .i64 j ∧ i < j ∧ j ≤ n ∧ gk = n - j ∧ M.length = n ∧ M.take i = (L.take j).filter (fun y => !p y) ∧ M.drop j = L.drop j ∧ OwnC wr B 9 1 g n cap (St.eS.flat M) ∧ w.grownBy wr (some g))
  case atStart => exact ⟨j0, j0 + 1, L, rfl, by go_num, by omega, by omega, by omega, HLN.out, HST.out, rfl, HO.out.keep hB3, grown_below (grown_self w g) hB3⟩
  case round =>
   obtain ⟨i, j, M, rfl, rfl, hij, hjn, rfl, hM, htk, hdr, hown, hgw⟩ := hrel
   have HML := Lib.hid hM; have HTK := Lib.hid htk; have HDR := Lib.hid hdr; have HOW := Lib.hid hown; have HGW := Lib.hid hgw
   have hlt0 := hown.lt
   clear hM htk hdr hgw
   by_cases hlt : j < n
   ·obtain ⟨x, hx⟩ : ∃ x, M[j]? = some x := ⟨_, List.getElem?_eq_getElem (by rw [HML.out]; exact hlt)⟩
    have hxL : L[j]? = some x := by rw [← St.del_at HDR.out]; exact hx
    have HXL := Lib.hid hxL
    have hj0 : (0 : Int) ≤ (j : Int) := by omega
    have hj1 : (j : Int) < (n : Int) := by omega
    have hi0 : (0 : Int) ≤ (i : Int) := by omega
    have hi1 : (i : Int) < (n : Int) := by omega
    have HMM := Lib.hid (List.mem_of_getElem? hxL)
    have c0 : wr.cell? ⟨g, j, none⟩ = some (.string x) := (hown.cellAt j (by omega)).trans (by have := Enc.flat_get St.eS M j x hx 0 (by decide); simpa [St.eS] using this)
    have HC := Lib.hid (HD.out wr x HMM.out HGW.out)
    clear hx hxL hown
    obtain ⟨bq, hbq⟩ : ∃ bq, p x = bq := ⟨_, rfl⟩
    rw [hbq] at HC
    have HBQ := Lib.hid hbq
    clear hbq
    cases bq
    ·go_wp2_with fail
     refine HC.out.mono ?_
     rintro e w4 ⟨rfl, hB4⟩
     have how4 := HOW.out.keep hB4
     obtain ⟨cur4, _, hc4, _⟩ := id how4
     have hfz := fun o => frozen_of hc4 o
     have hce : ∃ v, w4.cell? ⟨g, i, none⟩ = some v := by
      have := how4.cellAt i (by omega)
      exact ⟨_, this.trans (List.getElem?_eq_getElem (by rw [St.eS.flat_len, HML.out]; simp [St.eS]; omega))⟩
     obtain ⟨v0, hv0⟩ := hce
     have hfz0 := hfz i
     go_wp2_with fail
     go_roundg (n - (j + 1))
     case rel =>
      refine ⟨i + 1, j + 1, M.set i x, by go_num, by go_num, by omega, by omega, rfl, by rw [List.length_set]; exact HML.out, St.del_move HTK.out (by rw [HML.out]; omega) HXL.out HBQ.out, St.del_far HDR.out hij, ?_, ?_⟩
      ·have h1 := how4.setCell (p := i) (by omega) (.string x)
       have h2 : St.eS.flat (M.set i x) = (St.eS.flat M).set i (.string x) := by
        have h3 := Enc.flat_set1 St.eS (.string x) 0 (by decide) (M[i]'(by rw [HML.out]; omega)) x rfl M i (List.getElem?_eq_getElem (by rw [HML.out]; omega))
        simpa [St.eS] using h3
       rw [h2]; exact h1
      ·exact grown_set (grown_below HGW.out hB4) _ _
     case measure => omega
    ·go_wp2_with fail
     refine HC.out.mono ?_
     rintro e w4 ⟨rfl, hB4⟩
     go_wp2_with fail
     go_roundg (n - (j + 1))
     case rel => exact ⟨i, j + 1, M, rfl, by go_num, by omega, by omega, rfl, HML.out, St.del_skip HTK.out HXL.out HBQ.out, St.del_drop HDR.out, HOW.out.keep hB4, grown_below HGW.out hB4⟩
     case measure => omega
   ·obtain rfl : j = n := by omega
    have hjn1 : ¬ ((j : Int) < (j : Int)) := by omega
    have hf : M.take i = L.filter (fun y => !p y) := by
     have h := HTK.out
     rw [← HLN.out, List.take_length] at h
     exact h
    have hfl : (L.filter (fun y => !p y)).length = i := by rw [← hf, List.length_take, HML.out]; omega
    obtain ⟨w5, hr5, ⟨zs, ho5⟩, hg5⟩ := own_clear (P := Tryz.prog) hown 25 Tryz.underlying25 (.string ByteArray.empty) (fun w => by kernel_rfl) rfl (by decide) (i * 1) (j - i) (by omega) (by omega)
    try simp only [Nat.mul_one] at hr5
    have hfm : (St.eS.flat M).take (i * 1) = St.eS.flat (M.take i) := Enc.flat_take St.eS M i
    have hfm2 : (St.eS.flat M).length = j * 1 := by rw [St.eS.flat_len, HML.out]; rfl
    have ho6 := own_less ho5 (m := i) (by omega)
    rw [List.take_left' (by rw [List.length_take, hfm2]; omega), hfm, hf] at ho6
    have HO6 := Lib.hid ho6; have HG6 := Lib.hid (HGW.out.trans hg5); have HFL := Lib.hid hfl
    have hb5 : ¬ cap = i := by omega
    have hi0 : (0 : Int) ≤ (i : Int) := by omega
    have hi1 : (i : Int) ≤ (j : Int) := by omega
    clear ho5 ho6 hg5 hown hfm hfm2 hf hfl
    go_wp2_with (at_builtin; refine Lib.wpList_clear_run _ rfl _ _ rfl _ rfl (hr5 _ _) ?_)
    go_ret
    rw [HFL.out]
    exact ⟨rfl, HO6.out, HG6.out⟩


theorem neTir (n : ByteArray) (r c : Int) (y : Bool) (w : World) : Sem.run Tryz.prog (binOp .neq 46 (.agg #[.string n, .int .i64 r, .int .i64 c, .bool y]) (.agg #[.string n, .int .i64 r, .int .i64 c, .bool y])) w = .ok (.bool false) w := by
 have u3 := Tryz.underlying3
 have a3 := Tryz.isAgg3
 have z3 := Tryz.sizeOf3
 have u9 := Tryz.underlying9
 have a9 := Tryz.isAgg9
 have z9 := Tryz.sizeOf9
 have u4 := Tryz.underlying4
 have a4 := Tryz.isAgg4
 have z4 := Tryz.sizeOf4
 have hS : Tryz.prog.underlying 46 = some (.struct (Tryz.prog.fieldsOf 46)) := by kernel_rfl
 have hp : Tryz.prog.stoodInHeld 46 = false := by kernel_rfl
 rw [run_neq_struct, show (10000 : Nat) = 9999 + 1 from rfl, run_equalIn_agg w 9999 46 _ _ hS hp]
 simp only [Program.fieldsOf, Tryz.underlying46]
 go_simp
 try simp

theorem neFil (n : ByteArray) (r c : Int) (y : ByteArray) (w : World) : Sem.run Tryz.prog (binOp .neq 30 (.agg #[.string n, .int .i64 r, .int .i64 c, .string y]) (.agg #[.string n, .int .i64 r, .int .i64 c, .string y])) w = .ok (.bool false) w := by
 have u3 := Tryz.underlying3
 have a3 := Tryz.isAgg3
 have z3 := Tryz.sizeOf3
 have u9 := Tryz.underlying9
 have a9 := Tryz.isAgg9
 have z9 := Tryz.sizeOf9
 have u4 := Tryz.underlying4
 have a4 := Tryz.isAgg4
 have z4 := Tryz.sizeOf4
 have hS : Tryz.prog.underlying 30 = some (.struct (Tryz.prog.fieldsOf 30)) := by kernel_rfl
 have hp : Tryz.prog.stoodInHeld 30 = false := by kernel_rfl
 rw [run_neq_struct, show (10000 : Nat) = 9999 + 1 from rfl, run_equalIn_agg w 9999 30 _ _ hS hp]
 simp only [Program.fieldsOf, Tryz.underlying30]
 go_simp
 try simp

theorem neCop (n r : ByteArray) (c : Bool) (y : Int) (w : World) : Sem.run Tryz.prog (binOp .neq 74 (.agg #[.string n, .string r, .bool c, .int .i64 y]) (.agg #[.string n, .string r, .bool c, .int .i64 y])) w = .ok (.bool false) w := by
 have u3 := Tryz.underlying3
 have a3 := Tryz.isAgg3
 have z3 := Tryz.sizeOf3
 have u9 := Tryz.underlying9
 have a9 := Tryz.isAgg9
 have z9 := Tryz.sizeOf9
 have u4 := Tryz.underlying4
 have a4 := Tryz.isAgg4
 have z4 := Tryz.sizeOf4
 have hS : Tryz.prog.underlying 74 = some (.struct (Tryz.prog.fieldsOf 74)) := by kernel_rfl
 have hp : Tryz.prog.stoodInHeld 74 = false := by kernel_rfl
 rw [run_neq_struct, show (10000 : Nat) = 9999 + 1 from rfl, run_equalIn_agg w 9999 74 _ _ hS hp]
 simp only [Program.fieldsOf, Tryz.underlying74]
 go_simp
 try simp

theorem neGon (n : ByteArray) (c : Int) (w : World) : Sem.run Tryz.prog (binOp .neq 112 (.agg #[.string n, .int .i64 c]) (.agg #[.string n, .int .i64 c])) w = .ok (.bool false) w := by
 have u3 := Tryz.underlying3
 have a3 := Tryz.isAgg3
 have z3 := Tryz.sizeOf3
 have u9 := Tryz.underlying9
 have a9 := Tryz.isAgg9
 have z9 := Tryz.sizeOf9
 have u4 := Tryz.underlying4
 have a4 := Tryz.isAgg4
 have z4 := Tryz.sizeOf4
 have hS : Tryz.prog.underlying 112 = some (.struct (Tryz.prog.fieldsOf 112)) := by kernel_rfl
 have hp : Tryz.prog.stoodInHeld 112 = false := by kernel_rfl
 rw [run_neq_struct, show (10000 : Nat) = 9999 + 1 from rfl, run_equalIn_agg w 9999 112 _ _ hS hp]
 simp only [Program.fieldsOf, Tryz.underlying112]
 go_simp
 try simp
theorem guardTir : Tryz.prog.eqGuardType Tryz.prog.depth 46 = false := by kernel_rfl
theorem guardFil : Tryz.prog.eqGuardType Tryz.prog.depth 30 = false := by kernel_rfl
theorem guardCop : Tryz.prog.eqGuardType Tryz.prog.depth 74 = false := by kernel_rfl
theorem guardGon : Tryz.prog.eqGuardType Tryz.prog.depth 112 = false := by kernel_rfl
theorem eqS_same (O : List ByteArray) (a b : Option Addr) (ca cb : Nat) (w : World) (hx : RowE St.eS w a O) (hy : RowE St.eS w b O) (hn : O.length ≤ 9223372036854775807) :
  Calls Tryz.prog 37 #[.slice a O.length ca, .slice b O.length cb] w fun e w' => e = .returned (.bool true) ∧ Below w.heap.size w w' := by
 have HX := Lib.hid hx; have HY := Lib.hid hy
 obtain ⟨n, hnn⟩ : ∃ n, O.length = n := ⟨_, rfl⟩
 have HN := Lib.hid hnn
 rw [hnn] at hn ⊢
 have hl' : ((n : Int) == (n : Int)) = true := by simp
 clear hx hy hnn
 go_enter Tryz.func37, Tryz.ntmps37
 go_wp2_with fail
 go_loopg [13] n (fun gk i wr => ∃ j : Nat, j ≤ n ∧ gk = n - j ∧ i = .int .i64 j ∧ Below w.heap.size w wr)
 case atStart => exact ⟨0, by omega, rfl, rfl, Below.refl _ _⟩
 case round =>
  obtain ⟨j, hj, rfl, rfl, hB⟩ := hrel
  by_cases hlt : j < n
  ·obtain ⟨x, hq⟩ : ∃ x, O[j]? = some x := ⟨_, List.getElem?_eq_getElem (by rw [HN.out]; exact hlt)⟩
   obtain ⟨b1, o1, ha1, hb1, hc1⟩ := HX.out.keep hB (by rw [HN.out]; omega)
   obtain ⟨b2, o2, ha2, hb2, hc2⟩ := HY.out.keep hB (by rw [HN.out]; omega)
   have c0 : wr.cell? ⟨b1, o1 + j, none⟩ = some (.string x) := by have := hc1 j x hq 0 (.string x) rfl; rw [show o1 + j * St.eS.k + 0 = o1 + j by simp [St.eS]] at this; exact this
   have d0 : wr.cell? ⟨b2, o2 + j, none⟩ = some (.string x) := by have := hc2 j x hq 0 (.string x) rfl; rw [show o2 + j * St.eS.k + 0 = o2 + j by simp [St.eS]] at this; exact this
   have hj0 : (0 : Int) ≤ (j : Int) := by omega
   have hj1 : (j : Int) < (n : Int) := by omega
   clear hc1 hc2 hq
   rw [ha1, ha2]
   go_wp2_with fail
   go_quiet (fail)
   go_wp2_with fail
   rw [← ha1, ← ha2]
   go_roundg (n - (j + 1))
   case rel => exact ⟨j + 1, by omega, rfl, by go_num, below_drewN hB _⟩
   case measure => omega
  ·obtain rfl : j = n := by omega
   have hjn : ¬ ((j : Int) < (j : Int)) := by omega
   go_wp2_with fail
   go_ret
   exact ⟨rfl, hB⟩
def Sto.zero : Sto := ⟨0, 0, [], [], [], [], []⟩
def StA.zero : StA := ⟨none, 0, none, 0, none, 0, none, 0, none, 0⟩
theorem StIn.zero (w : World) : StIn w Sto.zero StA.zero :=
 ⟨RowE.nil _ _ _, RowE.nil _ _ _, RowE.nil _ _ _, RowE.nil _ _ _, RowE.nil _ _ _, ⟨Nat.le_refl _, by decide⟩, ⟨Nat.le_refl _, by decide⟩, ⟨Nat.le_refl _, by decide⟩, ⟨Nat.le_refl _, by decide⟩, ⟨Nat.le_refl _, by decide⟩, fun _ h => (by cases h), fun _ h => (by cases h), fun _ h => (by cases h), fun _ h => (by cases h), fun _ h => (by cases h)⟩
theorem StIn.two {w : World} {s : Sto} {a : StA} (h : StIn w s a) {H : List ByteArray} {B : List Gon} {ga gb : Option Addr} {gc gd : Nat} (h1 : RowE St.eS w ga H) (h2 : H.length ≤ gc ∧ gc ≤ 9223372036854775807) (h3 : RowE St.eG w gb B) (h4 : B.length ≤ gd ∧ gd ≤ 9223372036854775807) (h5 : ∀ d ∈ H, d.size ≤ 9223372036854775807) (h6 : ∀ g ∈ B, g.dig.size ≤ 9223372036854775807) :
  StIn w { s with held := H, bin := B } ⟨a.ta, a.tc, a.fa, a.fc, a.ca, a.cc, ga, gc, gb, gd⟩ :=
 ⟨h.ti, h.fi, h.co, h1, h3, h.tl, h.fl, h.cl, h2, h4, h.tz, h.fz, h.cz, h5, h6⟩
theorem St.dsz {s : Sto} (r : St.Right s) {d : ByteArray} (h : St.kindOf s.files d = 1) : d.size = 16 := by
 obtain ⟨f, hf, _, hd, _⟩ := St.kind_mem h
 exact St.file16 r hf
theorem OwnV.far {w w' : World} {B k n g : Nat} {e e' : TypeId} {v : Value} {xs : List Value} {cur : Array Value} (h : OwnV w B e k v n xs) (hg : w.heap[g]? = some (.cells cur e' (0, 0))) (hne : e ≠ e') (hw : w.grownBy w' (some g)) : OwnV w' B e k v n xs := by
 rcases h with h | ⟨g0, cap, h, hc⟩
 ·exact .inl h
 ·refine .inr ⟨g0, cap, h, hc.of_block (hw.block g0 hc.lt.2 ?_)⟩
  obtain ⟨cur0, _, h0, _⟩ := hc
  intro e2
  cases e2
  rw [hg] at h0
  cases h0
  exact hne rfl
theorem OwnV.seven {w : World} {B k n b : Nat} {e : TypeId} {v : Value} {xs : List Value} (h : OwnV w B e k v n xs) (hb : b < B) (i0 i1 i2 i3 i4 i5 i6 : Nat) (u0 u1 u2 u3 u4 u5 u6 : Value) : OwnV (((((((w.setCell ⟨b, i0, none⟩ u0).setCell ⟨b, i1, none⟩ u1).setCell ⟨b, i2, none⟩ u2).setCell ⟨b, i3, none⟩ u3).setCell ⟨b, i4, none⟩ u4).setCell ⟨b, i5, none⟩ u5).setCell ⟨b, i6, none⟩ u6).drew B e k v n xs := by
 refine OwnV.keep ?_ (Below.refl _ _).drew
 exact ((((((h.next (Below.refl _ _) hb).next (Below.refl _ _) hb).next (Below.refl _ _) hb).next (Below.refl _ _) hb).next (Below.refl _ _) hb).next (Below.refl _ _) hb).next (Below.refl _ _) hb
end Go.Proofs.YthdiccdnggloiaaGreatDoor
namespace Go.Proofs.YthdiccdnggloiaaGreatDoor
open Go.RowKit
structure Lck where
 dig : ByteArray
 cop : Int
 awy : Int
namespace St
def eL : Enc Lck := ⟨3, fun m => [.string m.dig, .int .i64 m.cop, .int .i64 m.awy], fun _ => rfl, fun t u h => by simp only [List.mem_cons, List.not_mem_nil, or_false] at h; rcases h with rfl | rfl | rfl <;> rfl⟩
theorem awayN_le (L : List Tir) : awayN L ≤ L.length := List.countP_le_length
def lackOf (s : Sto) (d : ByteArray) : Lck := ⟨d, ((goodL s d).length : Nat), (awayN (goodL s d) : Nat)⟩
def shortC (s : Sto) : List Lck := ((neededL s).filter (short s)).map (lackOf s)
theorem awayN_next {L : List Tir} {j : Nat} {x : Tir} (h : L[j]? = some x) : awayN (L.take (j + 1)) = awayN (L.take j) + (if x.away = true then 1 else 0) := by
 unfold awayN
 rw [List.take_add_one, h, List.countP_append]
 congr 1
 simp only [Option.toList_some, List.countP_cons, List.countP_nil]
 simp
theorem neededL_len (s : Sto) : (neededL s).length ≤ s.files.length := by
 unfold neededL
 rw [List.length_map]
 exact List.length_filter_le _ _
theorem needed_16 {s : Sto} (r : Right s) {d : ByteArray} (h : d ∈ neededL s) : d.size = 16 := by
 unfold neededL at h
 obtain ⟨f, hf, rfl⟩ := List.mem_map.1 h
 exact dig16 (r.dig f (List.mem_filter.1 hf).1).1
end St
end Go.Proofs.YthdiccdnggloiaaGreatDoor
