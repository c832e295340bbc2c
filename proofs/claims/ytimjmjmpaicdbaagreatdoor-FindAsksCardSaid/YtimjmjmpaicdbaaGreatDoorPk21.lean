/- Parts of the proof, no condition: CmpLays, RefA, RefI, RefN. -/
import Derived.Shelf.Small.Strs
import Derived.Test.YtimjmjmpaicdbaaGreatDoorProg
import Derived.Test.YtimjmjmpaicdbaaGreatDoorPk14
import Derived.Lib.Overlaps
import Derived.Lib.AppendZerosOnto
set_option maxRecDepth 100000
set_option maxHeartbeats 8000000
set_option linter.unusedSimpArgs false
set_option linter.unusedVariables false
namespace Go.Proofs.YtimjmjmpaicdbaaGreatDoor
open Go.Shelf
def Lay.cmpS_ren : Go.Shelf.Ren := ⟨fun | 106 => 93 | 213 => 150 | 265 => 183 | n => n, fun | 9 => 9 | 3 => 3 | n => n, fun | n => n⟩
theorem Lay.cmpS : Go.Proofs.Lays.n106 Tryz.prog Lay.cmpS_ren := {
 mixed := by kernel_rfl
 f106 := Tryz.func93.trans (congrArg some (by kernel_rfl))
 f213 := Tryz.func150.trans (congrArg some (by kernel_rfl))
 f265 := Tryz.func183.trans (congrArg some (by kernel_rfl))
 t3 := Tryz.underlying3
 a3 := Tryz.isAgg3
 z3 := Tryz.sizeOf3
 v3 := Tryz.zeroValue3
 t9 := Tryz.underlying9
 a9 := Tryz.isAgg9
 z9 := Tryz.sizeOf9
 v9 := Tryz.zeroValue9 }
end Go.Proofs.YtimjmjmpaicdbaaGreatDoor
namespace Go.Proofs.YtimjmjmpaicdbaaGreatDoor
open Go.RowKit Go.Sort Go.Shelf
theorem Ak.neg_lt {d : Bool} {x y q : Int} (h : Ak.dir d (Ak.ci x y) = q) (g : x < y) : decide (q < 0) = !d ∧ q ≠ 0 := by
 subst h; unfold Ak.ci; rw [if_pos g]; cases d <;> decide
theorem Ak.neg_gt {d : Bool} {x y q : Int} (h : Ak.dir d (Ak.ci x y) = q) (g : y < x) : decide (q < 0) = d ∧ q ≠ 0 := by
 subst h; unfold Ak.ci; rw [if_neg (by omega), if_pos g]; cases d <;> decide
theorem Ak.neg_eq {d : Bool} {x y q : Int} (h : Ak.dir d (Ak.ci x y) = q) (g : x = y) : q = 0 := by
 subst h; unfold Ak.ci; rw [if_neg (by omega), if_neg (by omega)]; cases d <;> rfl
theorem Ak.cs_ci (x y : ByteArray) : Ak.cs x y = Ak.ci (Ak.cs x y) 0 := by
 unfold Ak.cs Ak.cl
 split
 ·decide
 ·split <;> decide
theorem Ak.compareBytes_cl : ∀ x y : List UInt8, Lib.compareBytes x y = Ak.cl x y
 | [], [] => by unfold Lib.compareBytes Ak.cl; simp
 | [], b :: bs => by unfold Lib.compareBytes Ak.cl; simp
 | a :: r, [] => by unfold Lib.compareBytes Ak.cl; simp
 | a :: r, b :: bs => by
   rw [Lib.compareBytes]
   unfold Ak.cl
   by_cases h : a < b
   ·rw [if_pos h, if_pos (List.cons_lt_cons_iff.2 (.inl h))]
   ·rw [if_neg h]
    by_cases g : b < a
    ·have hne : a ≠ b := fun e => by subst e; exact h g
     rw [if_pos g, if_neg (fun hh => (List.cons_lt_cons_iff.1 hh).elim h fun k => hne k.1), if_neg (fun e => hne (List.cons.inj e).1)]
    ·have e : a = b := by
      apply UInt8.toNat_inj.1
      rw [UInt8.lt_iff_toNat_lt] at h g
      omega
     subst e
     rw [if_neg g, Ak.compareBytes_cl r bs]
     unfold Ak.cl
     simp [List.cons_lt_cons_iff, h]
theorem strCompare_is (a b : ByteArray) (w : World) : Calls Tryz.prog 93 #[.string a, .string b] w fun e w' => e = .returned (.int .i64 (Ak.cs a b)) ∧ w = w' := by
 have h := Any.strings_Compare Lay.cmpS a b w
 refine Calls.mono h ?_
 rintro e w' ⟨rfl, rfl⟩
 refine ⟨?_, rfl⟩
 rw [Ak.compareBytes_cl]
 unfold Ak.cs
 simp only [Lib.toList_data]
theorem aheadR_is (l : List Ak.Srt) (hk : ∀ s, s ∈ l → 1 ≤ s.by_ ∧ s.by_ ≤ 5) (hl : l.length ≤ 1000000) (p r : Ph) (hp : Ak.Dom p) (hr : Ak.Dom r) (sa : Option Addr) (sc : Nat) (w : World) (hq : RowE Ak.eS w sa l) :
  Calls Tryz.prog 50 #[.agg #[.int .i64 p.id, .string p.file, .int .i64 p.mom, .int .i64 p.zone, .slice p.wa p.wn p.wc, .int .i64 p.W, .int .i64 p.H, .int .i64 p.turn, .int .i64 p.stars, .slice p.ta p.tn p.tc, .string p.cap, .slice p.pa p.pn p.pc, .bool p.hid], .agg #[.int .i64 r.id, .string r.file, .int .i64 r.mom, .int .i64 r.zone, .slice r.wa r.wn r.wc, .int .i64 r.W, .int .i64 r.H, .int .i64 r.turn, .int .i64 r.stars, .slice r.ta r.tn r.tc, .string r.cap, .slice r.pa r.pn r.pc, .bool r.hid], .slice sa l.length sc] w fun e w' => e = .returned (.bool (decide (Ak.many l p r < 0))) ∧ Below w.heap.size w w' := by
 obtain ⟨W1, hW1, hA, hz1, hB1⟩ := bxP w p
 obtain ⟨W2, hW2, hR, hz2, hB2⟩ := bxP W1 r
 have HW1 := Lib.hid hW1; have HW2 := Lib.hid hW2
 rw [hz1] at hR
 have hB := below_up hB1 hB2
 have HA := Lib.hid (hA.keep hB2); have HR := Lib.hid hR
 have HQ2 := Lib.hid (hq.keep hB)
 have HB := Lib.hid hB
 obtain ⟨n, hn⟩ : ∃ n, l.length = n := ⟨_, rfl⟩
 rw [hn] at hl
 rw [hn]
 have HN := Lib.hid hn
 obtain ⟨q, hqq⟩ : ∃ q, Ak.many l p r = q := ⟨_, rfl⟩
 have HQQ := Lib.hid hqq
 rw [hqq]
 have HK := Lib.hid hk
 have b1 := mulWH hp.1 hp.2
 have b2 := mulWH hr.1 hr.2
 have e1 : IntKind.i64.wrap (p.W * p.H) = p.W * p.H := by rw [IntKind.wrap_i64]; omega
 have e2 : IntKind.i64.wrap (r.W * r.H) = r.W * r.H := by rw [IntKind.wrap_i64]; omega
 clear hW1 hW2 hz1 hz2 hA hR hq hqq hk hn hB hB1 hB2 hp hr b1 b2
 go_enter Tryz.func50, Tryz.ntmps50
 go_upto_region 1 with fail
 rw [HW1.out, HW2.out]
 go_wp2_with fail
 go_loopg [13] n (fun gk i wr => ∃ j : Nat, j ≤ n ∧ gk = n - j ∧ i = .int .i64 j ∧ Ak.many (l.drop j) p r = q ∧ Below W2.heap.size W2 wr)
 case atStart => exact ⟨0, by omega, rfl, rfl, HQQ.out, Below.refl _ _⟩
 case round =>
  obtain ⟨j, hj, rfl, rfl, hm, hBr⟩ := hrel
  have HM := Lib.hid hm
  clear hm
  obtain ⟨p0, p1, p2, p3, p4, p5, p6, p7, p8, p9, p10, p11, p12⟩ := (HA.out.keep hBr).photo
  obtain ⟨r0, r1, r2, r3, r4, r5, r6, r7, r8, r9, r10, r11, r12⟩ := (HR.out.keep hBr).photo
  by_cases hlt : j < n
  ·obtain ⟨s, hs⟩ : ∃ s, l[j]? = some s := ⟨_, List.getElem?_eq_getElem (by rw [HN.out]; exact hlt)⟩
   obtain ⟨b, off, rfl, hb, hcell⟩ := (HQ2.out.keep hBr) (by rw [HN.out]; omega)
   have c0 := hcell j s hs 0 (.int .i64 s.by_) rfl
   have c1 := hcell j s hs 1 (.bool s.down) rfl
   have HST := Lib.hid (Ak.many_step HM.out hs)
   have hkb := HK.out s (List.mem_of_getElem? hs)
   obtain ⟨k, d⟩ := s
   obtain ⟨Z1, hZ1, hZ, hz1, hBZ⟩ := box wr #[.int .i64 k, .bool d] 70
   have HZ1 := Lib.hid hZ1
   have hBZ2 := below_up hBr hBZ
   have c0 : wr.cell? ⟨b, off + j * 2, none⟩ = some (.int .i64 k) := c0
   have c1 : wr.cell? ⟨b, off + j * 2 + 1, none⟩ = some (.bool d) := c1
   obtain ⟨z0, z1⟩ := hZ.two
   have HPZ := Lib.hid ((HA.out.keep hBZ2).photo); have HRZ := Lib.hid ((HR.out.keep hBZ2).photo)
   have hj1 : (j : Int) < (n : Int) := by omega
   obtain ⟨v, hv⟩ : ∃ v, Ak.one ⟨k, d⟩ p r = v := ⟨_, rfl⟩
   have HV := Lib.hid hv
   have hn2 : k ≠ 2 → Ak.dir d (Ak.raw k p r) = v := fun h => by rw [← hv]; exact (if_neg fun g => h g.1).symm
   have hcases : k = 1 ∨ k = 2 ∨ k = 3 ∨ k = 4 ∨ k = 5 := by have := hkb.1; have := hkb.2; simp only at *; omega
   clear hcell hs hkb hZ1 hz1 hZ hv
   rcases hcases with rfl | rfl | rfl | rfl | rfl
   ·-- p.id: what is compared; r.id: with what; hn2 (by decide): why 'one' is that; 7: the calls' arms
    have hone : Ak.dir d (Ak.ci (p.id) (r.id)) = v := hn2 (by decide)
    rcases Int.lt_trichotomy (p.id) (r.id) with h | h | h
    ·have hd := Ak.neg_lt hone h
     have HE := Lib.hid (HV.out.symm.trans (HST.out.2 (by rw [HV.out]; exact hd.2)))
     have HD := Lib.hid hd.1
     have g1 : (p.id != r.id) = true := by simpa using (by omega : (p.id) ≠ (r.id))
     clear hone hd
     go_upto_region 4 with fail
     rw [HZ1.out]
     clear p0 p1 p2 p3 p4 p5 p6 p7 p8 p9 p10 p11 p12 r0 r1 r2 r3 r4 r5 r6 r7 r8 r9 r10 r11 r12
     obtain ⟨p0, p1, p2, p3, p4, p5, p6, p7, p8, p9, p10, p11, p12⟩ := HPZ.out
     obtain ⟨r0, r1, r2, r3, r4, r5, r6, r7, r8, r9, r10, r11, r12⟩ := HRZ.out
     go_upto_region 7 with fail
     go_region
     go_wp2_with fail
     go_ret
     exact ⟨ret_bool (by rw [← HE.out, HD.out]), below_up HB.out hBZ2.drew⟩
    ·have hd := Ak.neg_eq hone h
     have HE := Lib.hid (HST.out.1 (by rw [HV.out]; exact hd))
     have g1 : (p.id != r.id) = false := by simpa using h
     clear hone hd h
     go_upto_region 4 with fail
     rw [HZ1.out]
     clear p0 p1 p2 p3 p4 p5 p6 p7 p8 p9 p10 p11 p12 r0 r1 r2 r3 r4 r5 r6 r7 r8 r9 r10 r11 r12
     obtain ⟨p0, p1, p2, p3, p4, p5, p6, p7, p8, p9, p10, p11, p12⟩ := HPZ.out
     obtain ⟨r0, r1, r2, r3, r4, r5, r6, r7, r8, r9, r10, r11, r12⟩ := HRZ.out
     go_upto_region 7 with fail
     go_region
     go_wp2_with fail
     go_roundg (n - (j + 1))
     case rel => exact ⟨j + 1, by omega, rfl, by go_num, HE.out, hBZ2.drew⟩
     case measure => omega
    ·have hd := Ak.neg_gt hone h
     have HE := Lib.hid (HV.out.symm.trans (HST.out.2 (by rw [HV.out]; exact hd.2)))
     have HD := Lib.hid hd.1
     have g1 : (p.id != r.id) = true := by simpa using (by omega : (p.id) ≠ (r.id))
     have g2 : ¬ (p.id) < (r.id) := by omega
     clear hone hd
     go_upto_region 4 with fail
     rw [HZ1.out]
     clear p0 p1 p2 p3 p4 p5 p6 p7 p8 p9 p10 p11 p12 r0 r1 r2 r3 r4 r5 r6 r7 r8 r9 r10 r11 r12
     obtain ⟨p0, p1, p2, p3, p4, p5, p6, p7, p8, p9, p10, p11, p12⟩ := HPZ.out
     obtain ⟨r0, r1, r2, r3, r4, r5, r6, r7, r8, r9, r10, r11, r12⟩ := HRZ.out
     go_upto_region 7 with fail
     go_region
     go_wp2_with fail
     go_ret
     exact ⟨ret_bool (by rw [← HE.out, HD.out]), below_up HB.out hBZ2.drew⟩
   ·by_cases hp2 : p.mom < 0
    ·by_cases hr2 : r.mom < 0
     ·-- p.mom: what is compared; r.mom: with what; (if_neg (by simp [hp2, hr2])).symm.trans HV.out: why 'one' is that; 11: the calls' arms
      have hone : Ak.dir d (Ak.ci (p.mom) (r.mom)) = v := (if_neg (by simp [hp2, hr2])).symm.trans HV.out
      rcases Int.lt_trichotomy (p.mom) (r.mom) with h | h | h
      ·have hd := Ak.neg_lt hone h
       have HE := Lib.hid (HV.out.symm.trans (HST.out.2 (by rw [HV.out]; exact hd.2)))
       have HD := Lib.hid hd.1
       have g1 : (p.mom != r.mom) = true := by simpa using (by omega : (p.mom) ≠ (r.mom))
       clear hone hd
       go_upto_region 4 with fail
       rw [HZ1.out]
       clear p0 p1 p2 p3 p4 p5 p6 p7 p8 p9 p10 p11 p12 r0 r1 r2 r3 r4 r5 r6 r7 r8 r9 r10 r11 r12
       obtain ⟨p0, p1, p2, p3, p4, p5, p6, p7, p8, p9, p10, p11, p12⟩ := HPZ.out
       obtain ⟨r0, r1, r2, r3, r4, r5, r6, r7, r8, r9, r10, r11, r12⟩ := HRZ.out
       go_upto_region 11 with fail
       go_region
       go_wp2_with fail
       go_ret
       exact ⟨ret_bool (by rw [← HE.out, HD.out]), below_up HB.out hBZ2.drew⟩
      ·have hd := Ak.neg_eq hone h
       have HE := Lib.hid (HST.out.1 (by rw [HV.out]; exact hd))
       have g1 : (p.mom != r.mom) = false := by simpa using h
       clear hone hd h
       go_upto_region 4 with fail
       rw [HZ1.out]
       clear p0 p1 p2 p3 p4 p5 p6 p7 p8 p9 p10 p11 p12 r0 r1 r2 r3 r4 r5 r6 r7 r8 r9 r10 r11 r12
       obtain ⟨p0, p1, p2, p3, p4, p5, p6, p7, p8, p9, p10, p11, p12⟩ := HPZ.out
       obtain ⟨r0, r1, r2, r3, r4, r5, r6, r7, r8, r9, r10, r11, r12⟩ := HRZ.out
       go_upto_region 11 with fail
       go_region
       go_wp2_with fail
       go_roundg (n - (j + 1))
       case rel => exact ⟨j + 1, by omega, rfl, by go_num, HE.out, hBZ2.drew⟩
       case measure => omega
      ·have hd := Ak.neg_gt hone h
       have HE := Lib.hid (HV.out.symm.trans (HST.out.2 (by rw [HV.out]; exact hd.2)))
       have HD := Lib.hid hd.1
       have g1 : (p.mom != r.mom) = true := by simpa using (by omega : (p.mom) ≠ (r.mom))
       have g2 : ¬ (p.mom) < (r.mom) := by omega
       clear hone hd
       go_upto_region 4 with fail
       rw [HZ1.out]
       clear p0 p1 p2 p3 p4 p5 p6 p7 p8 p9 p10 p11 p12 r0 r1 r2 r3 r4 r5 r6 r7 r8 r9 r10 r11 r12
       obtain ⟨p0, p1, p2, p3, p4, p5, p6, p7, p8, p9, p10, p11, p12⟩ := HPZ.out
       obtain ⟨r0, r1, r2, r3, r4, r5, r6, r7, r8, r9, r10, r11, r12⟩ := HRZ.out
       go_upto_region 11 with fail
       go_region
       go_wp2_with fail
       go_ret
       exact ⟨ret_bool (by rw [← HE.out, HD.out]), below_up HB.out hBZ2.drew⟩
     ·have e : Ak.ci r.mom p.mom = v := (if_pos ⟨rfl, by simp [hp2, hr2]⟩).symm.trans HV.out
      have hd : v = 1 := by rw [← e]; unfold Ak.ci; rw [if_neg (by omega), if_pos (by omega)]
      have HE := Lib.hid (HV.out.symm.trans (HST.out.2 (by rw [HV.out, hd]; decide)))
      have HD := Lib.hid hd
      clear e hd
      go_upto_region 4 with fail
      rw [HZ1.out]
      clear p0 p1 p2 p3 p4 p5 p6 p7 p8 p9 p10 p11 p12 r0 r1 r2 r3 r4 r5 r6 r7 r8 r9 r10 r11 r12
      obtain ⟨p0, p1, p2, p3, p4, p5, p6, p7, p8, p9, p10, p11, p12⟩ := HPZ.out
      obtain ⟨r0, r1, r2, r3, r4, r5, r6, r7, r8, r9, r10, r11, r12⟩ := HRZ.out
      go_wp2_with fail
      go_ret
      exact ⟨ret_bool (by rw [← HE.out, HD.out]; rfl), below_up HB.out hBZ2⟩
    ·by_cases hr2 : r.mom < 0
     ·have e : Ak.ci r.mom p.mom = v := (if_pos ⟨rfl, by simp [hp2, hr2]⟩).symm.trans HV.out
      have hd : v = -1 := by rw [← e]; unfold Ak.ci; rw [if_pos (by omega)]
      have HE := Lib.hid (HV.out.symm.trans (HST.out.2 (by rw [HV.out, hd]; decide)))
      have HD := Lib.hid hd
      clear e hd
      go_upto_region 4 with fail
      rw [HZ1.out]
      clear p0 p1 p2 p3 p4 p5 p6 p7 p8 p9 p10 p11 p12 r0 r1 r2 r3 r4 r5 r6 r7 r8 r9 r10 r11 r12
      obtain ⟨p0, p1, p2, p3, p4, p5, p6, p7, p8, p9, p10, p11, p12⟩ := HPZ.out
      obtain ⟨r0, r1, r2, r3, r4, r5, r6, r7, r8, r9, r10, r11, r12⟩ := HRZ.out
      go_wp2_with fail
      go_ret
      exact ⟨ret_bool (by rw [← HE.out, HD.out]; rfl), below_up HB.out hBZ2⟩
     ·-- p.mom: what is compared; r.mom: with what; (if_neg (by simp [hp2, hr2])).symm.trans HV.out: why 'one' is that; 11: the calls' arms
      have hone : Ak.dir d (Ak.ci (p.mom) (r.mom)) = v := (if_neg (by simp [hp2, hr2])).symm.trans HV.out
      rcases Int.lt_trichotomy (p.mom) (r.mom) with h | h | h
      ·have hd := Ak.neg_lt hone h
       have HE := Lib.hid (HV.out.symm.trans (HST.out.2 (by rw [HV.out]; exact hd.2)))
       have HD := Lib.hid hd.1
       have g1 : (p.mom != r.mom) = true := by simpa using (by omega : (p.mom) ≠ (r.mom))
       clear hone hd
       go_upto_region 4 with fail
       rw [HZ1.out]
       clear p0 p1 p2 p3 p4 p5 p6 p7 p8 p9 p10 p11 p12 r0 r1 r2 r3 r4 r5 r6 r7 r8 r9 r10 r11 r12
       obtain ⟨p0, p1, p2, p3, p4, p5, p6, p7, p8, p9, p10, p11, p12⟩ := HPZ.out
       obtain ⟨r0, r1, r2, r3, r4, r5, r6, r7, r8, r9, r10, r11, r12⟩ := HRZ.out
       go_upto_region 11 with fail
       go_region
       go_wp2_with fail
       go_ret
       exact ⟨ret_bool (by rw [← HE.out, HD.out]), below_up HB.out hBZ2.drew⟩
      ·have hd := Ak.neg_eq hone h
       have HE := Lib.hid (HST.out.1 (by rw [HV.out]; exact hd))
       have g1 : (p.mom != r.mom) = false := by simpa using h
       clear hone hd h
       go_upto_region 4 with fail
       rw [HZ1.out]
       clear p0 p1 p2 p3 p4 p5 p6 p7 p8 p9 p10 p11 p12 r0 r1 r2 r3 r4 r5 r6 r7 r8 r9 r10 r11 r12
       obtain ⟨p0, p1, p2, p3, p4, p5, p6, p7, p8, p9, p10, p11, p12⟩ := HPZ.out
       obtain ⟨r0, r1, r2, r3, r4, r5, r6, r7, r8, r9, r10, r11, r12⟩ := HRZ.out
       go_upto_region 11 with fail
       go_region
       go_wp2_with fail
       go_roundg (n - (j + 1))
       case rel => exact ⟨j + 1, by omega, rfl, by go_num, HE.out, hBZ2.drew⟩
       case measure => omega
      ·have hd := Ak.neg_gt hone h
       have HE := Lib.hid (HV.out.symm.trans (HST.out.2 (by rw [HV.out]; exact hd.2)))
       have HD := Lib.hid hd.1
       have g1 : (p.mom != r.mom) = true := by simpa using (by omega : (p.mom) ≠ (r.mom))
       have g2 : ¬ (p.mom) < (r.mom) := by omega
       clear hone hd
       go_upto_region 4 with fail
       rw [HZ1.out]
       clear p0 p1 p2 p3 p4 p5 p6 p7 p8 p9 p10 p11 p12 r0 r1 r2 r3 r4 r5 r6 r7 r8 r9 r10 r11 r12
       obtain ⟨p0, p1, p2, p3, p4, p5, p6, p7, p8, p9, p10, p11, p12⟩ := HPZ.out
       obtain ⟨r0, r1, r2, r3, r4, r5, r6, r7, r8, r9, r10, r11, r12⟩ := HRZ.out
       go_upto_region 11 with fail
       go_region
       go_wp2_with fail
       go_ret
       exact ⟨ret_bool (by rw [← HE.out, HD.out]), below_up HB.out hBZ2.drew⟩
   ·-- p.stars: what is compared; r.stars: with what; hn2 (by decide): why 'one' is that; 13: the calls' arms
    have hone : Ak.dir d (Ak.ci (p.stars) (r.stars)) = v := hn2 (by decide)
    rcases Int.lt_trichotomy (p.stars) (r.stars) with h | h | h
    ·have hd := Ak.neg_lt hone h
     have HE := Lib.hid (HV.out.symm.trans (HST.out.2 (by rw [HV.out]; exact hd.2)))
     have HD := Lib.hid hd.1
     have g1 : (p.stars != r.stars) = true := by simpa using (by omega : (p.stars) ≠ (r.stars))
     clear hone hd
     go_upto_region 4 with fail
     rw [HZ1.out]
     clear p0 p1 p2 p3 p4 p5 p6 p7 p8 p9 p10 p11 p12 r0 r1 r2 r3 r4 r5 r6 r7 r8 r9 r10 r11 r12
     obtain ⟨p0, p1, p2, p3, p4, p5, p6, p7, p8, p9, p10, p11, p12⟩ := HPZ.out
     obtain ⟨r0, r1, r2, r3, r4, r5, r6, r7, r8, r9, r10, r11, r12⟩ := HRZ.out
     go_upto_region 13 with fail
     go_region
     go_wp2_with fail
     go_ret
     exact ⟨ret_bool (by rw [← HE.out, HD.out]), below_up HB.out hBZ2.drew⟩
    ·have hd := Ak.neg_eq hone h
     have HE := Lib.hid (HST.out.1 (by rw [HV.out]; exact hd))
     have g1 : (p.stars != r.stars) = false := by simpa using h
     clear hone hd h
     go_upto_region 4 with fail
     rw [HZ1.out]
     clear p0 p1 p2 p3 p4 p5 p6 p7 p8 p9 p10 p11 p12 r0 r1 r2 r3 r4 r5 r6 r7 r8 r9 r10 r11 r12
     obtain ⟨p0, p1, p2, p3, p4, p5, p6, p7, p8, p9, p10, p11, p12⟩ := HPZ.out
     obtain ⟨r0, r1, r2, r3, r4, r5, r6, r7, r8, r9, r10, r11, r12⟩ := HRZ.out
     go_upto_region 13 with fail
     go_region
     go_wp2_with fail
     go_roundg (n - (j + 1))
     case rel => exact ⟨j + 1, by omega, rfl, by go_num, HE.out, hBZ2.drew⟩
     case measure => omega
    ·have hd := Ak.neg_gt hone h
     have HE := Lib.hid (HV.out.symm.trans (HST.out.2 (by rw [HV.out]; exact hd.2)))
     have HD := Lib.hid hd.1
     have g1 : (p.stars != r.stars) = true := by simpa using (by omega : (p.stars) ≠ (r.stars))
     have g2 : ¬ (p.stars) < (r.stars) := by omega
     clear hone hd
     go_upto_region 4 with fail
     rw [HZ1.out]
     clear p0 p1 p2 p3 p4 p5 p6 p7 p8 p9 p10 p11 p12 r0 r1 r2 r3 r4 r5 r6 r7 r8 r9 r10 r11 r12
     obtain ⟨p0, p1, p2, p3, p4, p5, p6, p7, p8, p9, p10, p11, p12⟩ := HPZ.out
     obtain ⟨r0, r1, r2, r3, r4, r5, r6, r7, r8, r9, r10, r11, r12⟩ := HRZ.out
     go_upto_region 13 with fail
     go_region
     go_wp2_with fail
     go_ret
     exact ⟨ret_bool (by rw [← HE.out, HD.out]), below_up HB.out hBZ2.drew⟩
   ·-- p.W * p.H: what is compared; r.W * r.H: with what; hn2 (by decide): why 'one' is that; 15: the calls' arms
    have hone : Ak.dir d (Ak.ci (p.W * p.H) (r.W * r.H)) = v := hn2 (by decide)
    rcases Int.lt_trichotomy (p.W * p.H) (r.W * r.H) with h | h | h
    ·have hd := Ak.neg_lt hone h
     have HE := Lib.hid (HV.out.symm.trans (HST.out.2 (by rw [HV.out]; exact hd.2)))
     have HD := Lib.hid hd.1
     have g1 : (p.W * p.H != r.W * r.H) = true := by simpa using (by omega : (p.W * p.H) ≠ (r.W * r.H))
     clear hone hd
     go_upto_region 4 with fail
     rw [HZ1.out]
     clear p0 p1 p2 p3 p4 p5 p6 p7 p8 p9 p10 p11 p12 r0 r1 r2 r3 r4 r5 r6 r7 r8 r9 r10 r11 r12
     obtain ⟨p0, p1, p2, p3, p4, p5, p6, p7, p8, p9, p10, p11, p12⟩ := HPZ.out
     obtain ⟨r0, r1, r2, r3, r4, r5, r6, r7, r8, r9, r10, r11, r12⟩ := HRZ.out
     go_upto_region 15 with fail
     go_region
     go_wp2_with fail
     go_ret
     exact ⟨ret_bool (by rw [← HE.out, HD.out]), below_up HB.out hBZ2.drew⟩
    ·have hd := Ak.neg_eq hone h
     have HE := Lib.hid (HST.out.1 (by rw [HV.out]; exact hd))
     have g1 : (p.W * p.H != r.W * r.H) = false := by simpa using h
     clear hone hd h
     go_upto_region 4 with fail
     rw [HZ1.out]
     clear p0 p1 p2 p3 p4 p5 p6 p7 p8 p9 p10 p11 p12 r0 r1 r2 r3 r4 r5 r6 r7 r8 r9 r10 r11 r12
     obtain ⟨p0, p1, p2, p3, p4, p5, p6, p7, p8, p9, p10, p11, p12⟩ := HPZ.out
     obtain ⟨r0, r1, r2, r3, r4, r5, r6, r7, r8, r9, r10, r11, r12⟩ := HRZ.out
     go_upto_region 15 with fail
     go_region
     go_wp2_with fail
     go_roundg (n - (j + 1))
     case rel => exact ⟨j + 1, by omega, rfl, by go_num, HE.out, hBZ2.drew⟩
     case measure => omega
    ·have hd := Ak.neg_gt hone h
     have HE := Lib.hid (HV.out.symm.trans (HST.out.2 (by rw [HV.out]; exact hd.2)))
     have HD := Lib.hid hd.1
     have g1 : (p.W * p.H != r.W * r.H) = true := by simpa using (by omega : (p.W * p.H) ≠ (r.W * r.H))
     have g2 : ¬ (p.W * p.H) < (r.W * r.H) := by omega
     clear hone hd
     go_upto_region 4 with fail
     rw [HZ1.out]
     clear p0 p1 p2 p3 p4 p5 p6 p7 p8 p9 p10 p11 p12 r0 r1 r2 r3 r4 r5 r6 r7 r8 r9 r10 r11 r12
     obtain ⟨p0, p1, p2, p3, p4, p5, p6, p7, p8, p9, p10, p11, p12⟩ := HPZ.out
     obtain ⟨r0, r1, r2, r3, r4, r5, r6, r7, r8, r9, r10, r11, r12⟩ := HRZ.out
     go_upto_region 15 with fail
     go_region
     go_wp2_with fail
     go_ret
     exact ⟨ret_bool (by rw [← HE.out, HD.out]), below_up HB.out hBZ2.drew⟩
   ·have hone : Ak.dir d (Ak.ci (Ak.cs p.cap r.cap) 0) = v := by rw [← Ak.cs_ci]; exact hn2 (by decide)
    obtain ⟨s, hs⟩ : ∃ s, Ak.cs p.cap r.cap = s := ⟨_, rfl⟩
    rw [hs] at hone
    have HCS := Lib.hid (fun W => strCompare_is p.cap r.cap W)
    rw [hs] at HCS
    clear hs
    rcases Int.lt_trichotomy s 0 with h | h | h
    ·have hd := Ak.neg_lt hone h
     have HE := Lib.hid (HV.out.symm.trans (HST.out.2 (by rw [HV.out]; exact hd.2)))
     have HD := Lib.hid hd.1
     have g1 : (s != 0) = true := by simpa using (by omega : s ≠ 0)
     clear hone hd
     go_upto_region 4 with fail
     rw [HZ1.out]
     clear p0 p1 p2 p3 p4 p5 p6 p7 p8 p9 p10 p11 p12 r0 r1 r2 r3 r4 r5 r6 r7 r8 r9 r10 r11 r12
     obtain ⟨p0, p1, p2, p3, p4, p5, p6, p7, p8, p9, p10, p11, p12⟩ := HPZ.out
     obtain ⟨r0, r1, r2, r3, r4, r5, r6, r7, r8, r9, r10, r11, r12⟩ := HRZ.out
     go_wp2_with (go_at_call 93; (with_reducible refine (HCS.out _).mono ?_); rintro e w5 ⟨rfl, rfl⟩)
     go_ret
     exact ⟨ret_bool (by rw [← HE.out, HD.out]), below_up HB.out hBZ2⟩
    ·have hd := Ak.neg_eq hone h
     have HE := Lib.hid (HST.out.1 (by rw [HV.out]; exact hd))
     subst h
     clear hone hd
     go_upto_region 4 with fail
     rw [HZ1.out]
     clear p0 p1 p2 p3 p4 p5 p6 p7 p8 p9 p10 p11 p12 r0 r1 r2 r3 r4 r5 r6 r7 r8 r9 r10 r11 r12
     obtain ⟨p0, p1, p2, p3, p4, p5, p6, p7, p8, p9, p10, p11, p12⟩ := HPZ.out
     obtain ⟨r0, r1, r2, r3, r4, r5, r6, r7, r8, r9, r10, r11, r12⟩ := HRZ.out
     go_wp2_with (go_at_call 93; (with_reducible refine (HCS.out _).mono ?_); rintro e w5 ⟨rfl, rfl⟩)
     go_roundg (n - (j + 1))
     case rel => exact ⟨j + 1, by omega, rfl, by go_num, HE.out, hBZ2⟩
     case measure => omega
    ·have hd := Ak.neg_gt hone h
     have HE := Lib.hid (HV.out.symm.trans (HST.out.2 (by rw [HV.out]; exact hd.2)))
     have HD := Lib.hid hd.1
     have g1 : (s != 0) = true := by simpa using (by omega : s ≠ 0)
     have g2 : ¬ s < 0 := by omega
     clear hone hd
     go_upto_region 4 with fail
     rw [HZ1.out]
     clear p0 p1 p2 p3 p4 p5 p6 p7 p8 p9 p10 p11 p12 r0 r1 r2 r3 r4 r5 r6 r7 r8 r9 r10 r11 r12
     obtain ⟨p0, p1, p2, p3, p4, p5, p6, p7, p8, p9, p10, p11, p12⟩ := HPZ.out
     obtain ⟨r0, r1, r2, r3, r4, r5, r6, r7, r8, r9, r10, r11, r12⟩ := HRZ.out
     go_wp2_with (go_at_call 93; (with_reducible refine (HCS.out _).mono ?_); rintro e w5 ⟨rfl, rfl⟩)
     go_ret
     exact ⟨ret_bool (by rw [← HE.out, HD.out, decide_eq_false (Int.not_lt.2 g2)]; cases d <;> rfl), below_up HB.out hBZ2⟩
  ·obtain rfl : j = n := by omega
   have HE : Hid (Ak.ci p.id r.id = q) := Lib.hid (by have h := HM.out; rw [← HN.out, List.drop_length] at h; exact h)
   have hjn : ¬ ((j : Int) < (j : Int)) := by omega
   go_wp2_with fail
   go_ret
   exact ⟨ret_bool (by rw [← HE.out]; unfold Ak.ci; split <;> (try split) <;> simp <;> omega), below_up HB.out hBr⟩
namespace Ak
theorem lt_trans {l : List Srt} {a b c : Ph} (h : lt l a b) (g : lt l b c) : lt l a c := (many_good l).strict h (Int.le_of_lt g)
theorem insert_sorted {l : List Srt} {out : List Ph} {p : Ph} {k : Nat} (hs : out.Pairwise (lt l)) (h1 : ∀ x ∈ out.drop k, lt l p x) (h2 : ∀ x ∈ out.take k, lt l x p) : (out.take k ++ [p] ++ out.drop k).Pairwise (lt l) := by
 have hs2 := hs
 rw [← List.take_append_drop k out, List.pairwise_append] at hs2
 obtain ⟨s1, s2, s3⟩ := hs2
 rw [List.append_assoc, List.pairwise_append]
 refine ⟨s1, ?_, fun a ha b hb => ?_⟩
 ·rw [List.singleton_append, List.pairwise_cons]
  exact ⟨h1, s2⟩
 ·rw [List.singleton_append, List.mem_cons] at hb
  rcases hb with rfl | hb
  ·exact h2 a ha
  ·exact s3 a ha b hb
theorem insert_perm (out : List Ph) (p : Ph) (k : Nat) : List.Perm (out.take k ++ [p] ++ out.drop k) (out ++ [p]) := by
 have h : List.Perm (out.take k ++ [p] ++ out.drop k) (p :: (out.take k ++ out.drop k)) := by
  rw [List.append_assoc, List.singleton_append]
  exact List.perm_middle
 rw [List.take_append_drop] at h
 exact h.trans (List.perm_append_singleton p out).symm
theorem stop_before {l : List Srt} {out : List Ph} {p y : Ph} {k : Nat} (hs : out.Pairwise (lt l)) (hy : out[k]? = some y) (hn : ¬ lt l p y) (hid : y.id ≠ p.id) : ∀ x ∈ out.take (k + 1), lt l x p := by
 have hyp : lt l y p := by
  have e := (many_good l).anti p y
  have z : many l y p ≠ 0 := fun z => hid (many_zero l y p z)
  unfold lt at hn ⊢
  omega
 intro x hx
 rw [List.take_add_one, hy, List.mem_append] at hx
 rcases hx with hx | hx
 ·have hs2 := hs
  obtain ⟨hlt, hg⟩ := List.getElem?_eq_some_iff.1 hy
  rw [← List.take_append_drop k out, List.pairwise_append] at hs2
  refine lt_trans (hs2.2.2 x hx y ?_) hyp
  rw [List.drop_eq_getElem_cons hlt, hg]
  exact List.mem_cons_self ..
 ·simp at hx
  subst hx
  exact hyp
end Ak

theorem ph_ins_grown (B n ca : Nat) (a : Option Addr) (xs ys : List Value) (w : World) (hnone : a = none → n = 0 ∧ ca = 0) (hlo : xs.length = n * 13) (holds : ∀ b, a = some b → ∀ j u, xs[j]? = some u → w.cell? (b.add j) = some u) (hcm : ca ≤ 9223372036854775807) (hfull : ca < n + 1) (hnc : n ≤ ca) (hB : B ≤ w.heap.size) (hn : n ≤ 1000000) (bv : Nat) (cv : Array Value) (tv : TypeId) (hbv : w.heap[bv]? = some (.cells cv tv (0, 0))) (hys : cv.toList = ys) (hy : ys.length = 13) (h1 : ∀ v ∈ ys, v.oneCell' = true) :
  Calls Tryz.prog 51 #[.slice a n ca, .int .i64 n, .slice (some ⟨bv, 0, none⟩) 1 1] w (OwnPost w B 85 13 (.slice a n ca) (n + 1) (xs ++ ys)) := by
 obtain ⟨i0, hi0, hz0, hz1, hz2⟩ := info_parts infoPhoto
 have HI0 := Lib.hid hi0; have HI1 := Lib.hid hz0; have HI2 := Lib.hid hz1; have HI3 := Lib.hid hz2
 have hsrc : ∀ j u, ys[j]? = some u → w.cell? ((⟨bv, 0, none⟩ : Addr).add j) = some u := by
  intro j u hj
  rw [show (⟨bv, 0, none⟩ : Addr).add j = ⟨bv, j, none⟩ from by unfold Addr.add; split <;> simp_all, World.cell?]
  simp only [hbv]
  rw [← hys] at hj
  simpa using hj
 have HS := Lib.hid hsrc; have HO := Lib.hid holds; have HL := Lib.hid hy; have H1 := Lib.hid h1; have HBB := Lib.hid hB; have HNN := Lib.hid hnone; have HLO := Lib.hid hlo
 obtain rfl : ca = n := by omega
 clear hi0 hz0 hz1 hz2 hsrc holds hy h1 hB hbv hys hnone hlo
 go_enter Tryz.func51, Tryz.ntmps51
 go_wp2_with (at_builtin; refine wpList_append_grows _ rfl _ _ 39 rfl 85 i0 (.agg #[.int .i64 0, .string ByteArray.empty, .int .i64 0, .int .i64 0, .slice none 0 0, .int .i64 0, .int .i64 0, .int .i64 0, .int .i64 0, .slice none 0 0, .string ByteArray.empty, .slice none 0 0, .bool false]) 13 168 Tryz.underlying39 HI0.out HI1.out HI2.out HI3.out rfl (by decide) a ca ca xs rfl HNN.out HLO.out HO.out ⟨bv, 0, none⟩ 1 1 ys rfl HL.out HS.out H1.out hfull (by unfold maxLen; omega) (by omega) ?_; intro v8 w8 hown8 hgrow8; obtain ⟨g8, cap8, rfl, hoc8⟩ : ∃ g8 cap8, v8 = .slice (some ⟨g8, 0, none⟩) (ca + 1) cap8 ∧ OwnC w8 w.heap.size 85 13 g8 (ca + 1) cap8 (xs ++ ys) := by { rcases OwnV.of_own hown8 with ⟨_, h0, _⟩ | h; exact absurd h0 (by omega); exact h })
 go_ret
 exact ⟨g8, cap8, rfl, hoc8.down HBB.out, ⟨hgrow8.os, hgrow8.tape, hgrow8.output, hgrow8.size, fun j hj _ => hgrow8.block j hj (by simp)⟩, .inr hoc8.lt.1⟩
theorem ph_ins_last (B g n cap : Nat) (xs ys : List Value) (w : World) (h : OwnC w B 85 13 g n cap xs) (hroom : n + 1 ≤ cap) (hn : n ≤ 1000000) (bv : Nat) (cv : Array Value) (tv : TypeId) (hbv : w.heap[bv]? = some (.cells cv tv (0, 0))) (hys : cv.toList = ys) (hy : ys.length = 13) (h1 : ∀ v ∈ ys, v.oneCell' = true) :
  Calls Tryz.prog 51 #[.slice (some ⟨g, 0, none⟩) n cap, .int .i64 n, .slice (some ⟨bv, 0, none⟩) 1 1] w (OwnPost w B 85 13 (.slice (some ⟨g, 0, none⟩) n cap) (n + 1) (xs ++ ys)) := by
 obtain ⟨i0, hi0, hz0, hz1, hz2⟩ := info_parts infoPhoto
 have hsrc : ∀ j u, ys[j]? = some u → w.cell? ((⟨bv, 0, none⟩ : Addr).add j) = some u := by
  intro j u hj
  rw [show (⟨bv, 0, none⟩ : Addr).add j = ⟨bv, j, none⟩ from by unfold Addr.add; split <;> simp_all, World.cell?]
  simp only [hbv]
  rw [← hys] at hj
  simpa using hj
 obtain ⟨w1, hr1, ho1, hg1⟩ := own_append (P := Tryz.prog) h 39 i0 Tryz.underlying39 hi0 hz1 ⟨bv, 0, none⟩ 1 ys (by rw [hy]) hsrc h1 hroom
 obtain ⟨_, _, _, hnc, hcm, _⟩ := h
 have hcm2 : cap ≤ 9223372036854775807 := hcm
 have hcn : ¬ cap = n := by omega
 have HO := Lib.hid ho1; have HG := Lib.hid hg1
 clear hi0 hz0 hz1 hz2 hsrc hy h1 hbv hys ho1 hg1
 go_enter Tryz.func51, Tryz.ntmps51
 go_wp2_with (at_builtin; refine Lib.wpList_append_run _ rfl _ _ _ _ rfl _ _ rfl rfl _ _ (hr1 _ _) ?_)
 go_ret
 exact ⟨g, cap, rfl, HO.out, HG.out, .inl rfl⟩
theorem ph_ins_room (B g n cap i : Nat) (xs ys : List Value) (w : World) (h : OwnC w B 85 13 g n cap xs) (hi : i < n) (hroom : n + 1 ≤ cap) (hn : n ≤ 1000000) (hx1 : ∀ v ∈ xs, v.oneCell' = true) (bv : Nat) (cv : Array Value) (tv : TypeId) (hbv : w.heap[bv]? = some (.cells cv tv (0, 0))) (hbg : bv ≠ g) (hys : cv.toList = ys) (hy : ys.length = 13) (h1 : ∀ v ∈ ys, v.oneCell' = true) :
  Calls Tryz.prog 51 #[.slice (some ⟨g, 0, none⟩) n cap, .int .i64 i, .slice (some ⟨bv, 0, none⟩) 1 1] w (OwnPost w B 85 13 (.slice (some ⟨g, 0, none⟩) n cap) (n + 1) (xs.take (i * 13) ++ ys ++ xs.drop (i * 13))) := by
 have HH0 := h
 obtain ⟨cur, hB, hc, hnc, hcm, hcs, htk, hl⟩ := HH0
 obtain ⟨i0, hi0, hz0, hz1, hz2⟩ := info_parts infoPhoto
 have hcm2 : cap ≤ 9223372036854775807 := hcm
 have hsz : (Tryz.prog.info? 85).map (·.size) = some 13 := by rw [hi0]; simp [hz1]
 obtain ⟨tail, htl, ho0⟩ := own_more h hroom
 have hdl : (xs.drop (i * 13)).length = (n - i) * 13 := by rw [List.length_drop, hl]; omega
 obtain ⟨w1, hr1, ho1, hg1⟩ := own_copy (P := Tryz.prog) (w := w.drew) ho0 39 39 Tryz.underlying39 hsz ((i + 1) * 13) (n - i) (cap - (i + 1)) ⟨g, i * 13, none⟩ (n + 1 - i) (cap - i) (xs.drop (i * 13)) (by rw [hdl]; congr 1; exact (Nat.min_eq_right (by omega)).symm)
  (fun j u hj => by
   rw [List.getElem?_drop] at hj
   have hjl := (List.getElem?_eq_some_iff.1 hj).1
   rw [show (⟨g, i * 13, none⟩ : Addr).add j = ⟨g, i * 13 + j, none⟩ from by unfold Addr.add; split <;> simp_all]
   exact (h.cellAt (i * 13 + j) (by omega)).trans hj)
  (by rw [hdl]; omega) (fun v hv => hx1 v (List.mem_of_mem_drop hv))
 have hbv1 : w1.heap[bv]? = some (.cells cv tv (0, 0)) := by
  rw [hg1.block bv (Array.getElem?_eq_some_iff.1 hbv).1 (by simpa using hbg)]; exact hbv
 obtain ⟨w2, hr2, ho2, hg2⟩ := own_copy (P := Tryz.prog) (w := w1) ho1 39 39 Tryz.underlying39 hsz (i * 13) (n + 1 - i) (cap - i) ⟨bv, 0, none⟩ 1 1 ys (by rw [hy, show Nat.min 1 (n + 1 - i) = 1 from Nat.min_eq_left (by omega)])
  (fun j u hj => by
   rw [show (⟨bv, 0, none⟩ : Addr).add j = ⟨bv, j, none⟩ from by unfold Addr.add; split <;> simp_all, World.cell?]
   simp only [hbv1]
   rw [← hys] at hj
   simpa using hj)
  (by rw [hy]; omega) h1
 rw [show (i + 1) * 13 = i * 13 + 13 by omega, ins_shift hl htl hy (by omega)] at ho2
 have hov : ∀ lb cb, (callFunc 94 #[.slice (some ⟨bv, 0, none⟩) 1 1, .slice (some ⟨g, (i + 1) * 13, none⟩) lb cb]).run Tryz.prog w = .ok (.value (.bool false)) w := fun lb cb => by
  rw [run_callFunc_extern Tryz.func94 (by kernel_rfl) (by kernel_rfl) (by kernel_rfl) (e := Extern.SlicesOverlaps.overlaps #[39, 39] #[4]) (by kernel_rfl),
   Lib.run_overlaps_apart w 39 4 85 Tryz.underlying39 13 (fun w => by kernel_rfl) ⟨bv, 0, none⟩ ⟨g, (i + 1) * 13, none⟩ 1 1 lb cb hbg tv 85 cv.size cur.size (shape_of hbv) (shape_of hc) (by omega) (frozen_of hbv 0) (frozen_of hbv cv.size)]
  rfl
 have HO := Lib.hid ho2
 have HG := Lib.hid (grown_up hg1 hg2)
 have hz2' : ¬ ((i : Int) = (n : Int)) := by omega
 have hz2b : ((i : Int) == (n : Int)) = false := by simpa using hz2'
 have hw1 : IntKind.i64.wrap ((n : Int) + 1) = (n : Int) + 1 := by rw [IntKind.wrap_i64]; omega
 have hw2 : IntKind.i64.wrap ((i : Int) + 1) = (i : Int) + 1 := by rw [IntKind.wrap_i64]; omega
 have hb0 : ¬ ((cap : Int) < (n : Int) + 1) := by omega
 have hb0' : ((n : Int) + 1 ≤ (cap : Int)) := by omega
 have hb1 : (0 : Int) ≤ (i : Int) + 1 := by omega
 have hb2 : (0 : Int) ≤ (n : Int) + 1 := by omega
 have hb3 : (i : Int) ≤ (n : Int) + 1 := by omega
 have hb4 : (i : Int) + 1 ≤ (n : Int) + 1 := by omega
 have hb5 : ¬ cap = i := by omega
 have hb6 : ¬ cap = i + 1 := by omega
 have hin : i ≤ n := by omega
 clear ho2 ho1 ho0 hg1 hg2 h1 hx1 hbv hbv1 hc hcs htk hl hdl htl hys hy h
 go_enter Tryz.func51, Tryz.ntmps51
 go_wp2_with (simp only [hov])
 go_region_law (refine step_copy_run rfl _ _ _ _ rfl (.slice (some ⟨g, (i + 1) * 13, none⟩) (n - i) (cap - (i + 1))) (.slice (some ⟨g, i * 13, none⟩) (n + 1 - i) (cap - i)) (by simp [Act.eval, Act.put]) (by simp [Act.eval, Act.put]) (hr1 _) ?_)
 go_wp2_with (at_builtin; refine wpList_copy_run _ rfl _ _ _ _ rfl _ _ rfl rfl (hr2 _) ?_)
 go_ret
 exact ⟨g, cap, rfl, HO.out, HG.out, .inl rfl⟩

theorem ph_ins_grow (B g n i : Nat) (xs ys : List Value) (w : World) (h : OwnC w B 85 13 g n n xs) (hi : i < n) (hn : n ≤ 1000000) (hx1 : ∀ v ∈ xs, v.oneCell' = true) (bv : Nat) (cv : Array Value) (tv : TypeId) (hbv : w.heap[bv]? = some (.cells cv tv (0, 0))) (hys : cv.toList = ys) (hy : ys.length = 13) (h1 : ∀ v ∈ ys, v.oneCell' = true) :
  Calls Tryz.prog 51 #[.slice (some ⟨g, 0, none⟩) n n, .int .i64 i, .slice (some ⟨bv, 0, none⟩) 1 1] w (OwnPost w B 85 13 (.slice (some ⟨g, 0, none⟩) n n) (n + 1) (xs.take (i * 13) ++ ys ++ xs.drop (i * 13))) := by
 have HH0 := h
 obtain ⟨cur, hB, hc, hnc, hcm, hcs, htk, hl⟩ := HH0
 obtain ⟨i0, hi0, hz0, hz1, hz2⟩ := info_parts infoPhoto
 have hgw := (Array.getElem?_eq_some_iff.1 hc).1
 have hbw := (Array.getElem?_eq_some_iff.1 hbv).1
 have hsz : (Tryz.prog.info? 85).map (·.size) = some 13 := by rw [hi0]; simp [hz1]
 have hcl : ∀ j u, xs[j]? = some u → w.cell? ⟨g, j, none⟩ = some u := fun j u hj => (h.cellAt j (by have := (List.getElem?_eq_some_iff.1 hj).1; omega)).trans hj
 have hik : i + (n + 1 - i) = n + 1 := by omega
 have hkk : (n : Int) + 1 - (i : Int) = ((n + 1 - i : Nat) : Int) := by omega
 have htl : (xs.take (i * 13)).length = i * 13 := by rw [List.length_take, hl]; omega
 have hold : (Builtin.firstCells i0.size i (.slice (some ⟨g, 0, none⟩) i n)).run Tryz.prog w.drew = .ok (xs.take (i * 13)).toArray w.drew := by
  rw [hz1]
  exact run_firstCells_some w.drew 13 i ⟨g, 0, none⟩ i n (xs.take (i * 13)) htl (fun j u hj => by
   rw [show (⟨g, 0, none⟩ : Addr).add j = ⟨g, j, none⟩ from by unfold Addr.add; split <;> simp_all]
   rw [List.getElem?_take] at hj
   split at hj
   ·exact hcl j u hj
   ·cases hj)
 have hrz := fun ty => Lib.run_append_grow_zeros w 39 3 ty 85 i0 (.agg #[.int .i64 0, .string ByteArray.empty, .int .i64 0, .int .i64 0, .slice none 0 0, .int .i64 0, .int .i64 0, .int .i64 0, .int .i64 0, .slice none 0 0, .string ByteArray.empty, .slice none 0 0, .bool false]) .i64 .i64 Tryz.underlying39 Tryz.underlying3 hi0 hz0 (some ⟨g, 0, none⟩) i n (xs.take (i * 13)) hold (n + 1 - i) (by omega) (by omega) (by omega) (by omega) (by rw [hz2]; omega) (by rw [hz2, hik]; exact growslice_fits (by omega) (by omega))
 rw [hik, ← hkk] at hrz
 have hGn : n + 1 ≤ grownCap w (n + 1) n 85 := grownCap_ge w _ _ _
 have hGm : grownCap w (n + 1) n 85 ≤ maxLen := grownCap_le_maxLen w _ _ _ (by unfold maxLen; omega)
 generalize grownCap w (n + 1) n 85 = G at hrz hGn hGm
 have hzl : (Builtin.zeroCells (Value.cells (.agg #[.int .i64 0, .string ByteArray.empty, .int .i64 0, .int .i64 0, .slice none 0 0, .int .i64 0, .int .i64 0, .int .i64 0, .int .i64 0, .slice none 0 0, .string ByteArray.empty, .slice none 0 0, .bool false])) (n + 1 - i)).toList.length = (n + 1 - i) * 13 := by
  rw [Array.length_toList]; simp [Builtin.zeroCells] <;> (first | rfl | exact Or.inl rfl)
 have hzl2 : (Builtin.zeroCells (Value.cells (.agg #[.int .i64 0, .string ByteArray.empty, .int .i64 0, .int .i64 0, .slice none 0 0, .int .i64 0, .int .i64 0, .int .i64 0, .int .i64 0, .slice none 0 0, .string ByteArray.empty, .slice none 0 0, .bool false])) (G - (n + 1))).toList.length = (G - (n + 1)) * 13 := by
  rw [Array.length_toList]; simp [Builtin.zeroCells] <;> (first | rfl | exact Or.inl rfl)
 obtain ⟨ROW, hROW⟩ : ∃ ROW : Array Value, (xs.take (i * 13)).toArray ++ Builtin.zeroCells (Value.cells (.agg #[.int .i64 0, .string ByteArray.empty, .int .i64 0, .int .i64 0, .slice none 0 0, .int .i64 0, .int .i64 0, .int .i64 0, .int .i64 0, .slice none 0 0, .string ByteArray.empty, .slice none 0 0, .bool false])) (n + 1 - i) ++ Builtin.zeroCells (Value.cells (.agg #[.int .i64 0, .string ByteArray.empty, .int .i64 0, .int .i64 0, .slice none 0 0, .int .i64 0, .int .i64 0, .int .i64 0, .int .i64 0, .slice none 0 0, .string ByteArray.empty, .slice none 0 0, .bool false])) (G - (n + 1)) = ROW := ⟨_, rfl⟩
 rw [hROW] at hrz
 have hRl : ROW.toList = xs.take (i * 13) ++ (Builtin.zeroCells (Value.cells (.agg #[.int .i64 0, .string ByteArray.empty, .int .i64 0, .int .i64 0, .slice none 0 0, .int .i64 0, .int .i64 0, .int .i64 0, .int .i64 0, .slice none 0 0, .string ByteArray.empty, .slice none 0 0, .bool false])) (n + 1 - i)).toList ++ (Builtin.zeroCells (Value.cells (.agg #[.int .i64 0, .string ByteArray.empty, .int .i64 0, .int .i64 0, .slice none 0 0, .int .i64 0, .int .i64 0, .int .i64 0, .int .i64 0, .slice none 0 0, .string ByteArray.empty, .slice none 0 0, .bool false])) (G - (n + 1))).toList := by rw [← hROW]; simp
 generalize (Builtin.zeroCells (Value.cells (.agg #[.int .i64 0, .string ByteArray.empty, .int .i64 0, .int .i64 0, .slice none 0 0, .int .i64 0, .int .i64 0, .int .i64 0, .int .i64 0, .slice none 0 0, .string ByteArray.empty, .slice none 0 0, .bool false])) (n + 1 - i)).toList = zs at hzl hRl
 generalize (Builtin.zeroCells (Value.cells (.agg #[.int .i64 0, .string ByteArray.empty, .int .i64 0, .int .i64 0, .slice none 0 0, .int .i64 0, .int .i64 0, .int .i64 0, .int .i64 0, .slice none 0 0, .string ByteArray.empty, .slice none 0 0, .bool false])) (G - (n + 1))).toList = zs2 at hzl2 hRl
 clear hROW
 obtain ⟨W1, hW1⟩ : ∃ W1, w.drew.alloc (.cells ROW 85) = W1 := ⟨_, rfl⟩
 rw [hW1] at hrz
 have hnew : W1.heap[w.heap.size]? = some (.cells ROW 85 (0, 0)) := by rw [← hW1]; exact heap_alloc_new w.drew _
 have hbl : ∀ b, b < w.heap.size → W1.heap[b]? = w.heap[b]? := fun b hb => by rw [← hW1]; exact Below.heap_alloc w.drew _ b hb
 have hs1 : W1.heap.size = w.heap.size + 1 := by rw [← hW1]; simp
 have hbs : W1.os = w.os ∧ W1.tape = w.tape ∧ W1.output = w.output := by rw [← hW1]; exact ⟨rfl, rfl, rfl⟩
 have ho0 : OwnC W1 B 85 13 w.heap.size (n + 1) G (xs.take (i * 13) ++ zs) := own_make (by omega) hnew hGn hGm (by rw [← Array.length_toList, hRl, List.length_append, List.length_append, htl, hzl, hzl2]; omega)
  (by rw [hRl]; exact List.take_left' (by rw [List.length_append, htl, hzl]; omega))
 obtain ⟨w2, hr1, ho1, hg1⟩ := own_copy (P := Tryz.prog) (w := W1) ho0 39 39 Tryz.underlying39 hsz (i * 13) (n + 1 - i) (G - i) ⟨bv, 0, none⟩ 1 1 ys (by rw [hy, show Nat.min 1 (n + 1 - i) = 1 from Nat.min_eq_left (by omega)])
  (fun j u hj => by
   rw [show (⟨bv, 0, none⟩ : Addr).add j = ⟨bv, j, none⟩ from by unfold Addr.add; split <;> simp_all, World.cell?]
   simp only [hbl bv hbw, hbv]
   rw [← hys] at hj
   simpa using hj)
  (by rw [hy]; omega) h1
 have hdl : (xs.drop (i * 13)).length = (n - i) * 13 := by rw [List.length_drop, hl]; omega
 have hg2w : w2.heap[g]? = w.heap[g]? := (hg1.block g (by omega) (by simp; omega)).trans (hbl g hgw)
 obtain ⟨w3, hr2, ho2, hg2⟩ := own_copy (P := Tryz.prog) (w := w2.drew) ho1 39 39 Tryz.underlying39 hsz ((i + 1) * 13) (n - i) (G - (i + 1)) ⟨g, i * 13, none⟩ (n - i) (n - i) (xs.drop (i * 13)) (by rw [hdl]; congr 1; exact (Nat.min_eq_left (Nat.le_refl _)).symm)
  (fun j u hj => by
   rw [List.getElem?_drop] at hj
   rw [show (⟨g, i * 13, none⟩ : Addr).add j = ⟨g, i * 13 + j, none⟩ from by unfold Addr.add; split <;> simp_all]
   have := hcl _ _ hj
   unfold World.cell? at this ⊢
   rw [show w2.drew.heap[g]? = w.heap[g]? from hg2w]
   exact this)
  (by rw [hdl]; omega) (fun v hv => hx1 v (List.mem_of_mem_drop hv))
 rw [show (i + 1) * 13 = i * 13 + 13 by omega, ins_grow (N := n * 13) hl (by rw [hzl]; omega) hy (by omega)] at ho2
 have HO := Lib.hid ho2
 have HG : Hid (w.grownBy w3 (some g)) := Lib.hid ⟨hg2.os.trans (hg1.os.trans hbs.1), hg2.tape.trans (hg1.tape.trans hbs.2.1), hg2.output.trans (hg1.output.trans hbs.2.2), by have := hg2.size; have h3 : w2.drew.heap.size = w2.heap.size := rfl; have := hg1.size; omega, fun b hb _ => (hg2.block b (by have h3 : w2.drew.heap.size = w2.heap.size := rfl; have := hg1.size; omega) (by simp; omega)).trans ((hg1.block b (by omega) (by simp; omega)).trans (hbl b hb))⟩
 have hGm2 : G ≤ 9223372036854775807 := hGm
 have hz2' : ¬ ((i : Int) = (n : Int)) := by omega
 have hz2b : ((i : Int) == (n : Int)) = false := by simpa using hz2'
 have hw1 : IntKind.i64.wrap ((n : Int) + 1) = (n : Int) + 1 := by rw [IntKind.wrap_i64]; omega
 have hw2 : IntKind.i64.wrap ((i : Int) + 1) = (i : Int) + 1 := by rw [IntKind.wrap_i64]; omega
 have hw3 : IntKind.i64.wrap ((n : Int) + 1 - (i : Int)) = (n : Int) + 1 - (i : Int) := by rw [IntKind.wrap_i64]; omega
 have hb1 : (0 : Int) ≤ (i : Int) + 1 := by omega
 have hb3 : (i : Int) ≤ (n : Int) + 1 := by omega
 have hb3' : (i : Int) ≤ (n : Int) := by omega
 have hb4 : (i : Int) + 1 ≤ (n : Int) + 1 := by omega
 have hb5 : ¬ G = i := by omega
 have hb6 : ¬ G = i + 1 := by omega
 have hb7 : ¬ n = i := by omega
 have hin : i ≤ n := by omega
 clear ho2 ho1 ho0 hg1 hg2 h1 hx1 hbv hc hcs htk hl hdl htl hys hy h hcl hold hkk hik hW1 hnew hbl hRl hzl hzl2 hs1 hbs hg2w
 go_enter Tryz.func51, Tryz.ntmps51
 go_wp2_with (first
  | (at_builtin; refine Lib.wpList_append_run _ rfl _ _ _ _ rfl _ _ rfl rfl _ _ (hrz _) ?_)
  | (at_builtin; refine wpList_copy_run _ rfl _ _ _ _ rfl _ _ rfl rfl (hr1 _) ?_))
 go_region_law (refine step_copy_run rfl _ _ _ _ rfl (.slice (some ⟨w.heap.size, (i + 1) * 13, none⟩) (n - i) (G - (i + 1))) (.slice (some ⟨g, i * 13, none⟩) (n - i) (n - i)) (by simp [Act.eval, Act.put]) (by simp [Act.eval, Act.put]) (hr2 _) ?_)
 go_wp2_with fail
 go_ret
 exact ⟨w.heap.size, G, rfl, HO.out, HG.out, .inr (Nat.le_refl _)⟩
theorem ph_ins (B n i : Nat) (v : Value) (xs ys : List Value) (w : World) (h : OwnV w B 85 13 v n xs) (hB : B ≤ w.heap.size) (hi : i ≤ n) (hn : n ≤ 1000000) (hx1 : ∀ v ∈ xs, v.oneCell' = true) (bv : Nat) (cv : Array Value) (tv : TypeId) (hbv : w.heap[bv]? = some (.cells cv tv (0, 0))) (hbg : v.ownBlock ≠ some bv) (hys : cv.toList = ys) (hy : ys.length = 13) (h1 : ∀ v ∈ ys, v.oneCell' = true) :
  Calls Tryz.prog 51 #[v, .int .i64 i, .slice (some ⟨bv, 0, none⟩) 1 1] w (OwnPost w B 85 13 v (n + 1) (xs.take (i * 13) ++ ys ++ xs.drop (i * 13))) := by
 have hl := h.len
 rcases Nat.eq_or_lt_of_le hi with rfl | hi
 ·rw [List.take_of_length_le (by omega), List.drop_eq_nil_of_le (by omega), List.append_nil]
  rcases h with ⟨rfl, rfl, rfl⟩ | ⟨g, cap, rfl, hc⟩
  ·exact ph_ins_grown B 0 0 none [] ys w (fun _ => ⟨rfl, rfl⟩) hl (fun b h => by cases h) (by omega) (by omega) (by omega) hB hn bv cv tv hbv hys hy h1
  ·by_cases hr : i + 1 ≤ cap
   ·exact ph_ins_last B g i cap xs ys w hc hr hn bv cv tv hbv hys hy h1
   ·have hc2 := hc
    obtain ⟨_, _, _, hnc, hcm, _⟩ := hc2
    exact ph_ins_grown B i cap (some ⟨g, 0, none⟩) xs ys w (fun h => by cases h) hl (fun b h j u hj => by
     cases h
     rw [show (⟨g, 0, none⟩ : Addr).add j = ⟨g, j, none⟩ from by unfold Addr.add; split <;> simp_all]
     exact (hc.cellAt j (by have := (List.getElem?_eq_some_iff.1 hj).1; omega)).trans hj) hcm (by omega) hnc hB hn bv cv tv hbv hys hy h1
 ·rcases h with ⟨_, h0, _⟩ | ⟨g, cap, rfl, hc⟩
  ·omega
  ·by_cases hr : n + 1 ≤ cap
   ·exact ph_ins_room B g n cap i xs ys w hc hi hr hn hx1 bv cv tv hbv (fun e => hbg (by rw [e]; rfl)) hys hy h1
   ·have hc2 := hc
    obtain ⟨_, _, _, hnc, _⟩ := hc2
    obtain rfl : cap = n := by omega
    exact ph_ins_grow B g cap i xs ys w hc hi hn hx1 bv cv tv hbv hys hy h1
end Go.Proofs.YtimjmjmpaicdbaaGreatDoor
