/- Parts of the proof, no condition: StChk1, StChk2, StChk3, StChk4, StChk5, StFetM. -/
import Derived.Test.YtbbgebpgpadclaaGreatDoorSr4
import Derived.Carry
import Derived.Maps.RangeWalk
set_option maxRecDepth 100000
set_option maxHeartbeats 8000000
set_option linter.unusedSimpArgs false
set_option linter.unusedVariables false
namespace Go.Proofs.YtbbgebpgpadclaaGreatDoor
open Go.RowKit Go.Sort Go.Shelf
theorem tierEq_is (x : Tir) (z : ByteArray) (bk : Nat) (t : TypeId) (w : World) (hs : Blk w bk #[.string z] t) :
  Calls Tryz.prog 115 #[.agg #[.string x.name, .int .i64 x.room, .int .i64 x.cost, .bool x.away], .pointer (some ⟨bk, 0, none⟩)] w fun e w' => e = .returned (.bool (x.name.toList == z.toList)) ∧ Below w.heap.size w w' := by
 obtain ⟨W1, hW1, hA, hz1, hB1⟩ := box w #[.string x.name, .int .i64 x.room, .int .i64 x.cost, .bool x.away] 65
 have HW1 := Lib.hid hW1
 have a0 : W1.cell? ⟨w.heap.size, 0, none⟩ = some (.string x.name) := (hA.cell 0).trans rfl
 have b0 := (hs.keep hB1).one
 clear hW1 hz1
 go_enter Tryz.func115, Tryz.ntmps115
 go_upto_region 1 with fail
 rw [HW1.out]
 go_wp2_with fail
 go_ret
 exact ⟨rfl, hB1⟩
theorem enters_tierEq : ∀ args w, (callFunc 115 args).run Tryz.prog w = .ok (.enter 115 args) w := enters_of Tryz.func115 (by kernel_rfl) rfl
theorem idxTier_is (L : List Tir) (sa : Option Addr) (sc : Nat) (z : ByteArray) (bk : Nat) (t : TypeId) (w : World) (hr : RowE St.eT w sa L) (hl : L.length ≤ sc ∧ sc ≤ 9223372036854775807) (hs : Blk w bk #[.string z] t) :
  Calls Tryz.prog 114 #[.slice sa L.length sc, .func (.func 115) #[] #[.pointer (some ⟨bk, 0, none⟩)]] w fun e w' => e = .returned (.int .i64 (St.tierAt L z)) ∧ Below w.heap.size w w' := by
 have eg := enters_tierEq
 have HR := Lib.hid hr; have HS := Lib.hid hs
 obtain ⟨q, hq⟩ : ∃ q, St.tierAt L z = q := ⟨_, rfl⟩
 rw [hq]
 have HQ : Hid (St.idx (fun t => St.eq t.name z) (L.drop 0) 0 = q) := Lib.hid hq
 obtain ⟨n, hn⟩ : ∃ n, L.length = n := ⟨_, rfl⟩
 have HN := Lib.hid hn
 rw [hn] at hl ⊢
 clear hr hs hq hn
 go_enter Tryz.func114, Tryz.ntmps114
 go_wp2_with fail
 go_loopg [8] n (fun gk i wr => ∃ j : Nat, j ≤ n ∧ gk = n - j ∧ i = .int .i64 j ∧ St.idx (fun t => St.eq t.name z) (L.drop j) j = q ∧ Below w.heap.size w wr)
 case atStart => exact ⟨0, by omega, rfl, rfl, HQ.out, Below.refl _ _⟩
 case round =>
  obtain ⟨j, hj, rfl, rfl, hs, hB⟩ := hrel
  have HSC := Lib.hid hs; clear hs
  by_cases hlt : j < n
  ·obtain ⟨x, hx⟩ : ∃ x, L[j]? = some x := ⟨_, List.getElem?_eq_getElem (by rw [HN.out]; exact hlt)⟩
   obtain ⟨b, off, ha, hb, hcell⟩ := (HR.out.keep hB) (by rw [HN.out]; omega)
   have c0 : wr.cell? ⟨b, off + j * 4, none⟩ = some (.string x.name) := hcell j x hx 0 (.string x.name) rfl
   have c1 : wr.cell? ⟨b, off + j * 4 + 1, none⟩ = some (.int .i64 x.room) := hcell j x hx 1 (.int .i64 x.room) rfl
   have c2 : wr.cell? ⟨b, off + j * 4 + 2, none⟩ = some (.int .i64 x.cost) := hcell j x hx 2 (.int .i64 x.cost) rfl
   have c3 : wr.cell? ⟨b, off + j * 4 + 3, none⟩ = some (.bool x.away) := hcell j x hx 3 (.bool x.away) rfl
   clear hcell
   have HX := Lib.hid hx
   have HC := Lib.hid (tierEq_is x z bk t wr (HS.out.keep hB))
   have hj0 : (0 : Int) ≤ (j : Int) := by omega
   have hj1 : (j : Int) < (n : Int) := by omega
   obtain ⟨bq, hbq⟩ : ∃ bq, (x.name.toList == z.toList) = bq := ⟨_, rfl⟩
   rw [hbq] at HC
   have HBQ := Lib.hid hbq
   rw [ha]
   cases bq
   ·have HE := Lib.hid (St.idx_next HSC.out HX.out HBQ.out)
    clear hx hbq
    go_wp2_with (go_at_fn 115; refine HC.out.mono ?_; rintro e w4 ⟨rfl, hB4⟩)
    rw [← ha]
    go_roundg (n - (j + 1))
    case rel => exact ⟨j + 1, by omega, rfl, by go_num, HE.out, below_up hB hB4⟩
    case measure => omega
   ·have HE := Lib.hid (St.idx_here HSC.out HX.out HBQ.out)
    clear hx hbq
    go_wp2_with (go_at_fn 115; refine HC.out.mono ?_; rintro e w4 ⟨rfl, hB4⟩)
    go_ret
    exact ⟨ret_int HE.out, below_up hB hB4⟩
  ·obtain rfl : j = n := by omega
   have HE := HSC.out
   rw [← HN.out] at HE
   have HE2 := Lib.hid (St.idx_end HE)
   clear HE
   go_wp2_with fail
   go_ret
   exact ⟨ret_int HE2.out, hB⟩
theorem tierAt_is (s : Sto) (a : StA) (name : ByteArray) (w : World) (hI : StIn w s a) :
  Calls Tryz.prog 81 #[.agg #[.int .i64 s.least, .int .i64 s.wait, .slice a.ta s.tiers.length a.tc, .slice a.fa s.files.length a.fc, .slice a.ca s.copies.length a.cc, .slice a.ha s.held.length a.hc, .slice a.ba s.bin.length a.bc], .string name] w fun e w' => e = .returned (.int .i64 (St.tierAt s.tiers name)) ∧ Below w.heap.size w w' := by
 obtain ⟨W1, hW1, hP, hz1, hB1⟩ := box w #[.int .i64 s.least, .int .i64 s.wait, .slice a.ta s.tiers.length a.tc, .slice a.fa s.files.length a.fc, .slice a.ca s.copies.length a.cc, .slice a.ha s.held.length a.hc, .slice a.ba s.bin.length a.bc] 28
 have HW1 := Lib.hid hW1
 have HI1 := Lib.hid (hI.keep hB1)
 have q0 : W1.cell? ⟨w.heap.size, 0, none⟩ = some (.int .i64 s.least) := (hP.cell 0).trans rfl
 have q1 : W1.cell? ⟨w.heap.size, 1, none⟩ = some (.int .i64 s.wait) := (hP.cell 1).trans rfl
 have q2 : W1.cell? ⟨w.heap.size, 2, none⟩ = some (.slice a.ta s.tiers.length a.tc) := (hP.cell 2).trans rfl
 have q3 : W1.cell? ⟨w.heap.size, 3, none⟩ = some (.slice a.fa s.files.length a.fc) := (hP.cell 3).trans rfl
 have q4 : W1.cell? ⟨w.heap.size, 4, none⟩ = some (.slice a.ca s.copies.length a.cc) := (hP.cell 4).trans rfl
 have q5 : W1.cell? ⟨w.heap.size, 5, none⟩ = some (.slice a.ha s.held.length a.hc) := (hP.cell 5).trans rfl
 have q6 : W1.cell? ⟨w.heap.size, 6, none⟩ = some (.slice a.ba s.bin.length a.bc) := (hP.cell 6).trans rfl
 have HP := Lib.hid hP; have HB1 := Lib.hid hB1
 clear hW1 hP
 obtain ⟨W2, hW2, hX2, hz2, hB2⟩ := box W1 #[.string name] 9
 have HW2 := Lib.hid hW2
 have p2 : W2.cell? ⟨w.heap.size, 2, none⟩ = some (.slice a.ta s.tiers.length a.tc) := ((HP.out.keep hB2).cell 2).trans rfl
 have HC := Lib.hid (idxTier_is s.tiers a.ta a.tc name W1.heap.size 9 W2 ((HI1.out.keep hB2).ti) hI.tl hX2)
 rw [hz1] at HC
 have HBB := Lib.hid (below_up HB1.out hB2)
 generalize s.tiers.length = n at *
 generalize St.tierAt s.tiers name = q at *
 clear q0 q1 q2 q3 q4 q5 q6 hI hW2 hX2 hz1 hz2
 go_enter Tryz.func81, Tryz.ntmps81
 go_wp2_with fail
 rw [HW1.out, HW2.out]
 go_wp2_with (go_at_call 114; (with_reducible refine HC.out.mono ?_); rintro e w4 ⟨rfl, hB4⟩)
 go_ret
 exact ⟨rfl, below_up HBB.out hB4⟩
theorem checkSizes_is (s : Sto) (a : StA) (w : World) (hI : StIn w s a) :
  Calls Tryz.prog 40 #[.agg #[.int .i64 s.least, .int .i64 s.wait, .slice a.ta s.tiers.length a.tc, .slice a.fa s.files.length a.fc, .slice a.ca s.copies.length a.cc, .slice a.ha s.held.length a.hc, .slice a.ba s.bin.length a.bc]] w fun e w' => e = .returned (.int .i64 (St.sizesE s)) ∧ Below w.heap.size w w' := by
 obtain ⟨W1, hW1, hP, hz1, hB1⟩ := box w #[.int .i64 s.least, .int .i64 s.wait, .slice a.ta s.tiers.length a.tc, .slice a.fa s.files.length a.fc, .slice a.ca s.copies.length a.cc, .slice a.ha s.held.length a.hc, .slice a.ba s.bin.length a.bc] 28
 have HW1 := Lib.hid hW1
 have HI1 := Lib.hid (hI.keep hB1)
 have q0 : W1.cell? ⟨w.heap.size, 0, none⟩ = some (.int .i64 s.least) := (hP.cell 0).trans rfl
 have q1 : W1.cell? ⟨w.heap.size, 1, none⟩ = some (.int .i64 s.wait) := (hP.cell 1).trans rfl
 have q2 : W1.cell? ⟨w.heap.size, 2, none⟩ = some (.slice a.ta s.tiers.length a.tc) := (hP.cell 2).trans rfl
 have q3 : W1.cell? ⟨w.heap.size, 3, none⟩ = some (.slice a.fa s.files.length a.fc) := (hP.cell 3).trans rfl
 have q4 : W1.cell? ⟨w.heap.size, 4, none⟩ = some (.slice a.ca s.copies.length a.cc) := (hP.cell 4).trans rfl
 have q5 : W1.cell? ⟨w.heap.size, 5, none⟩ = some (.slice a.ha s.held.length a.hc) := (hP.cell 5).trans rfl
 have q6 : W1.cell? ⟨w.heap.size, 6, none⟩ = some (.slice a.ba s.bin.length a.bc) := (hP.cell 6).trans rfl
 have HP := Lib.hid hP; have HB1 := Lib.hid hB1
 clear hW1 hP
 obtain ⟨q, hq⟩ : ∃ q, St.sizesE s = q := ⟨_, rfl⟩
 rw [hq]
 unfold St.sizesE at hq
 have HO1 := Lib.hid (fun W => outsideS_is s.least 1 8 W)
 have HO2 := Lib.hid (fun W => outsideS_is s.wait 0 1000 W)
 have h1 := hI.tl; have h2 := hI.fl; have h3 := hI.cl; have h4 := hI.hl; have h5 := hI.bl
 clear hI
 generalize s.tiers.length = n1 at *
 generalize s.files.length = n2 at *
 generalize s.copies.length = n3 at *
 generalize s.held.length = n4 at *
 generalize s.bin.length = n5 at *
 generalize St.inB s.least 1 8 = b1 at *
 generalize St.inB s.wait 0 1000 = b2 at *
 cases b1
 ·have HQ : Hid ((2 : Int) = q) := Lib.hid (by rw [← hq, if_neg (by simp)])
  clear hq
  go_enter Tryz.func40, Tryz.ntmps40
  go_wp2_with fail
  rw [HW1.out]
  go_wp2_with (go_at_call 79; first | ((with_reducible refine (HO1.out _).mono ?_); rintro e w2 ⟨rfl, rfl⟩) | ((with_reducible refine (HO2.out _).mono ?_); rintro e w2 ⟨rfl, rfl⟩))
  go_ret
  exact ⟨ret_int HQ.out, HB1.out⟩
 ·cases b2
  ·have HQ : Hid ((2 : Int) = q) := Lib.hid (by rw [← hq, if_neg (by simp)])
   clear hq
   go_enter Tryz.func40, Tryz.ntmps40
   go_wp2_with fail
   rw [HW1.out]
   go_wp2_with (go_at_call 79; first | ((with_reducible refine (HO1.out _).mono ?_); rintro e w2 ⟨rfl, rfl⟩) | ((with_reducible refine (HO2.out _).mono ?_); rintro e w2 ⟨rfl, rfl⟩))
   go_ret
   exact ⟨ret_int HQ.out, HB1.out⟩
  ·rw [if_pos ⟨rfl, rfl⟩] at hq
   by_cases g1 : 8 < n1
   ·have HQ : Hid ((4 : Int) = q) := Lib.hid (by rw [← hq, if_pos (.inl g1)])
    have g1' : (8 : Int) < (n1 : Int) := by omega
    clear hq
    go_enter Tryz.func40, Tryz.ntmps40
    go_wp2_with fail
    rw [HW1.out]
    go_wp2_with (go_at_call 79; first | ((with_reducible refine (HO1.out _).mono ?_); rintro e w2 ⟨rfl, rfl⟩) | ((with_reducible refine (HO2.out _).mono ?_); rintro e w2 ⟨rfl, rfl⟩))
    go_ret
    exact ⟨ret_int HQ.out, HB1.out⟩
   have g1' : ¬ ((8 : Int) < (n1 : Int)) := by omega
   by_cases g2 : 500 < n2
   ·have HQ : Hid ((4 : Int) = q) := Lib.hid (by rw [← hq, if_pos (.inr (.inl g2))])
    have g2' : (500 : Int) < (n2 : Int) := by omega
    clear hq
    go_enter Tryz.func40, Tryz.ntmps40
    go_wp2_with fail
    rw [HW1.out]
    go_wp2_with (go_at_call 79; first | ((with_reducible refine (HO1.out _).mono ?_); rintro e w2 ⟨rfl, rfl⟩) | ((with_reducible refine (HO2.out _).mono ?_); rintro e w2 ⟨rfl, rfl⟩))
    go_ret
    exact ⟨ret_int HQ.out, HB1.out⟩
   have g2' : ¬ ((500 : Int) < (n2 : Int)) := by omega
   by_cases g3 : 4000 < n3
   ·have HQ : Hid ((4 : Int) = q) := Lib.hid (by rw [← hq, if_pos (.inr (.inr (.inl g3)))])
    have g3' : (4000 : Int) < (n3 : Int) := by omega
    clear hq
    go_enter Tryz.func40, Tryz.ntmps40
    go_wp2_with fail
    rw [HW1.out]
    go_wp2_with (go_at_call 79; first | ((with_reducible refine (HO1.out _).mono ?_); rintro e w2 ⟨rfl, rfl⟩) | ((with_reducible refine (HO2.out _).mono ?_); rintro e w2 ⟨rfl, rfl⟩))
    go_ret
    exact ⟨ret_int HQ.out, HB1.out⟩
   have g3' : ¬ ((4000 : Int) < (n3 : Int)) := by omega
   by_cases g4 : 500 < n4
   ·have HQ : Hid ((4 : Int) = q) := Lib.hid (by rw [← hq, if_pos (.inr (.inr (.inr (.inl g4))))])
    have g4' : (500 : Int) < (n4 : Int) := by omega
    clear hq
    go_enter Tryz.func40, Tryz.ntmps40
    go_wp2_with fail
    rw [HW1.out]
    go_wp2_with (go_at_call 79; first | ((with_reducible refine (HO1.out _).mono ?_); rintro e w2 ⟨rfl, rfl⟩) | ((with_reducible refine (HO2.out _).mono ?_); rintro e w2 ⟨rfl, rfl⟩))
    go_ret
    exact ⟨ret_int HQ.out, HB1.out⟩
   have g4' : ¬ ((500 : Int) < (n4 : Int)) := by omega
   by_cases g5 : 500 < n5
   ·have HQ : Hid ((4 : Int) = q) := Lib.hid (by rw [← hq, if_pos (.inr (.inr (.inr (.inr g5))))])
    have g5' : (500 : Int) < (n5 : Int) := by omega
    clear hq
    go_enter Tryz.func40, Tryz.ntmps40
    go_wp2_with fail
    rw [HW1.out]
    go_wp2_with (go_at_call 79; first | ((with_reducible refine (HO1.out _).mono ?_); rintro e w2 ⟨rfl, rfl⟩) | ((with_reducible refine (HO2.out _).mono ?_); rintro e w2 ⟨rfl, rfl⟩))
    go_ret
    exact ⟨ret_int HQ.out, HB1.out⟩
   have g5' : ¬ ((500 : Int) < (n5 : Int)) := by omega
   have HQ : Hid ((0 : Int) = q) := Lib.hid (by rw [← hq, if_neg (by omega)])
   clear hq
   go_enter Tryz.func40, Tryz.ntmps40
   go_wp2_with fail
   rw [HW1.out]
   go_wp2_with (go_at_call 79; first | ((with_reducible refine (HO1.out _).mono ?_); rintro e w2 ⟨rfl, rfl⟩) | ((with_reducible refine (HO2.out _).mono ?_); rintro e w2 ⟨rfl, rfl⟩))
   go_ret
   exact ⟨ret_int HQ.out, HB1.out⟩
theorem checkTiers_is (s : Sto) (a : StA) (w : World) (hI : StIn w s a) :
  Calls Tryz.prog 41 #[.agg #[.int .i64 s.least, .int .i64 s.wait, .slice a.ta s.tiers.length a.tc, .slice a.fa s.files.length a.fc, .slice a.ca s.copies.length a.cc, .slice a.ha s.held.length a.hc, .slice a.ba s.bin.length a.bc]] w fun e w' => e = .returned (.int .i64 (St.scan St.tierE [] s.tiers)) ∧ Below w.heap.size w w' := by
 obtain ⟨W1, hW1, hP, hz1, hB1⟩ := box w #[.int .i64 s.least, .int .i64 s.wait, .slice a.ta s.tiers.length a.tc, .slice a.fa s.files.length a.fc, .slice a.ca s.copies.length a.cc, .slice a.ha s.held.length a.hc, .slice a.ba s.bin.length a.bc] 28
 have HW1 := Lib.hid hW1
 have HI1 := Lib.hid (hI.keep hB1)
 have q0 : W1.cell? ⟨w.heap.size, 0, none⟩ = some (.int .i64 s.least) := (hP.cell 0).trans rfl
 have q1 : W1.cell? ⟨w.heap.size, 1, none⟩ = some (.int .i64 s.wait) := (hP.cell 1).trans rfl
 have q2 : W1.cell? ⟨w.heap.size, 2, none⟩ = some (.slice a.ta s.tiers.length a.tc) := (hP.cell 2).trans rfl
 have q3 : W1.cell? ⟨w.heap.size, 3, none⟩ = some (.slice a.fa s.files.length a.fc) := (hP.cell 3).trans rfl
 have q4 : W1.cell? ⟨w.heap.size, 4, none⟩ = some (.slice a.ca s.copies.length a.cc) := (hP.cell 4).trans rfl
 have q5 : W1.cell? ⟨w.heap.size, 5, none⟩ = some (.slice a.ha s.held.length a.hc) := (hP.cell 5).trans rfl
 have q6 : W1.cell? ⟨w.heap.size, 6, none⟩ = some (.slice a.ba s.bin.length a.bc) := (hP.cell 6).trans rfl
 have HP := Lib.hid hP; have HB1 := Lib.hid hB1
 clear hW1 hP
 have htl := hI.tl
 have HTZ := Lib.hid hI.tz
 obtain ⟨q, hq⟩ : ∃ q, St.scan St.tierE [] s.tiers = q := ⟨_, rfl⟩
 rw [hq]
 have HQ : Hid (St.scan St.tierE (s.tiers.take 0) (s.tiers.drop 0) = q) := Lib.hid hq
 have HTW := Lib.hid (fun W (hb : Below W1.heap.size W1 W) (name : ByteArray) => tierAt_is s a name W (HI1.out.keep hb))
 have HCL := Lib.hid (fun W (hb : Below W1.heap.size W1 W) => HP.out.keep hb)
 clear q0 q1 q3 q4 q5 q6 hI hq
 obtain ⟨n, hn⟩ : ∃ n, s.tiers.length = n := ⟨_, rfl⟩
 have HN := Lib.hid hn
 rw [hn] at q2 htl HW1 HTW HCL ⊢
 clear hn
 go_enter Tryz.func41, Tryz.ntmps41
 go_wp2_with fail
 rw [HW1.out]
 go_wp2_with fail
 go_loopg [8] n (fun gk i wr => ∃ j : Nat, j ≤ n ∧ gk = n - j ∧ i = .int .i64 j ∧ St.scan St.tierE (s.tiers.take j) (s.tiers.drop j) = q ∧ Below w.heap.size w wr ∧ Below W1.heap.size W1 wr)
 case atStart => exact ⟨0, by omega, rfl, rfl, HQ.out, HB1.out, Below.refl _ _⟩
 case round =>
  obtain ⟨j, hj, rfl, rfl, hs, hB, hBW⟩ := hrel
  have HS := Lib.hid hs; clear hs
  by_cases hlt : j < n
  ·obtain ⟨x, hx⟩ : ∃ x, s.tiers[j]? = some x := ⟨_, List.getElem?_eq_getElem (by rw [HN.out]; exact hlt)⟩
   obtain ⟨b, off, ha, hb, hcell⟩ := ((HI1.out.keep hBW).ti) (by rw [HN.out]; omega)
   have c0 : wr.cell? ⟨b, off + j * 4, none⟩ = some (.string x.name) := hcell j x hx 0 (.string x.name) rfl
   have c1 : wr.cell? ⟨b, off + j * 4 + 1, none⟩ = some (.int .i64 x.room) := hcell j x hx 1 (.int .i64 x.room) rfl
   have c2 : wr.cell? ⟨b, off + j * 4 + 2, none⟩ = some (.int .i64 x.cost) := hcell j x hx 2 (.int .i64 x.cost) rfl
   have c3 : wr.cell? ⟨b, off + j * 4 + 3, none⟩ = some (.bool x.away) := hcell j x hx 3 (.bool x.away) rfl
   clear hcell
   have HX := Lib.hid hx
   obtain ⟨W3, hW3, hX3, hz3, hB3⟩ := box wr #[.string x.name, .int .i64 x.room, .int .i64 x.cost, .bool x.away] 65
   have HW3 := Lib.hid hW3
   have HAL := Lib.hid (below_up hB hB3)
   have HAW := Lib.hid (below_up hBW hB3)
   have HD : Hid (∀ W, Below W3.heap.size W3 W → W.cell? ⟨wr.heap.size, 0, none⟩ = some (.string x.name) ∧ W.cell? ⟨wr.heap.size, 1, none⟩ = some (.int .i64 x.room) ∧ W.cell? ⟨wr.heap.size, 2, none⟩ = some (.int .i64 x.cost) ∧ W.cell? ⟨wr.heap.size, 3, none⟩ = some (.bool x.away)) := Lib.hid fun W hb =>
    have k := hX3.keep hb
    ⟨(k.cell 0).trans rfl, (k.cell 1).trans rfl, (k.cell 2).trans rfl, (k.cell 3).trans rfl⟩
   obtain ⟨d0, d1, d2, d3⟩ := HD.out _ (Below.refl _ _)
   have hKW := HCL.out _ HAW.out
   have m0 : W3.cell? ⟨w.heap.size, 0, none⟩ = some (.int .i64 s.least) := (hKW.cell 0).trans rfl
   have m1 : W3.cell? ⟨w.heap.size, 1, none⟩ = some (.int .i64 s.wait) := (hKW.cell 1).trans rfl
   have m2 : W3.cell? ⟨w.heap.size, 2, none⟩ = some (.slice a.ta n a.tc) := (hKW.cell 2).trans rfl
   have m3 : W3.cell? ⟨w.heap.size, 3, none⟩ = some (.slice a.fa s.files.length a.fc) := (hKW.cell 3).trans rfl
   have m4 : W3.cell? ⟨w.heap.size, 4, none⟩ = some (.slice a.ca s.copies.length a.cc) := (hKW.cell 4).trans rfl
   have m5 : W3.cell? ⟨w.heap.size, 5, none⟩ = some (.slice a.ha s.held.length a.hc) := (hKW.cell 5).trans rfl
   have m6 : W3.cell? ⟨w.heap.size, 6, none⟩ = some (.slice a.ba s.bin.length a.bc) := (hKW.cell 6).trans rfl
   have HNM := Lib.hid (fun W => isNameW_is x.name (HTZ.out x (List.mem_of_getElem? hx)) _ rfl W)
   have HTA := Lib.hid (HTW.out _ HAW.out x.name)
   have HO1 := Lib.hid (fun W => outsideS_is x.room 0 1000000000000 W)
   have HO2 := Lib.hid (fun W => outsideS_is x.cost 0 1000000 W)
   have hfst := St.tier_first hx
   have HDF : Hid (St.tierE (s.tiers.take j) x = if Fd.nameB x.name = true then (if St.hasTier (s.tiers.take j) x.name = true then 6 else if St.inB x.room 0 1000000000000 = true ∧ St.inB x.cost 0 1000000 = true then 0 else 2) else 3) := Lib.hid rfl
   have hj0 : (0 : Int) ≤ (j : Int) := by omega
   have hj1 : (j : Int) < (n : Int) := by omega
   generalize Fd.nameB x.name = bn at *
   generalize St.hasTier (s.tiers.take j) x.name = bt at *
   generalize St.inB x.room 0 1000000000000 = b1 at *
   generalize St.inB x.cost 0 1000000 = b2 at *
   generalize St.tierAt s.tiers x.name = ti at *
   clear hx hB hBW hX3 hz3 hB3 hW3 hKW
   rw [ha] at HTA m2 ⊢
   cases bn
   ·have HBD : Hid (St.tierE (s.tiers.take j) x = 3) := Lib.hid (by rw [HDF.out]; rfl)
    have HE := Lib.hid (St.scan_here HS.out HX.out (by rw [HBD.out]; decide))
    rw [HBD.out] at HE
    go_wp2_with fail
    rw [HW3.out]
    go_wp2_with (first | (go_at_call 80; (with_reducible refine (HNM.out _).mono ?_); rintro e w4 ⟨rfl, rfl⟩) | (go_at_call 81; (with_reducible refine HTA.out.mono ?_); rintro e w4 ⟨rfl, hB4⟩; have HB4 := Lib.hid hB4; obtain ⟨d0, d1, d2, d3⟩ := HD.out _ hB4) | (go_at_call 79; first | ((with_reducible refine (HO1.out _).mono ?_); rintro e w2 ⟨rfl, rfl⟩) | ((with_reducible refine (HO2.out _).mono ?_); rintro e w2 ⟨rfl, rfl⟩)))
    go_ret
    exact ⟨ret_int HE.out.symm, HAL.out⟩
   cases bt
   ·have hge : ¬ (ti < (j : Int)) := fun g => by have := hfst.1 g; cases this
    cases b1
    ·have HBD : Hid (St.tierE (s.tiers.take j) x = 2) := Lib.hid (by rw [HDF.out]; rfl)
     have HE := Lib.hid (St.scan_here HS.out HX.out (by rw [HBD.out]; decide))
     rw [HBD.out] at HE
     clear hfst
     go_wp2_with fail
     rw [HW3.out]
     go_wp2_with (first | (go_at_call 80; (with_reducible refine (HNM.out _).mono ?_); rintro e w4 ⟨rfl, rfl⟩) | (go_at_call 81; (with_reducible refine HTA.out.mono ?_); rintro e w4 ⟨rfl, hB4⟩; have HB4 := Lib.hid hB4; obtain ⟨d0, d1, d2, d3⟩ := HD.out _ hB4) | (go_at_call 79; first | ((with_reducible refine (HO1.out _).mono ?_); rintro e w2 ⟨rfl, rfl⟩) | ((with_reducible refine (HO2.out _).mono ?_); rintro e w2 ⟨rfl, rfl⟩)))
     go_ret
     exact ⟨ret_int HE.out.symm, below_up HAL.out HB4.out⟩
    cases b2
    ·have HBD : Hid (St.tierE (s.tiers.take j) x = 2) := Lib.hid (by rw [HDF.out]; rfl)
     have HE := Lib.hid (St.scan_here HS.out HX.out (by rw [HBD.out]; decide))
     rw [HBD.out] at HE
     clear hfst
     go_wp2_with fail
     rw [HW3.out]
     go_wp2_with (first | (go_at_call 80; (with_reducible refine (HNM.out _).mono ?_); rintro e w4 ⟨rfl, rfl⟩) | (go_at_call 81; (with_reducible refine HTA.out.mono ?_); rintro e w4 ⟨rfl, hB4⟩; have HB4 := Lib.hid hB4; obtain ⟨d0, d1, d2, d3⟩ := HD.out _ hB4) | (go_at_call 79; first | ((with_reducible refine (HO1.out _).mono ?_); rintro e w2 ⟨rfl, rfl⟩) | ((with_reducible refine (HO2.out _).mono ?_); rintro e w2 ⟨rfl, rfl⟩)))
     go_ret
     exact ⟨ret_int HE.out.symm, below_up HAL.out HB4.out⟩
    ·have HBD : Hid (St.tierE (s.tiers.take j) x = 0) := Lib.hid (by rw [HDF.out]; rfl)
     have HE := Lib.hid (St.scan_next HS.out HX.out HBD.out)
     clear hfst
     go_wp2_with fail
     rw [HW3.out]
     go_wp2_with (first | (go_at_call 80; (with_reducible refine (HNM.out _).mono ?_); rintro e w4 ⟨rfl, rfl⟩) | (go_at_call 81; (with_reducible refine HTA.out.mono ?_); rintro e w4 ⟨rfl, hB4⟩; have HB4 := Lib.hid hB4; obtain ⟨d0, d1, d2, d3⟩ := HD.out _ hB4) | (go_at_call 79; first | ((with_reducible refine (HO1.out _).mono ?_); rintro e w2 ⟨rfl, rfl⟩) | ((with_reducible refine (HO2.out _).mono ?_); rintro e w2 ⟨rfl, rfl⟩)))
     rw [← ha]
     go_roundg (n - (j + 1))
     case rel => exact ⟨j + 1, by omega, rfl, by go_num, HE.out, below_up HAL.out HB4.out, below_up HAW.out HB4.out⟩
     case measure => omega
   ·have hge : ti < (j : Int) := hfst.2 rfl
    have HBD : Hid (St.tierE (s.tiers.take j) x = 6) := Lib.hid (by rw [HDF.out]; rfl)
    have HE := Lib.hid (St.scan_here HS.out HX.out (by rw [HBD.out]; decide))
    rw [HBD.out] at HE
    clear hfst
    go_wp2_with fail
    rw [HW3.out]
    go_wp2_with (first | (go_at_call 80; (with_reducible refine (HNM.out _).mono ?_); rintro e w4 ⟨rfl, rfl⟩) | (go_at_call 81; (with_reducible refine HTA.out.mono ?_); rintro e w4 ⟨rfl, hB4⟩; have HB4 := Lib.hid hB4; obtain ⟨d0, d1, d2, d3⟩ := HD.out _ hB4) | (go_at_call 79; first | ((with_reducible refine (HO1.out _).mono ?_); rintro e w2 ⟨rfl, rfl⟩) | ((with_reducible refine (HO2.out _).mono ?_); rintro e w2 ⟨rfl, rfl⟩)))
    go_ret
    exact ⟨ret_int HE.out.symm, below_up HAL.out HB4.out⟩
  ·obtain rfl : j = n := by omega
   have HE := HS.out
   rw [← HN.out] at HE
   have HE2 := Lib.hid (St.scan_done HE)
   clear HE
   go_wp2_with fail
   go_ret
   exact ⟨ret_int HE2.out.symm, hB⟩
end Go.Proofs.YtbbgebpgpadclaaGreatDoor
namespace Go.Proofs.YtbbgebpgpadclaaGreatDoor
open Go.RowKit Go.Sort Go.Shelf Go.Maps
theorem below_of_grownS {B : Nat} {a b : World} {p : Nat} (h : a.grownBy b (some p)) (hB : B ≤ a.heap.size) (hp : B ≤ p) : Below B a b :=
 ⟨h.os, h.tape, h.output, h.size, fun k hk => h.block k (by omega) fun e => by injection e with e; omega⟩
namespace St
def fileC (f : Fil) (before : ByteArray) : Int := if Fd.fileB f.dig = true then (if le f.dig before = true then 5 else fileR f) else 1
def bef (pre : List Fil) : ByteArray := match pre.getLast? with | some p => p.dig | none => ⟨#[]⟩
theorem fileE_bef (pre : List Fil) (f : Fil) : fileE pre f = fileC f (bef pre) := by
 unfold fileE fileC bef
 by_cases h : Fd.fileB f.dig = true
 ·rw [if_pos h, if_pos h]
  cases hp : pre.getLast? with
  | some p => rfl
  | none =>
    have : le f.dig ⟨#[]⟩ = false := by
     have h16 := size_len f.dig
     have hs : f.dig.size = 16 := by
      unfold Fd.fileB at h
      exact (of_decide_eq_true h).1
     have e0 : (⟨#[]⟩ : ByteArray).toList = [] := by rw [ByteArray.toList_eq]
     unfold le
     rw [e0]
     cases hl : f.dig.toList with
     | nil => rw [hl] at h16; simp at h16; omega
     | cons a r => simp [Op.bytesLess]
    show _ = if le f.dig ⟨#[]⟩ = true then 5 else fileR f
    rw [this]; rfl
 ·rw [if_neg h, if_neg h]
theorem bef_succ {L : List Fil} {j : Nat} {x : Fil} (h : L[j]? = some x) : bef (L.take (j + 1)) = x.dig := by
 unfold bef; rw [last_take h]
end St
theorem checkFile_is (x : Fil) (before : ByteArray) (hz : x.dig.size ≤ 9223372036854775807) (w : World) :
  Calls Tryz.prog 82 #[.agg #[.string x.dig, .int .i64 x.size, .int .i64 x.kind, .string x.frm], .string before] w fun e w' => e = .returned (.int .i64 (St.fileC x before)) ∧ Below w.heap.size w w' := by
 obtain ⟨W3, hW3, hX3, hz3, hB3⟩ := box w #[.string x.dig, .int .i64 x.size, .int .i64 x.kind, .string x.frm] 68
 have HW3 := Lib.hid hW3; have HB3 := Lib.hid hB3
 have HD : Hid (∀ W, Below W3.heap.size W3 W → W.cell? ⟨w.heap.size, 0, none⟩ = some (.string x.dig) ∧ W.cell? ⟨w.heap.size, 1, none⟩ = some (.int .i64 x.size) ∧ W.cell? ⟨w.heap.size, 2, none⟩ = some (.int .i64 x.kind) ∧ W.cell? ⟨w.heap.size, 3, none⟩ = some (.string x.frm)) := Lib.hid fun W hb =>
  have k := hX3.keep hb
  ⟨(k.cell 0).trans rfl, (k.cell 1).trans rfl, (k.cell 2).trans rfl, (k.cell 3).trans rfl⟩
 obtain ⟨d0, d1, d2, d3⟩ := HD.out _ (Below.refl _ _)
 have HDG := Lib.hid (isDigestS_is x.dig hz W3)
 have HO1 := Lib.hid (fun W => outsideS_is x.size 0 1000000000 W)
 have HO2 := Lib.hid (fun W => outsideS_is x.kind 1 3 W)
 obtain ⟨q, hq⟩ : ∃ q, St.fileC x before = q := ⟨_, rfl⟩
 rw [hq]
 unfold St.fileC St.fileR at hq
 have hle : (Op.bytesLess x.dig.toList before.toList || x.dig.toList == before.toList) = St.le x.dig before := rfl
 clear hW3 hX3 hB3 hz3 hz
 generalize St.le x.dig before = bl at *
 generalize Fd.fileB x.dig = bd at *
 generalize St.inB x.size 0 1000000000 = b1 at *
 generalize St.inB x.kind 1 3 = b2 at *
 cases bd
 ·have HQ := Lib.hid hq
  clear hq
  go_enter Tryz.func82, Tryz.ntmps82
  go_wp2_with fail
  rw [HW3.out]
  go_wp2_with (first | (go_at_call 116; (with_reducible refine HDG.out.mono ?_); rintro e w4 ⟨rfl, hB4⟩; have HB4 := Lib.hid hB4; obtain ⟨d0, d1, d2, d3⟩ := HD.out _ hB4) | (go_at_call 79; first | ((with_reducible refine (HO1.out _).mono ?_); rintro e w2 ⟨rfl, rfl⟩) | ((with_reducible refine (HO2.out _).mono ?_); rintro e w2 ⟨rfl, rfl⟩)))
  go_ret
  exact ⟨ret_int (by rw [← HQ.out]; rfl), below_up HB3.out HB4.out⟩
 cases bl
 ·cases b1
  ·have HQ := Lib.hid hq
   clear hq
   go_enter Tryz.func82, Tryz.ntmps82
   go_wp2_with fail
   rw [HW3.out]
   go_wp2_with (first | (go_at_call 116; (with_reducible refine HDG.out.mono ?_); rintro e w4 ⟨rfl, hB4⟩; have HB4 := Lib.hid hB4; obtain ⟨d0, d1, d2, d3⟩ := HD.out _ hB4) | (go_at_call 79; first | ((with_reducible refine (HO1.out _).mono ?_); rintro e w2 ⟨rfl, rfl⟩) | ((with_reducible refine (HO2.out _).mono ?_); rintro e w2 ⟨rfl, rfl⟩)))
   go_ret
   exact ⟨ret_int (by rw [← HQ.out]; rfl), below_up HB3.out HB4.out⟩
  cases b2
  ·have HQ := Lib.hid hq
   clear hq
   go_enter Tryz.func82, Tryz.ntmps82
   go_wp2_with fail
   rw [HW3.out]
   go_wp2_with (first | (go_at_call 116; (with_reducible refine HDG.out.mono ?_); rintro e w4 ⟨rfl, hB4⟩; have HB4 := Lib.hid hB4; obtain ⟨d0, d1, d2, d3⟩ := HD.out _ hB4) | (go_at_call 79; first | ((with_reducible refine (HO1.out _).mono ?_); rintro e w2 ⟨rfl, rfl⟩) | ((with_reducible refine (HO2.out _).mono ?_); rintro e w2 ⟨rfl, rfl⟩)))
   go_ret
   exact ⟨ret_int (by rw [← HQ.out]; rfl), below_up HB3.out HB4.out⟩
  by_cases hk : x.kind = 1
  ·have hk2 : (x.kind == 1) = true := by simpa using hk
   cases he : x.frm.toList.isEmpty
   ·have HQ : Hid ((1 : Int) = q) := Lib.hid (by rw [← hq, if_pos rfl, if_neg (by decide), if_pos rfl, if_pos rfl, if_pos ⟨hk, he⟩])
    clear hq hk
    go_enter Tryz.func82, Tryz.ntmps82
    go_wp2_with fail
    rw [HW3.out]
    go_wp2_with (first | (go_at_call 116; (with_reducible refine HDG.out.mono ?_); rintro e w4 ⟨rfl, hB4⟩; have HB4 := Lib.hid hB4; obtain ⟨d0, d1, d2, d3⟩ := HD.out _ hB4) | (go_at_call 79; first | ((with_reducible refine (HO1.out _).mono ?_); rintro e w2 ⟨rfl, rfl⟩) | ((with_reducible refine (HO2.out _).mono ?_); rintro e w2 ⟨rfl, rfl⟩)))
    go_ret
    exact ⟨ret_int HQ.out, below_up HB3.out HB4.out⟩
   ·have HQ : Hid ((0 : Int) = q) := Lib.hid (by rw [← hq, if_pos rfl, if_neg (by decide), if_pos rfl, if_pos rfl, if_neg (by rintro ⟨_, g⟩; rw [he] at g; cases g)])
    clear hq hk
    go_enter Tryz.func82, Tryz.ntmps82
    go_wp2_with fail
    rw [HW3.out]
    go_wp2_with (first | (go_at_call 116; (with_reducible refine HDG.out.mono ?_); rintro e w4 ⟨rfl, hB4⟩; have HB4 := Lib.hid hB4; obtain ⟨d0, d1, d2, d3⟩ := HD.out _ hB4) | (go_at_call 79; first | ((with_reducible refine (HO1.out _).mono ?_); rintro e w2 ⟨rfl, rfl⟩) | ((with_reducible refine (HO2.out _).mono ?_); rintro e w2 ⟨rfl, rfl⟩)))
    go_ret
    exact ⟨ret_int HQ.out, below_up HB3.out HB4.out⟩
  ·have hk2 : (x.kind == 1) = false := by simpa using hk
   have HQ : Hid ((0 : Int) = q) := Lib.hid (by rw [← hq, if_pos rfl, if_neg (by decide), if_pos rfl, if_pos rfl, if_neg (by rintro ⟨g, _⟩; exact hk g)])
   clear hq
   go_enter Tryz.func82, Tryz.ntmps82
   go_wp2_with fail
   rw [HW3.out]
   go_wp2_with (first | (go_at_call 116; (with_reducible refine HDG.out.mono ?_); rintro e w4 ⟨rfl, hB4⟩; have HB4 := Lib.hid hB4; obtain ⟨d0, d1, d2, d3⟩ := HD.out _ hB4) | (go_at_call 79; first | ((with_reducible refine (HO1.out _).mono ?_); rintro e w2 ⟨rfl, rfl⟩) | ((with_reducible refine (HO2.out _).mono ?_); rintro e w2 ⟨rfl, rfl⟩)))
   go_ret
   exact ⟨ret_int HQ.out, below_up HB3.out HB4.out⟩
 ·have HQ := Lib.hid hq
  clear hq
  go_enter Tryz.func82, Tryz.ntmps82
  go_wp2_with fail
  rw [HW3.out]
  go_wp2_with (first | (go_at_call 116; (with_reducible refine HDG.out.mono ?_); rintro e w4 ⟨rfl, hB4⟩; have HB4 := Lib.hid hB4; obtain ⟨d0, d1, d2, d3⟩ := HD.out _ hB4) | (go_at_call 79; first | ((with_reducible refine (HO1.out _).mono ?_); rintro e w2 ⟨rfl, rfl⟩) | ((with_reducible refine (HO2.out _).mono ?_); rintro e w2 ⟨rfl, rfl⟩)))
  go_ret
  exact ⟨ret_int (by rw [← HQ.out]; rfl), below_up HB3.out HB4.out⟩
theorem byDigest_is (s : Sto) (a : StA) (w : World) (hI : StIn w s a) (hn500 : s.files.length ≤ 500) :
  Calls Tryz.prog 83 #[.agg #[.int .i64 s.least, .int .i64 s.wait, .slice a.ta s.tiers.length a.tc, .slice a.fa s.files.length a.fc, .slice a.ca s.copies.length a.cc, .slice a.ha s.held.length a.hc, .slice a.ba s.bin.length a.bc]] w fun e w' => ∃ b, e = .returned (.map (some b)) ∧ w.heap.size ≤ b ∧ FMap w' b s.files ∧ Below w.heap.size w w' := by
 obtain ⟨W1, hW1, hP, hz1, hB1⟩ := box w #[.int .i64 s.least, .int .i64 s.wait, .slice a.ta s.tiers.length a.tc, .slice a.fa s.files.length a.fc, .slice a.ca s.copies.length a.cc, .slice a.ha s.held.length a.hc, .slice a.ba s.bin.length a.bc] 28
 have HW1 := Lib.hid hW1
 have HI1 := Lib.hid (hI.keep hB1)
 have q0 : W1.cell? ⟨w.heap.size, 0, none⟩ = some (.int .i64 s.least) := (hP.cell 0).trans rfl
 have q1 : W1.cell? ⟨w.heap.size, 1, none⟩ = some (.int .i64 s.wait) := (hP.cell 1).trans rfl
 have q2 : W1.cell? ⟨w.heap.size, 2, none⟩ = some (.slice a.ta s.tiers.length a.tc) := (hP.cell 2).trans rfl
 have q3 : W1.cell? ⟨w.heap.size, 3, none⟩ = some (.slice a.fa s.files.length a.fc) := (hP.cell 3).trans rfl
 have q4 : W1.cell? ⟨w.heap.size, 4, none⟩ = some (.slice a.ca s.copies.length a.cc) := (hP.cell 4).trans rfl
 have q5 : W1.cell? ⟨w.heap.size, 5, none⟩ = some (.slice a.ha s.held.length a.hc) := (hP.cell 5).trans rfl
 have q6 : W1.cell? ⟨w.heap.size, 6, none⟩ = some (.slice a.ba s.bin.length a.bc) := (hP.cell 6).trans rfl
 have HP := Lib.hid hP; have HB1 := Lib.hid hB1
 clear hW1 hP
 have HFZ := Lib.hid hI.fz
 have HI0 := Lib.hid hI
 obtain ⟨W2, hW2⟩ : ∃ W2, W1.alloc (.map #[] 0) = W2 := ⟨_, rfl⟩
 have HW2 := Lib.hid hW2
 have hM2 : FMap W2 W1.heap.size [] := by rw [← hW2]; exact FMap.made W1
 have hB2 : Below W1.heap.size W1 W2 := by rw [← hW2]; exact (Below.refl _ _).alloc (Nat.le_refl _) _
 have HB2 := Lib.hid (below_up HB1.out hB2)
 have p3 : W2.cell? ⟨w.heap.size, 3, none⟩ = some (.slice a.fa s.files.length a.fc) := ((HP.out.keep hB2).cell 3).trans rfl
 have hfl := hI.fl
 rw [hz1] at hM2
 have HM2 := Lib.hid hM2
 clear q0 q1 q2 q3 q4 q5 q6 hI hW2 hM2 hB2 hz1
 obtain ⟨n, hn⟩ : ∃ n, s.files.length = n := ⟨_, rfl⟩
 have HN := Lib.hid hn
 rw [hn] at p3 hfl hn500 HW1 ⊢
 clear hn
 have hmm := @run_makeMap Tryz.prog
 go_enter Tryz.func83, Tryz.ntmps83
 go_wp2_with fail
 rw [HW1.out]
 go_wp2_with fail
 rw [HW2.out]
 go_wp2_with fail
 go_loopg [10] n (fun gk i wr => ∃ j : Nat, j ≤ n ∧ gk = n - j ∧ i = .int .i64 j ∧ FMap wr (w.heap.size + 1) (s.files.take j) ∧ Below w.heap.size w wr)
 case atStart => exact ⟨0, by omega, rfl, rfl, HM2.out, HB2.out⟩
 case round =>
  obtain ⟨j, hj, rfl, rfl, hm, hB⟩ := hrel
  have HM := Lib.hid hm; clear hm
  by_cases hlt : j < n
  ·obtain ⟨x, hx⟩ : ∃ x, s.files[j]? = some x := ⟨_, List.getElem?_eq_getElem (by rw [HN.out]; exact hlt)⟩
   obtain ⟨b, off, ha, hb, hcell⟩ := ((HI0.out.keep hB).fi) (by rw [HN.out]; omega)
   have c0 : wr.cell? ⟨b, off + j * 4, none⟩ = some (.string x.dig) := hcell j x hx 0 (.string x.dig) rfl
   have c1 : wr.cell? ⟨b, off + j * 4 + 1, none⟩ = some (.int .i64 x.size) := hcell j x hx 1 (.int .i64 x.size) rfl
   have c2 : wr.cell? ⟨b, off + j * 4 + 2, none⟩ = some (.int .i64 x.kind) := hcell j x hx 2 (.int .i64 x.kind) rfl
   have c3 : wr.cell? ⟨b, off + j * 4 + 3, none⟩ = some (.string x.frm) := hcell j x hx 3 (.string x.frm) rfl
   clear hcell
   have HX := Lib.hid hx
   have HBR := Lib.hid hB
   obtain ⟨W3, hW3, hX3, hz3, hB3⟩ := box wr #[.string x.dig, .int .i64 x.size, .int .i64 x.kind, .string x.frm] 68
   have HW3 := Lib.hid hW3
   have d0 : W3.cell? ⟨wr.heap.size, 0, none⟩ = some (.string x.dig) := (hX3.cell 0).trans rfl
   have d1 : W3.cell? ⟨wr.heap.size, 1, none⟩ = some (.int .i64 x.size) := (hX3.cell 1).trans rfl
   have d2 : W3.cell? ⟨wr.heap.size, 2, none⟩ = some (.int .i64 x.kind) := (hX3.cell 2).trans rfl
   have d3 : W3.cell? ⟨wr.heap.size, 3, none⟩ = some (.string x.frm) := (hX3.cell 3).trans rfl
   obtain ⟨D, h1, h2, h3⟩ := HM.out.keep hB3
   have H1 := Lib.hid h1; have H2 := Lib.hid h2; have H3 := Lib.hid h3
   have HKEY := Lib.hid (keyS (HFZ.out x (List.mem_of_getElem? hx)).1)
   have htl : (s.files.take j).length ≤ 500 := by rw [List.length_take]; omega
   have HB03 := Lib.hid (below_up HBR.out hB3)
   have hj0 : (0 : Int) ≤ (j : Int) := by omega
   have hj1 : (j : Int) < (n : Int) := by omega
   clear hx h1 h2 h3 hW3 hX3 hB3 hz3 hB
   rw [ha]
   go_upto_region 5 with fail
   rw [HW3.out]
   go_wp2_with (at_mapUpdate; (refine wpList_mapUpdate_own _ rfl _ _ _ 112 rfl 9 68 (string_keyed Tryz.underlying9) Tryz.underlying112 St.rdF (w.heap.size + 1) (s.files.take j).length D rfl H1.out (by unfold maxLen; omega) _ _ (St.kl x.dig) rfl rfl HKEY.out (.held (St.fval x)) [] rfl ?_; intro w4 hown4 hg4))
   have HE := Lib.hid (FMap.put (w := w) (f := x) H2.out H3.out hown4)
   have HB4 := Lib.hid (HB03.out.trans (below_of_grownS hg4 HB03.out.size (by omega)))
   rw [← ha]
   go_roundg (n - (j + 1))
   case rel => exact ⟨j + 1, by omega, rfl, by go_num, by rw [List.take_add_one, HX.out]; exact HE.out, HB4.out⟩
   case measure => omega
  ·obtain rfl : j = n := by omega
   have hm := HM.out
   rw [← HN.out, List.take_length] at hm
   have HMM := Lib.hid hm
   clear hm
   go_wp2_with fail
   go_ret
   exact ⟨_, rfl, by omega, HMM.out, hB⟩
theorem fldSize (d f : ByteArray) (s k : Int) (w : World) : (Instr.field 68 (.agg #[.string d, .int .i64 s, .int .i64 k, .string f]) 1).run Tryz.prog w = .ok (.int .i64 s) w := by kernel_rfl
theorem fldKind (d f : ByteArray) (s k : Int) (w : World) : (Instr.field 68 (.agg #[.string d, .int .i64 s, .int .i64 k, .string f]) 2).run Tryz.prog w = .ok (.int .i64 k) w := by kernel_rfl
theorem FMap.kind {w : World} {b : Nat} {L : List Fil} (h : FMap w b L) (hu : St.Up (·.dig) L) {d : ByteArray} (hd : d.size ≤ 9223372036854775807) :
  ∃ y : Fil, (Instr.lookup 112 (.map (some b)) (.string d) false).run Tryz.prog w = .ok (.agg #[.string y.dig, .int .i64 y.size, .int .i64 y.kind, .string y.frm]) w ∧ y = St.filD L d := by
 refine ⟨(St.lastOf L d).getD St.zeroF, h.look hd, ?_⟩
 rw [St.lastOf_up hu]; rfl
theorem checkFiles_is (s : Sto) (a : StA) (w : World) (hI : StIn w s a) (hn500 : s.files.length ≤ 500) :
  Calls Tryz.prog 42 #[.agg #[.int .i64 s.least, .int .i64 s.wait, .slice a.ta s.tiers.length a.tc, .slice a.fa s.files.length a.fc, .slice a.ca s.copies.length a.cc, .slice a.ha s.held.length a.hc, .slice a.ba s.bin.length a.bc]] w fun e w' => e = .returned (.int .i64 (St.filesE s.files)) ∧ Below w.heap.size w w' := by
 obtain ⟨W1, hW1, hP, hz1, hB1⟩ := box w #[.int .i64 s.least, .int .i64 s.wait, .slice a.ta s.tiers.length a.tc, .slice a.fa s.files.length a.fc, .slice a.ca s.copies.length a.cc, .slice a.ha s.held.length a.hc, .slice a.ba s.bin.length a.bc] 28
 have HW1 := Lib.hid hW1
 have HI1 := Lib.hid (hI.keep hB1)
 have q0 : W1.cell? ⟨w.heap.size, 0, none⟩ = some (.int .i64 s.least) := (hP.cell 0).trans rfl
 have q1 : W1.cell? ⟨w.heap.size, 1, none⟩ = some (.int .i64 s.wait) := (hP.cell 1).trans rfl
 have q2 : W1.cell? ⟨w.heap.size, 2, none⟩ = some (.slice a.ta s.tiers.length a.tc) := (hP.cell 2).trans rfl
 have q3 : W1.cell? ⟨w.heap.size, 3, none⟩ = some (.slice a.fa s.files.length a.fc) := (hP.cell 3).trans rfl
 have q4 : W1.cell? ⟨w.heap.size, 4, none⟩ = some (.slice a.ca s.copies.length a.cc) := (hP.cell 4).trans rfl
 have q5 : W1.cell? ⟨w.heap.size, 5, none⟩ = some (.slice a.ha s.held.length a.hc) := (hP.cell 5).trans rfl
 have q6 : W1.cell? ⟨w.heap.size, 6, none⟩ = some (.slice a.ba s.bin.length a.bc) := (hP.cell 6).trans rfl
 have HP := Lib.hid hP; have HB1 := Lib.hid hB1
 clear hW1 hP
 have hfl := hI.fl
 have HFZ := Lib.hid hI.fz
 obtain ⟨qa, hq1⟩ : ∃ qa, St.scan St.fileE [] s.files = qa := ⟨_, rfl⟩
 obtain ⟨qb, hq2⟩ : ∃ qb, St.scan (St.fromE s.files) [] s.files = qb := ⟨_, rfl⟩
 have HF : Hid (St.filesE s.files = if qa = 0 then qb else qa) := Lib.hid (by unfold St.filesE; rw [hq1, hq2])
 have HUP : Hid (qa = 0 → St.Up (·.dig) s.files) := Lib.hid fun h => St.files_up (hq1.trans h)
 have HQ1 : Hid (St.scan St.fileE (s.files.take 0) (s.files.drop 0) = qa) := Lib.hid hq1
 have HQ2 : Hid (St.scan (St.fromE s.files) (s.files.take 0) (s.files.drop 0) = qb) := Lib.hid hq2
 have HBY := Lib.hid (fun W (hb : Below W1.heap.size W1 W) => byDigest_is s a W (HI1.out.keep hb) hn500)
 have HCL := Lib.hid (fun W (hb : Below W1.heap.size W1 W) => HP.out.keep hb)
 clear q0 q1 q2 q3 q4 q5 q6 hI hq1 hq2
 obtain ⟨n, hn⟩ : ∃ n, s.files.length = n := ⟨_, rfl⟩
 have HN := Lib.hid hn
 have q3 : W1.cell? ⟨w.heap.size, 3, none⟩ = some (.slice a.fa n a.fc) := by rw [← hn]; exact (HP.out.cell 3).trans rfl
 rw [hn] at hfl hn500 HW1 HBY HCL ⊢
 clear hn
 go_enter Tryz.func42, Tryz.ntmps42
 go_wp2_with fail
 rw [HW1.out]
 go_wp2_with fail
 go_loopg [3, 13] n (fun gk v i wr => ∃ j : Nat, j ≤ n ∧ gk = n - j ∧ i = .int .i64 j ∧ v = .string (St.bef (s.files.take j)) ∧ St.scan St.fileE (s.files.take j) (s.files.drop j) = qa ∧ Below w.heap.size w wr ∧ Below W1.heap.size W1 wr)
 case atStart => exact ⟨0, by omega, rfl, rfl, rfl, HQ1.out, HB1.out, Below.refl _ _⟩
 case round =>
  obtain ⟨j, hj, rfl, rfl, rfl, hs, hB, hBW⟩ := hrel
  have HS := Lib.hid hs; clear hs
  by_cases hlt : j < n
  ·obtain ⟨x, hx⟩ : ∃ x, s.files[j]? = some x := ⟨_, List.getElem?_eq_getElem (by rw [HN.out]; exact hlt)⟩
   obtain ⟨b, off, ha, hb, hcell⟩ := ((HI1.out.keep hBW).fi) (by rw [HN.out]; omega)
   have c0 : wr.cell? ⟨b, off + j * 4, none⟩ = some (.string x.dig) := hcell j x hx 0 (.string x.dig) rfl
   have c1 : wr.cell? ⟨b, off + j * 4 + 1, none⟩ = some (.int .i64 x.size) := hcell j x hx 1 (.int .i64 x.size) rfl
   have c2 : wr.cell? ⟨b, off + j * 4 + 2, none⟩ = some (.int .i64 x.kind) := hcell j x hx 2 (.int .i64 x.kind) rfl
   have c3 : wr.cell? ⟨b, off + j * 4 + 3, none⟩ = some (.string x.frm) := hcell j x hx 3 (.string x.frm) rfl
   clear hcell
   have HX := Lib.hid hx
   obtain ⟨W3, hW3, hX3, hz3, hB3⟩ := box wr #[.string x.dig, .int .i64 x.size, .int .i64 x.kind, .string x.frm] 68
   have HW3 := Lib.hid hW3
   have HAL := Lib.hid (below_up hB hB3)
   have HAW := Lib.hid (below_up hBW hB3)
   have HD : Hid (∀ W, Below W3.heap.size W3 W → W.cell? ⟨wr.heap.size, 0, none⟩ = some (.string x.dig) ∧ W.cell? ⟨wr.heap.size, 1, none⟩ = some (.int .i64 x.size) ∧ W.cell? ⟨wr.heap.size, 2, none⟩ = some (.int .i64 x.kind) ∧ W.cell? ⟨wr.heap.size, 3, none⟩ = some (.string x.frm)) := Lib.hid fun W hb =>
    have k := hX3.keep hb
    ⟨(k.cell 0).trans rfl, (k.cell 1).trans rfl, (k.cell 2).trans rfl, (k.cell 3).trans rfl⟩
   obtain ⟨d0, d1, d2, d3⟩ := HD.out _ (Below.refl _ _)
   have hCF := checkFile_is x (St.bef (s.files.take j)) (HFZ.out x (List.mem_of_getElem? hx)).1 W3
   rw [← St.fileE_bef] at hCF
   have HCF := Lib.hid hCF
   have HBF : Hid (St.bef (s.files.take (j + 1)) = x.dig) := Lib.hid (St.bef_succ hx)
   have hj0 : (0 : Int) ≤ (j : Int) := by omega
   have hj1 : (j : Int) < (n : Int) := by omega
   obtain ⟨ee, hee⟩ : ∃ ee, St.fileE (s.files.take j) x = ee := ⟨_, rfl⟩
   have HEE := Lib.hid hee
   rw [hee] at HCF
   clear hx hB hBW hX3 hz3 hB3 hW3 hCF hee
   rw [ha]
   by_cases he : ee = 0
   ·have HE := Lib.hid (St.scan_next HS.out HX.out (HEE.out.trans he))
    subst he
    go_upto_region 5 with fail
    rw [HW3.out]
    go_wp2_with (go_at_call 82; refine HCF.out.mono ?_; rintro e w4 ⟨rfl, hB4⟩; obtain ⟨d0, d1, d2, d3⟩ := HD.out _ hB4)
    rw [← ha]
    go_roundg (n - (j + 1))
    case rel => exact ⟨j + 1, by omega, rfl, by go_num, by rw [HBF.out], HE.out, below_up HAL.out hB4, below_up HAW.out hB4⟩
    case measure => omega
   ·have HE := Lib.hid (St.scan_here HS.out HX.out (by rw [HEE.out]; exact he))
    have he1 : (ee != 0) = true := by simpa using he
    have HNZ := Lib.hid he
    clear he
    go_upto_region 5 with fail
    rw [HW3.out]
    go_wp2_with (go_at_call 82; refine HCF.out.mono ?_; rintro e w4 ⟨rfl, hB4⟩)
    go_ret
    exact ⟨ret_int (by rw [HF.out, HE.out, HEE.out, if_neg HNZ.out]), below_up HAL.out hB4⟩
  ·obtain rfl : j = n := by omega
   have HE := HS.out
   rw [← HN.out] at HE
   have hq0 := St.scan_done HE
   have HU := Lib.hid (HUP.out hq0)
   have HF2 : Hid (St.filesE s.files = qb) := Lib.hid (by rw [HF.out, if_pos hq0])
   clear HE hq0
   have hKW := HCL.out _ hBW
   have m0 : wr.cell? ⟨w.heap.size, 0, none⟩ = some (.int .i64 s.least) := (hKW.cell 0).trans rfl
   have m1 : wr.cell? ⟨w.heap.size, 1, none⟩ = some (.int .i64 s.wait) := (hKW.cell 1).trans rfl
   have m2 : wr.cell? ⟨w.heap.size, 2, none⟩ = some (.slice a.ta s.tiers.length a.tc) := (hKW.cell 2).trans rfl
   have m3 : wr.cell? ⟨w.heap.size, 3, none⟩ = some (.slice a.fa j a.fc) := (hKW.cell 3).trans rfl
   have m4 : wr.cell? ⟨w.heap.size, 4, none⟩ = some (.slice a.ca s.copies.length a.cc) := (hKW.cell 4).trans rfl
   have m5 : wr.cell? ⟨w.heap.size, 5, none⟩ = some (.slice a.ha s.held.length a.hc) := (hKW.cell 5).trans rfl
   have m6 : wr.cell? ⟨w.heap.size, 6, none⟩ = some (.slice a.ba s.bin.length a.bc) := (hKW.cell 6).trans rfl
   have HB0 := Lib.hid (HBY.out _ hBW)
   have HBR := Lib.hid hB; have HBWR := Lib.hid hBW
   clear hKW hB hBW
   go_wp2_with (go_at_call 83; refine HB0.out.mono ?_; rintro e w5 ⟨mb, rfl, hmb, hM, hB5⟩; have HM5 := Lib.hid hM; have HB5 := Lib.hid (below_up HBR.out hB5); have HBW5 := Lib.hid (below_up HBWR.out hB5); have n3 : w5.cell? ⟨w.heap.size, 3, none⟩ = some (.slice a.fa j a.fc) := ((HCL.out _ HBW5.out).cell 3).trans rfl)
   clear m0 m1 m2 m3 m4 m5 m6 n3 hmb hM hB5
   go_loopg [31] j (fun gk i wq => ∃ k : Nat, k ≤ j ∧ gk = j - k ∧ i = .int .i64 k ∧ St.scan (St.fromE s.files) (s.files.take k) (s.files.drop k) = qb ∧ Below w5.heap.size w5 wq)
   case atStart => exact ⟨0, by omega, rfl, rfl, HQ2.out, Below.refl _ _⟩
   case round =>
    obtain ⟨k, hk, rfl, rfl, hs, hB⟩ := hrel
    have HS2 := Lib.hid hs; clear hs
    have HBQ := Lib.hid (below_up HB5.out hB)
    have hBWq := below_up HBW5.out hB
    by_cases hlt2 : k < j
    ·obtain ⟨x, hx⟩ : ∃ x, s.files[k]? = some x := ⟨_, List.getElem?_eq_getElem (by rw [HN.out]; exact hlt2)⟩
     obtain ⟨b, off, ha, hb, hcell⟩ := ((HI1.out.keep hBWq).fi) (by rw [HN.out]; omega)
     have c0 : wr.cell? ⟨b, off + k * 4, none⟩ = some (.string x.dig) := hcell k x hx 0 (.string x.dig) rfl
     have c1 : wr.cell? ⟨b, off + k * 4 + 1, none⟩ = some (.int .i64 x.size) := hcell k x hx 1 (.int .i64 x.size) rfl
     have c2 : wr.cell? ⟨b, off + k * 4 + 2, none⟩ = some (.int .i64 x.kind) := hcell k x hx 2 (.int .i64 x.kind) rfl
     have c3 : wr.cell? ⟨b, off + k * 4 + 3, none⟩ = some (.string x.frm) := hcell k x hx 3 (.string x.frm) rfl
     clear hcell
     have HX := Lib.hid hx
     obtain ⟨W3, hW3, hX3, hz3, hB3⟩ := box wr #[.string x.dig, .int .i64 x.size, .int .i64 x.kind, .string x.frm] 68
     have HW3 := Lib.hid hW3
     have d0 : W3.cell? ⟨wr.heap.size, 0, none⟩ = some (.string x.dig) := (hX3.cell 0).trans rfl
     have d1 : W3.cell? ⟨wr.heap.size, 1, none⟩ = some (.int .i64 x.size) := (hX3.cell 1).trans rfl
     have d2 : W3.cell? ⟨wr.heap.size, 2, none⟩ = some (.int .i64 x.kind) := (hX3.cell 2).trans rfl
     have d3 : W3.cell? ⟨wr.heap.size, 3, none⟩ = some (.string x.frm) := (hX3.cell 3).trans rfl
     obtain ⟨y, hlk, hy⟩ := FMap.kind ((HM5.out.keep hB).keep hB3) HU.out (HFZ.out x (List.mem_of_getElem? hx)).2
     have HAL := Lib.hid (below_up HBQ.out hB3)
     have HAQ := Lib.hid (below_up hB hB3)
     have HDF : Hid (St.fromE s.files (s.files.take k) x = if x.kind ≠ 1 ∧ y.kind ≠ 1 then 7 else 0) := Lib.hid (by
      rw [hy, St.filD_kind]; rfl)
     have hj0 : (0 : Int) ≤ (k : Int) := by omega
     have hj1 : (k : Int) < (j : Int) := by omega
     have hfk := fldKind y.dig y.frm y.size y.kind
     clear hx hB hX3 hz3 hB3 hW3 hy hBWq
     rw [ha]
     by_cases hk1 : x.kind = 1
     ·have hkb : (x.kind != 1) = false := by simpa using hk1
      have HBD : Hid (St.fromE s.files (s.files.take k) x = 0) := Lib.hid (by rw [HDF.out, if_neg (fun g => g.1 hk1)])
      have HE := Lib.hid (St.scan_next HS2.out HX.out HBD.out)
      clear hk1
      go_upto_region 14 with fail
      rw [HW3.out]
      go_wp2_with fail
      rw [← ha]
      go_roundg (j - (k + 1))
      case rel => exact ⟨k + 1, by omega, rfl, by go_num, HE.out, HAQ.out⟩
      case measure => omega
     ·have hkb : (x.kind != 1) = true := by simpa using hk1
      by_cases hk2 : y.kind = 1
      ·have hkc : (y.kind != 1) = false := by simpa using hk2
       have HBD : Hid (St.fromE s.files (s.files.take k) x = 0) := Lib.hid (by rw [HDF.out, if_neg (fun g => g.2 hk2)])
       have HE := Lib.hid (St.scan_next HS2.out HX.out HBD.out)
       clear hk2
       go_upto_region 14 with fail
       rw [HW3.out]
       go_wp2_with fail
       rw [← ha]
       go_roundg (j - (k + 1))
       case rel => exact ⟨k + 1, by omega, rfl, by go_num, HE.out, HAQ.out⟩
       case measure => omega
      ·have hkc : (y.kind != 1) = true := by simpa using hk2
       have HBD : Hid (St.fromE s.files (s.files.take k) x = 7) := Lib.hid (by rw [HDF.out, if_pos ⟨hk1, hk2⟩])
       have HE := Lib.hid (St.scan_here HS2.out HX.out (by rw [HBD.out]; decide))
       go_upto_region 14 with fail
       rw [HW3.out]
       go_wp2_with fail
       go_ret
       exact ⟨ret_int (by rw [HF2.out, HE.out, HBD.out]), HAL.out⟩
    ·obtain rfl : k = j := by omega
     have HE := HS2.out
     rw [← HN.out] at HE
     have HE2 := Lib.hid (St.scan_done HE)
     clear HE
     go_wp2_with fail
     go_ret
     exact ⟨ret_int (by rw [HF2.out, HE2.out]), HBQ.out⟩
theorem copyKey_is (d t : ByteArray) (hd : d.size ≤ 100) (ht : t.size ≤ 100) (w : World) : Calls Tryz.prog 84 #[.string d, .string t] w fun e w' => e = .returned (.string (St.key d t)) ∧ w = w' := by
 go_enter Tryz.func84, Tryz.ntmps84
 go_wp2_with fail
 go_ret
 exact ⟨rfl, rfl⟩
theorem free_is (s : Sto) (a : StA) (x : Tir) (mb : Nat) (w : World) (hI : StIn w s a) (hM : FMap w mb s.files) (hu : St.Up (·.dig) s.files) (hz : St.Szs s.files) (hc : s.copies.length ≤ 4000) (hr : 0 ≤ x.room ∧ x.room ≤ 1000000000000) :
  Calls Tryz.prog 86 #[.agg #[.int .i64 s.least, .int .i64 s.wait, .slice a.ta s.tiers.length a.tc, .slice a.fa s.files.length a.fc, .slice a.ca s.copies.length a.cc, .slice a.ha s.held.length a.hc, .slice a.ba s.bin.length a.bc], .agg #[.string x.name, .int .i64 x.room, .int .i64 x.cost, .bool x.away], .map (some mb)] w fun e w' => e = .returned (.int .i64 (x.room - St.used s.files x.name s.copies)) ∧ Below w.heap.size w w' := by
 obtain ⟨W1, hW1, hP, hz1, hB1⟩ := box w #[.int .i64 s.least, .int .i64 s.wait, .slice a.ta s.tiers.length a.tc, .slice a.fa s.files.length a.fc, .slice a.ca s.copies.length a.cc, .slice a.ha s.held.length a.hc, .slice a.ba s.bin.length a.bc] 28
 have HW1 := Lib.hid hW1
 have HI1 := Lib.hid (hI.keep hB1)
 have q0 : W1.cell? ⟨w.heap.size, 0, none⟩ = some (.int .i64 s.least) := (hP.cell 0).trans rfl
 have q1 : W1.cell? ⟨w.heap.size, 1, none⟩ = some (.int .i64 s.wait) := (hP.cell 1).trans rfl
 have q2 : W1.cell? ⟨w.heap.size, 2, none⟩ = some (.slice a.ta s.tiers.length a.tc) := (hP.cell 2).trans rfl
 have q3 : W1.cell? ⟨w.heap.size, 3, none⟩ = some (.slice a.fa s.files.length a.fc) := (hP.cell 3).trans rfl
 have q4 : W1.cell? ⟨w.heap.size, 4, none⟩ = some (.slice a.ca s.copies.length a.cc) := (hP.cell 4).trans rfl
 have q5 : W1.cell? ⟨w.heap.size, 5, none⟩ = some (.slice a.ha s.held.length a.hc) := (hP.cell 5).trans rfl
 have q6 : W1.cell? ⟨w.heap.size, 6, none⟩ = some (.slice a.ba s.bin.length a.bc) := (hP.cell 6).trans rfl
 have HP := Lib.hid hP; have HB1 := Lib.hid hB1
 clear hW1 hP
 obtain ⟨W2, hW2, hX2, hz2, hB2⟩ := box W1 #[.string x.name, .int .i64 x.room, .int .i64 x.cost, .bool x.away] 65
 have HW2 := Lib.hid hW2
 have HX2 := Lib.hid hX2
 have HBB := Lib.hid (below_up HB1.out hB2)
 have HI2 := Lib.hid (HI1.out.keep hB2)
 have HM2 := Lib.hid ((hM.keep HB1.out).keep hB2)
 rw [hz1] at hX2
 have p4 : W2.cell? ⟨w.heap.size, 4, none⟩ = some (.slice a.ca s.copies.length a.cc) := ((HP.out.keep hB2).cell 4).trans rfl
 have e0 : W2.cell? ⟨w.heap.size + 1, 0, none⟩ = some (.string x.name) := (hX2.cell 0).trans rfl
 have e1 : W2.cell? ⟨w.heap.size + 1, 1, none⟩ = some (.int .i64 x.room) := (hX2.cell 1).trans rfl
 have HE0 : Hid (∀ W, Below W2.heap.size W2 W → W.cell? ⟨w.heap.size + 1, 0, none⟩ = some (.string x.name)) := Lib.hid fun W hb => ((hX2.keep hb).cell 0).trans rfl
 have HCZ := Lib.hid hI.cz
 have hcl := hI.cl
 have HU := Lib.hid hu; have HZ := Lib.hid hz
 obtain ⟨tot, htot⟩ : ∃ tot, x.room - St.used s.files x.name s.copies = tot := ⟨_, rfl⟩
 rw [htot]
 have hub := St.used_bd hz x.name s.copies
 have htb : -5000000000000 ≤ tot ∧ tot ≤ 1000000000000 := by omega
 have HT0 : Hid (x.room = tot + St.used s.files x.name (s.copies.drop 0)) := Lib.hid (by rw [List.drop_zero]; omega)
 clear q0 q1 q2 q3 q4 q5 q6 hI hM hu hz hW2 hX2 hB2 hz1 hz2 htot hub
 obtain ⟨n, hn⟩ : ∃ n, s.copies.length = n := ⟨_, rfl⟩
 have HN := Lib.hid hn
 rw [hn] at p4 hcl hc HW1 ⊢
 clear hn
 go_enter Tryz.func86, Tryz.ntmps86
 go_wp2_with fail
 rw [HW1.out, HW2.out]
 go_wp2_with fail
 go_loopg [7, 15] n (fun gk v i wr => ∃ (j : Nat) (z : Int), j ≤ n ∧ gk = n - j ∧ i = .int .i64 j ∧ v = .int .i64 z ∧ z = tot + St.used s.files x.name (s.copies.drop j) ∧ Below w.heap.size w wr ∧ Below W2.heap.size W2 wr)
 case atStart => exact ⟨0, x.room, by omega, rfl, rfl, rfl, HT0.out, HBB.out, Below.refl _ _⟩
 case round =>
  obtain ⟨j, z, hj, rfl, rfl, rfl, hz, hB, hBW⟩ := hrel
  have HZZ := Lib.hid hz
  by_cases hlt : j < n
  ·obtain ⟨y, hy⟩ : ∃ y, s.copies[j]? = some y := ⟨_, List.getElem?_eq_getElem (by rw [HN.out]; exact hlt)⟩
   obtain ⟨b, off, ha, hb, hcell⟩ := (HI2.out.keep hBW).co (by rw [HN.out]; omega)
   have c0 : wr.cell? ⟨b, off + j * 4, none⟩ = some (.string y.dig) := hcell j y hy 0 (.string y.dig) rfl
   have c1 : wr.cell? ⟨b, off + j * 4 + 1, none⟩ = some (.string y.tier) := hcell j y hy 1 (.string y.tier) rfl
   have c2 : wr.cell? ⟨b, off + j * 4 + 2, none⟩ = some (.bool y.good) := hcell j y hy 2 (.bool y.good) rfl
   have c3 : wr.cell? ⟨b, off + j * 4 + 3, none⟩ = some (.int .i64 y.asked) := hcell j y hy 3 (.int .i64 y.asked) rfl
   clear hcell
   obtain ⟨W3, hW3, hX3, hz3, hB3⟩ := box wr #[.string y.dig, .string y.tier, .bool y.good, .int .i64 y.asked] 70
   have HW3 := Lib.hid hW3
   have d0 : W3.cell? ⟨wr.heap.size, 0, none⟩ = some (.string y.dig) := (hX3.cell 0).trans rfl
   have d1 : W3.cell? ⟨wr.heap.size, 1, none⟩ = some (.string y.tier) := (hX3.cell 1).trans rfl
   have e0' := HE0.out _ (below_up hBW hB3)
   obtain ⟨f, hlk, hf⟩ := FMap.kind ((HM2.out.keep hBW).keep hB3) HU.out (HCZ.out y (List.mem_of_getElem? hy)).1
   have hfs := fldSize f.dig f.frm f.size f.kind
   have hfz : 0 ≤ f.size ∧ f.size ≤ 1000000000 := by rw [hf, St.filD_size]; exact St.size_bd HZ.out y.dig
   have hstep := St.used_drop (F := s.files) (n := x.name) hy
   have hub := St.used_bd HZ.out x.name (s.copies.drop (j + 1))
   have hl1 : (s.copies.drop (j + 1)).length ≤ 4000 := by rw [List.length_drop]; have := HN.out; omega
   have hsz : St.sizeOf s.files y.dig = f.size := by rw [hf, St.filD_size]
   rw [hsz] at hstep
   have HAL := Lib.hid (below_up hB hB3)
   have HAW := Lib.hid (below_up hBW hB3)
   have hj0 : (0 : Int) ≤ (j : Int) := by omega
   have hj1 : (j : Int) < (n : Int) := by omega
   obtain ⟨ud, hud⟩ : ∃ ud, St.used s.files x.name (s.copies.drop (j + 1)) = ud := ⟨_, rfl⟩
   have HUD := Lib.hid hud
   rw [hud] at hstep hub
   clear hud
   obtain ⟨bq, hbq⟩ : ∃ bq, (y.tier.toList == x.name.toList) = bq := ⟨_, rfl⟩
   have hbq' : St.eq y.tier x.name = bq := hbq
   rw [hbq'] at hstep
   rw [hstep] at hz
   have hbnd : 0 ≤ ud ∧ ud ≤ 4000000000000 := by omega
   clear hy hB hBW hX3 hz3 hB3 hW3 hf hsz hstep hub hl1 hbq'
   rw [ha]
   cases bq
   ·rw [if_neg (by decide)] at hz
    have HZN : Hid (z = tot + ud) := Lib.hid (by omega)
    have hzb : -5000000000000 ≤ z ∧ z ≤ 5000000000000 := by omega
    clear hz
    go_upto_region 5 with fail
    rw [HW3.out]
    go_wp2_with fail
    rw [← ha]
    go_roundg (n - (j + 1))
    case rel => exact ⟨j + 1, z, by omega, rfl, by go_num, rfl, by rw [HUD.out]; exact HZN.out, HAL.out, HAW.out⟩
    case measure => omega
   ·rw [if_pos rfl] at hz
    have HZN : Hid (z - f.size = tot + ud) := Lib.hid (by omega)
    have hzb : -5000000000000 ≤ z ∧ z ≤ 5001000000000 := by omega
    clear hz
    go_upto_region 5 with fail
    rw [HW3.out]
    go_wp2_with fail
    rw [← ha]
    go_roundg (n - (j + 1))
    case rel => exact ⟨j + 1, z - f.size, by omega, rfl, by go_num, rfl, by rw [HUD.out]; exact HZN.out, HAL.out, HAW.out⟩
    case measure => omega
  ·obtain rfl : j = n := by omega
   have hz2 : z = tot := by
    rw [hz, List.drop_eq_nil_of_le (by rw [HN.out]; exact Nat.le_refl _)]; simp [St.used]
   have HZ2 := Lib.hid hz2
   clear hz hz2
   go_wp2_with fail
   go_ret
   exact ⟨ret_int HZ2.out, hB⟩
end Go.Proofs.YtbbgebpgpadclaaGreatDoor
namespace Go.Proofs.YtbbgebpgpadclaaGreatDoor
open Go.RowKit
namespace St
def best (b : Tir) (L : List Tir) : Tir := L.foldl (fun b t => if t.cost < b.cost then t else b) b
end St
namespace St
end St
end Go.Proofs.YtbbgebpgpadclaaGreatDoor
