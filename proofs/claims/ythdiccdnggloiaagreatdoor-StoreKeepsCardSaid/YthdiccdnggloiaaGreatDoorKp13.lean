/- Parts of the proof, no condition: StHfR, StWthC, StRefG, StWcR, StRef4, HexMath, StHx, StDgM. -/
import Derived.Test.YthdiccdnggloiaaGreatDoorKp12
import Derived.Deep.RegionHeld3
import Derived.Test.YthdiccdnggloiaaGreatDoorKp3
import Derived.Test.YthdiccdnggloiaaGreatDoorKp6
import Derived.Test.YthdiccdnggloiaaGreatDoorKp9
import Derived.Test.YthdiccdnggloiaaGreatDoorKp5
import Derived.Test.YthdiccdnggloiaaGreatDoorKp2
import Derived.Lib.QuietBelow
import Derived.Test.YthdiccdnggloiaaGreatDoorKp1
import Derived.Lib.LaidTab
import Derived.LaidMore
import Derived.Stop.LaidErr
import Derived.Laws.Bits64b
import Derived.Lib.TrailingZeros
import Derived.Lib.SmallJoins
set_option maxRecDepth 100000
set_option maxHeartbeats 16000000
set_option linter.unusedSimpArgs false
set_option linter.unusedVariables false
namespace Go.Proofs.YthdiccdnggloiaaGreatDoor
open Go.RowKit Go.Sort Go.Shelf Go.Maps

theorem hofGEq_is (x : Gon) (z : ByteArray) (bk : Nat) (t : TypeId) (w : World) (hs : Blk w bk #[.string z] t) :
  Calls Tryz.prog 86 #[.agg #[.string x.dig, .int .i64 x.day], .pointer (some ⟨bk, 0, none⟩)] w fun e w' => e = .returned (.bool (x.dig.toList == z.toList)) ∧ Below w.heap.size w w' := by
 obtain ⟨W1, hW1, hA, hz1, hB1⟩ := box w #[.string x.dig, .int .i64 x.day] 112
 have HW1 := Lib.hid hW1
 have a0 : W1.cell? ⟨w.heap.size, 0, none⟩ = some (.string x.dig) := (hA.cell 0).trans rfl
 have b0 := (hs.keep hB1).one
 clear hW1 hz1
 go_enter Tryz.func86, Tryz.ntmps86
 go_upto_region 1 with fail
 rw [HW1.out]
 go_wp2_with fail
 go_ret
 exact ⟨rfl, hB1⟩
theorem hofG_enters : ∀ args w, (callFunc 86 args).run Tryz.prog w = .ok (.enter 86 args) w := enters_of Tryz.func86 (by kernel_rfl) rfl
theorem hofGIdx_is (L : List Gon) (sa : Option Addr) (sc : Nat) (z : ByteArray) (bk : Nat) (t : TypeId) (w : World) (hr : RowE St.eG w sa L) (hl : L.length ≤ sc ∧ sc ≤ 9223372036854775807) (hs : Blk w bk #[.string z] t) :
  Calls Tryz.prog 156 #[.slice sa L.length sc, .func (.func 86) #[] #[.pointer (some ⟨bk, 0, none⟩)]] w fun e w' => e = .returned (.int .i64 (St.idx (fun t => St.eq t.dig z) L 0)) ∧ Below w.heap.size w w' := by
 have eg := hofG_enters
 have HR := Lib.hid hr; have HS := Lib.hid hs
 obtain ⟨q, hq⟩ : ∃ q, St.idx (fun t => St.eq t.dig z) L 0 = q := ⟨_, rfl⟩
 rw [hq]
 have HQ : Hid (St.idx (fun t => St.eq t.dig z) (L.drop 0) 0 = q) := Lib.hid hq
 obtain ⟨n, hn⟩ : ∃ n, L.length = n := ⟨_, rfl⟩
 have HN := Lib.hid hn
 rw [hn] at hl ⊢
 clear hr hs hq hn
 go_enter Tryz.func156, Tryz.ntmps156
 go_wp2_with fail
 go_loopg [8] n (fun gk i wr => ∃ j : Nat, j ≤ n ∧ gk = n - j ∧ i = .int .i64 j ∧ St.idx (fun t => St.eq t.dig z) (L.drop j) j = q ∧ Below w.heap.size w wr)
 case atStart => exact ⟨0, by omega, rfl, rfl, HQ.out, Below.refl _ _⟩
 case round =>
  obtain ⟨j, hj, rfl, rfl, hs, hB⟩ := hrel
  have HSC := Lib.hid hs; clear hs
  by_cases hlt : j < n
  ·obtain ⟨x, hx⟩ : ∃ x, L[j]? = some x := ⟨_, List.getElem?_eq_getElem (by rw [HN.out]; exact hlt)⟩
   (obtain ⟨b, off, ha, hb, hcell⟩ := (HR.out.keep hB) (by rw [HN.out]; omega)) <;> (have c0 : wr.cell? ⟨b, off + j * 2, none⟩ = some (.string x.dig) := hcell j x hx 0 (.string x.dig) rfl) <;> (have c1 : wr.cell? ⟨b, off + j * 2 + 1, none⟩ = some (.int .i64 x.day) := hcell j x hx 1 (.int .i64 x.day) rfl) <;> (clear hcell)
   have HX := Lib.hid hx
   have HC := Lib.hid (hofGEq_is x z bk t wr (HS.out.keep hB))
   have hj0 : (0 : Int) ≤ (j : Int) := by omega
   have hj1 : (j : Int) < (n : Int) := by omega
   obtain ⟨bq, hbq⟩ : ∃ bq, (x.dig.toList == z.toList) = bq := ⟨_, rfl⟩
   rw [hbq] at HC
   have HBQ := Lib.hid hbq
   rw [ha]
   cases bq
   ·have HE := Lib.hid (St.idx_next HSC.out HX.out HBQ.out)
    clear hx hbq
    go_wp2_with (go_at_fn 86; refine HC.out.mono ?_; rintro e w4 ⟨rfl, hB4⟩)
    rw [← ha]
    go_roundg (n - (j + 1))
    case rel => exact ⟨j + 1, by omega, rfl, by go_num, HE.out, below_up hB hB4⟩
    case measure => omega
   ·have HE := Lib.hid (St.idx_here HSC.out HX.out HBQ.out)
    clear hx hbq
    go_wp2_with (go_at_fn 86; refine HC.out.mono ?_; rintro e w4 ⟨rfl, hB4⟩)
    go_ret
    exact ⟨ret_int HE.out, below_up hB hB4⟩
  ·obtain rfl : j = n := by omega
   have HE := HSC.out
   rw [← HN.out] at HE
   have HE2 := Lib.hid (St.idx_end HE)
   clear HE
   go_wp2_with fail
   go_ret
   exact ⟨ret_int HE2.out, hB⟩
theorem hofG_is (L : List Gon) (sa : Option Addr) (sc : Nat) (z : ByteArray) (bk : Nat) (t : TypeId) (w : World) (hr : RowE St.eG w sa L) (hl : L.length ≤ sc ∧ sc ≤ 9223372036854775807) (hs : Blk w bk #[.string z] t) :
  Calls Tryz.prog 85 #[.slice sa L.length sc, .func (.func 86) #[] #[.pointer (some ⟨bk, 0, none⟩)]] w fun e w' => e = .returned (.bool (decide (0 ≤ St.idx (fun t => St.eq t.dig z) L 0))) ∧ Below w.heap.size w w' := by
 have HC := Lib.hid (hofGIdx_is L sa sc z bk t w hr hl hs)
 go_enter Tryz.func85, Tryz.ntmps85
 go_wp2_with (go_at_call 156; (with_reducible refine HC.out.mono ?_); rintro e w4 ⟨rfl, hB4⟩)
 go_ret
 exact ⟨ret_bool (by first | rfl | simp), hB4⟩
theorem heldOfR_none (s : Sto) (a : StA) (d : ByteArray) (w : World) (hI : StIn w s a) (hd : St.hasK St.gdig s.bin d = false) : Calls Tryz.prog 17 #[.agg #[.int .i64 s.least, .int .i64 s.wait, .slice a.ta s.tiers.length a.tc, .slice a.fa s.files.length a.fc, .slice a.ca s.copies.length a.cc, .slice a.ha s.held.length a.hc, .slice a.ba s.bin.length a.bc], .string d] w (StoErr w 7) := by
 obtain ⟨W0, hW0, hP, hz0, hB0⟩ := box w #[.int .i64 s.least, .int .i64 s.wait, .slice a.ta s.tiers.length a.tc, .slice a.fa s.files.length a.fc, .slice a.ca s.copies.length a.cc, .slice a.ha s.held.length a.hc, .slice a.ba s.bin.length a.bc] 28
 obtain ⟨W1, hW1, hD, hz1, hB1⟩ := box W0 #[.string d] 9
 obtain ⟨W2, hW2, hQ, hz2, hB2⟩ := box W1 #[.int .i64 0, .int .i64 0, .slice none 0 0, .slice none 0 0, .slice none 0 0, .slice none 0 0, .slice none 0 0] 28
 rw [hz0] at hD hz1
 rw [hz1] at hQ hz2
 have hP := (hP.keep hB1).keep hB2
 have hD := hD.keep hB2
 have hBB := below_up hB0 (below_up hB1 hB2)
 have HCF := Lib.hid (hofG_is s.bin a.ba a.bc d (w.heap.size + 1) _ W2 (hI.keep hBB).bi hI.bl hD)
 rw [St.idx_any, show s.bin.any (fun t => St.eq t.dig d) = false from hd] at HCF
 have HW0 := Lib.hid hW0; have HW1 := Lib.hid hW1; have HW2 := Lib.hid hW2; have HQ := Lib.hid hQ; have HBB := Lib.hid hBB; have HZ2 : Hid (W2.heap.size = w.heap.size + 3) := Lib.hid (by omega)
 obtain ⟨q0, q1, q2, q3, q4, q5, q6⟩ := hP.seven
 have d0 := hD.one
 clear hI hW0 hW1 hW2 hP hD hQ hz0 hz1 hz2 hB0 hB1 hB2 hBB hd
 go_enter Tryz.func17, Tryz.ntmps17
 go_upto_region 1 with fail
 rw [HW0.out, HW1.out, HW2.out]
 go_upto_region 2 with (go_at_call 85; (with_reducible refine HCF.out.mono ?_); rintro e w6 ⟨rfl, hq⟩)
 have hQ3 := HQ.out.keep hq
 have hB03 := below_up HBB.out hq
 have hs2 := HZ2.out
 clear q0 q1 q2 q3 q4 q5 q6 d0 hq
 go_wp2_with (refine wpList_store_row rfl 28 _ _ rfl (w.heap.size + 2) #[.int .i64 0, .int .i64 0, .slice none 0 0, .slice none 0 0, .slice none 0 0, .slice none 0 0, .slice none 0 0] rfl rfl 28 _ hQ3 infoSto rfl (by simp [Value.oneCell']) ?_)
 obtain ⟨g0, g1, g2, g3, g4, g5, g6⟩ := (Blk.setRowAt (hQ3) #[.int .i64 0, .int .i64 0, .slice none 0 0, .slice none 0 0, .slice none 0 0, .slice none 0 0, .slice none 0 0]).seven
 refine bodyPost_ret (v := .tuple #[.agg #[.int .i64 0, .int .i64 0, .slice none 0 0, .slice none 0 0, .slice none 0 0, .slice none 0 0, .slice none 0 0], .int .i64 7]) (by simp [results, Tryz.results17, go_sem, g0, g1, g2, g3, g4, g5, g6]) rfl ⟨rfl, below_setRow hB03 (by omega) _⟩
theorem blk_seven {w : World} {b q : Nat} {c : Array Value} {t : TypeId} (h : Blk w b c t) (hb : b ≠ q) (i0 i1 i2 i3 i4 i5 i6 : Nat) (u0 u1 u2 u3 u4 u5 u6 : Value) : Blk (((((((w.setCell ⟨q, i0, none⟩ u0).setCell ⟨q, i1, none⟩ u1).setCell ⟨q, i2, none⟩ u2).setCell ⟨q, i3, none⟩ u3).setCell ⟨q, i4, none⟩ u4).setCell ⟨q, i5, none⟩ u5).setCell ⟨q, i6, none⟩ u6) b c t :=
 ((((((h.setOther (a := ⟨q, i0, none⟩) hb u0).setOther (a := ⟨q, i1, none⟩) hb u1).setOther (a := ⟨q, i2, none⟩) hb u2).setOther (a := ⟨q, i3, none⟩) hb u3).setOther (a := ⟨q, i4, none⟩) hb u4).setOther (a := ⟨q, i5, none⟩) hb u5).setOther (a := ⟨q, i6, none⟩) hb u6
theorem heldOfR_ok (s : Sto) (a : StA) (d : ByteArray) (w : World) (hI : StIn w s a) (r : St.Right s) (hd : St.hasK St.gdig s.bin d = true) : Calls Tryz.prog 17 #[.agg #[.int .i64 s.least, .int .i64 s.wait, .slice a.ta s.tiers.length a.tc, .slice a.fa s.files.length a.fc, .slice a.ca s.copies.length a.cc, .slice a.ha s.held.length a.hc, .slice a.ba s.bin.length a.bc], .string d] w (StoOk w (St.hold s d)) := by
 obtain ⟨W0, hW0, hP, hz0, hB0⟩ := box w #[.int .i64 s.least, .int .i64 s.wait, .slice a.ta s.tiers.length a.tc, .slice a.fa s.files.length a.fc, .slice a.ca s.copies.length a.cc, .slice a.ha s.held.length a.hc, .slice a.ba s.bin.length a.bc] 28
 obtain ⟨W1, hW1, hD, hz1, hB1⟩ := box W0 #[.string d] 9
 obtain ⟨W2, hW2, hQ, hz2, hB2⟩ := box W1 #[.int .i64 0, .int .i64 0, .slice none 0 0, .slice none 0 0, .slice none 0 0, .slice none 0 0, .slice none 0 0] 28
 rw [hz0] at hD hz1
 rw [hz1] at hQ hz2
 have hP := (hP.keep hB1).keep hB2
 have hD := hD.keep hB2
 have hBB := below_up hB0 (below_up hB1 hB2)
 have HCF := Lib.hid (hofG_is s.bin a.ba a.bc d (w.heap.size + 1) _ W2 (hI.keep hBB).bi hI.bl hD)
 rw [St.idx_any, show s.bin.any (fun t => St.eq t.dig d) = true from hd] at HCF
 have HI2 := Lib.hid (hI.keep hBB)
 have HSZ := Lib.hid hI.sz
 obtain ⟨_, y1, y2, y3, y4, y5⟩ := St.sizes_iff.1 r.sizes
 have HCP := Lib.hid (fun V (hv : Below W2.heap.size W2 V) => twin_is s a V (HI2.out.keep hv) ⟨y1, y2, y3, y4, y5⟩)
 unfold CpyPost at HCP
 have HAG := Lib.hid (fun V b (hO : StOwn V W2.heap.size s b) (hz : W2.heap.size ≤ V.heap.size) => heldAgainR_is s b d W2.heap.size V hO hz r hd)
 unfold AgainPost at HAG
 have rr := St.right_hold r hd
 have HZT : Hid (StSz (St.hold s d)) := Lib.hid ⟨HSZ.out.tz, HSZ.out.fz, HSZ.out.cz, fun x hx => by have := St.dsz rr (rr.held x hx); omega, fun g hg => by have := St.dsz rr (rr.bin g hg).1; omega⟩
 generalize St.hold s d = t at *
 have HW0 := Lib.hid hW0; have HW1 := Lib.hid hW1; have HW2 := Lib.hid hW2; have HQ := Lib.hid hQ; have HBB := Lib.hid hBB; have HZ2 : Hid (W2.heap.size = w.heap.size + 3) := Lib.hid (by omega)
 have HP := Lib.hid hP; have HD := Lib.hid hD
 obtain ⟨q0, q1, q2, q3, q4, q5, q6⟩ := hP.seven
 have d0 := hD.one
 have HF7 : Hid (∀ V, Below W2.heap.size W2 V → ∀ u0 u1 u2 u3 u4 u5 u6, (fun W : World => W.cell? ⟨w.heap.size, 0, none⟩ = some (.int .i64 s.least) ∧ W.cell? ⟨w.heap.size, 1, none⟩ = some (.int .i64 s.wait) ∧ W.cell? ⟨w.heap.size, 2, none⟩ = some (.slice a.ta s.tiers.length a.tc) ∧ W.cell? ⟨w.heap.size, 3, none⟩ = some (.slice a.fa s.files.length a.fc) ∧ W.cell? ⟨w.heap.size, 4, none⟩ = some (.slice a.ca s.copies.length a.cc) ∧ W.cell? ⟨w.heap.size, 5, none⟩ = some (.slice a.ha s.held.length a.hc) ∧ W.cell? ⟨w.heap.size, 6, none⟩ = some (.slice a.ba s.bin.length a.bc) ∧ W.cell? ⟨w.heap.size + 1, 0, none⟩ = some (.string d)) (((((((V.setCell ⟨w.heap.size + 1 + 1, 0, none⟩ u0).setCell ⟨w.heap.size + 1 + 1, 1, none⟩ u1).setCell ⟨w.heap.size + 1 + 1, 2, none⟩ u2).setCell ⟨w.heap.size + 1 + 1, 3, none⟩ u3).setCell ⟨w.heap.size + 1 + 1, 4, none⟩ u4).setCell ⟨w.heap.size + 1 + 1, 5, none⟩ u5).setCell ⟨w.heap.size + 1 + 1, 6, none⟩ u6)) := Lib.hid fun V hv u0 u1 u2 u3 u4 u5 u6 => by
  have h := (blk_seven (q := w.heap.size + 1 + 1) (HP.out.keep hv) (by omega) 0 1 2 3 4 5 6 u0 u1 u2 u3 u4 u5 u6).seven
  have h2 := (blk_seven (q := w.heap.size + 1 + 1) (HD.out.keep hv) (by omega) 0 1 2 3 4 5 6 u0 u1 u2 u3 u4 u5 u6).one
  exact ⟨h.1, h.2.1, h.2.2.1, h.2.2.2.1, h.2.2.2.2.1, h.2.2.2.2.2.1, h.2.2.2.2.2.2, h2⟩
 clear hI hW0 hW1 hW2 hP hD hQ hz0 hz1 hz2 hB0 hB1 hB2 hBB hd r rr y1 y2 y3 y4 y5
 go_enter Tryz.func17, Tryz.ntmps17
 go_upto_region 1 with fail
 rw [HW0.out, HW1.out, HW2.out]
 go_upto_region 3 with (go_at_call 85; (with_reducible refine HCF.out.mono ?_); rintro e w6 ⟨rfl, hv⟩)
 have hv := hv.drew
 obtain ⟨q0, q1, q2, q3, q4, q5, q6⟩ := (HP.out.keep hv).seven
 have d0 := (HD.out.keep hv).one
 go_region_held3 (fun W => W.cell? ⟨w.heap.size, 0, none⟩ = some (.int .i64 s.least) ∧ W.cell? ⟨w.heap.size, 1, none⟩ = some (.int .i64 s.wait) ∧ W.cell? ⟨w.heap.size, 2, none⟩ = some (.slice a.ta s.tiers.length a.tc) ∧ W.cell? ⟨w.heap.size, 3, none⟩ = some (.slice a.fa s.files.length a.fc) ∧ W.cell? ⟨w.heap.size, 4, none⟩ = some (.slice a.ca s.copies.length a.cc) ∧ W.cell? ⟨w.heap.size, 5, none⟩ = some (.slice a.ha s.held.length a.hc) ∧ W.cell? ⟨w.heap.size, 6, none⟩ = some (.slice a.ba s.bin.length a.bc) ∧ W.cell? ⟨w.heap.size + 1, 0, none⟩ = some (.string d))
  (first | (with_reducible exact ⟨q0, q1, q2, q3, q4, q5, q6, d0⟩) | (with_reducible exact hk7 _ _ _ _ _ _ _) | go_keep)
  (first
   | (go_at_call 81; (with_reducible refine (HCP.out _ hv).mono ?_); rintro e w8 ⟨b, rfl, hOwn, hB8⟩; have hs8 := hv.size; have hO8 := hOwn.down hs8; have hv := below_up hv hB8; obtain ⟨q0, q1, q2, q3, q4, q5, q6⟩ := (HP.out.keep hv).seven; have d0 := (HD.out.keep hv).one)
   | (go_at_call 84; (with_reducible refine (HAG.out _ _ hO8 hv.size).mono ?_); rintro e w9 ⟨c, rfl, hO9, hB9⟩; have hv := hv.trans hB9; obtain ⟨q0, q1, q2, q3, q4, q5, q6⟩ := (HP.out.keep hv).seven; have d0 := (HD.out.keep hv).one; have hQ9 := HQ.out.keep hv; obtain ⟨r0, r1, r2, r3, r4, r5, r6⟩ := hQ9.seven; have rf := hQ9.free; have hk7 := HF7.out w9 hv)
   | fail)
 have hq2 : w.heap.size + 1 + 1 < W2.heap.size := by have := HZ2.out; omega
 have hq3 : w.heap.size ≤ w.heap.size + 1 + 1 := by omega
 have HIZ := Lib.hid ((((((((hO9.cellB (b := w.heap.size + 1 + 1) hq2 0 (.int .i64 t.least)).cellB (b := w.heap.size + 1 + 1) hq2 1 (.int .i64 t.wait)).cellB (b := w.heap.size + 1 + 1) hq2 2 (.slice c.ta t.tiers.length c.tc)).cellB (b := w.heap.size + 1 + 1) hq2 3 (.slice c.fa t.files.length c.fc)).cellB (b := w.heap.size + 1 + 1) hq2 4 (.slice c.ca t.copies.length c.cc)).cellB (b := w.heap.size + 1 + 1) hq2 5 (.slice c.ha t.held.length c.hc)).cellB (b := w.heap.size + 1 + 1) hq2 6 (.slice c.ba t.bin.length c.bc)).in_ HZT.out)
 have HBZ := Lib.hid ((((((((below_up HBB.out hv).setCell (p := ⟨w.heap.size + 1 + 1, 0, none⟩) hq3 (.int .i64 t.least)).setCell (p := ⟨w.heap.size + 1 + 1, 1, none⟩) hq3 (.int .i64 t.wait)).setCell (p := ⟨w.heap.size + 1 + 1, 2, none⟩) hq3 (.slice c.ta t.tiers.length c.tc)).setCell (p := ⟨w.heap.size + 1 + 1, 3, none⟩) hq3 (.slice c.fa t.files.length c.fc)).setCell (p := ⟨w.heap.size + 1 + 1, 4, none⟩) hq3 (.slice c.ca t.copies.length c.cc)).setCell (p := ⟨w.heap.size + 1 + 1, 5, none⟩) hq3 (.slice c.ha t.held.length c.hc)).setCell (p := ⟨w.heap.size + 1 + 1, 6, none⟩) hq3 (.slice c.ba t.bin.length c.bc))
 obtain ⟨g0, g1, g2, g3, g4, g5, g6⟩ : _ ∧ _ := (((((((hQ9.set 0 (.int .i64 t.least)).set 1 (.int .i64 t.wait)).set 2 (.slice c.ta t.tiers.length c.tc)).set 3 (.slice c.fa t.files.length c.fc)).set 4 (.slice c.ca t.copies.length c.cc)).set 5 (.slice c.ha t.held.length c.hc)).set 6 (.slice c.ba t.bin.length c.bc)).seven
 clear hO9 hv q0 q1 q2 q3 q4 q5 q6 d0 r0 r1 r2 r3 r4 r5 r6 rf hQ9 hk7
 go_wp2_with fail
 refine bodyPost_ret (v := .tuple #[.agg #[.int .i64 t.least, .int .i64 t.wait, .slice c.ta t.tiers.length c.tc, .slice c.fa t.files.length c.fc, .slice c.ca t.copies.length c.cc, .slice c.ha t.held.length c.hc, .slice c.ba t.bin.length c.bc], .int .i64 0]) (by simp [results, Tryz.results17, go_sem, g0, g1, g2, g3, g4, g5, g6]) rfl ?_
 exact ⟨_, rfl, HIZ.out, HBZ.out⟩
theorem flat_insC (L : List Cop) (x : Cop) (p : Nat) : (St.eC.flat L).take (p * 4) ++ [.string x.dig, .string x.tier, .bool x.good, .int .i64 x.asked] ++ (St.eC.flat L).drop (p * 4) = St.eC.flat (L.take p ++ x :: L.drop p) := by
 have h1 := Enc.flat_take St.eC L p
 have h2 := Enc.flat_drop St.eC L p
 have h3 : St.eC.k = 4 := rfl
 rw [h3] at h1 h2
 rw [h1, h2, Enc.flat_append, Enc.flat_cons, List.append_assoc]; rfl
theorem flat_putC (L : List Cop) (x : Cop) (p : Nat) (hp : p < L.length) : St.eC.flat (L.set p x) = (((((St.eC.flat L).set (p * 4) (.string x.dig)).set (p * 4 + 1) (.string x.tier)).set (p * 4 + 2) (.bool x.good)).set (p * 4 + 3) (.int .i64 x.asked)) := by
 have h0 : L[p]? = some (L[p]'hp) := List.getElem?_eq_getElem _
 generalize (L[p]'hp) = y at h0
 have e0 : St.eC.flat ((L).set p (⟨x.dig, y.tier, y.good, y.asked⟩ : Cop)) = (St.eC.flat (L)).set (p * 4 + 0) (.string x.dig) := Enc.flat_set1 St.eC (.string x.dig) 0 (by decide) y (⟨x.dig, y.tier, y.good, y.asked⟩ : Cop) rfl _ p h0
 have e1 : St.eC.flat (((L).set p (⟨x.dig, y.tier, y.good, y.asked⟩ : Cop)).set p (⟨x.dig, x.tier, y.good, y.asked⟩ : Cop)) = (St.eC.flat ((L).set p (⟨x.dig, y.tier, y.good, y.asked⟩ : Cop))).set (p * 4 + 1) (.string x.tier) := Enc.flat_set1 St.eC (.string x.tier) 1 (by decide) (⟨x.dig, y.tier, y.good, y.asked⟩ : Cop) (⟨x.dig, x.tier, y.good, y.asked⟩ : Cop) rfl _ p (by rw [List.getElem?_set_self (by simpa using hp)])
 have e2 : St.eC.flat ((((L).set p (⟨x.dig, y.tier, y.good, y.asked⟩ : Cop)).set p (⟨x.dig, x.tier, y.good, y.asked⟩ : Cop)).set p (⟨x.dig, x.tier, x.good, y.asked⟩ : Cop)) = (St.eC.flat (((L).set p (⟨x.dig, y.tier, y.good, y.asked⟩ : Cop)).set p (⟨x.dig, x.tier, y.good, y.asked⟩ : Cop))).set (p * 4 + 2) (.bool x.good) := Enc.flat_set1 St.eC (.bool x.good) 2 (by decide) (⟨x.dig, x.tier, y.good, y.asked⟩ : Cop) (⟨x.dig, x.tier, x.good, y.asked⟩ : Cop) rfl _ p (by rw [List.getElem?_set_self (by simpa using hp)])
 have e3 : St.eC.flat (((((L).set p (⟨x.dig, y.tier, y.good, y.asked⟩ : Cop)).set p (⟨x.dig, x.tier, y.good, y.asked⟩ : Cop)).set p (⟨x.dig, x.tier, x.good, y.asked⟩ : Cop)).set p x) = (St.eC.flat ((((L).set p (⟨x.dig, y.tier, y.good, y.asked⟩ : Cop)).set p (⟨x.dig, x.tier, y.good, y.asked⟩ : Cop)).set p (⟨x.dig, x.tier, x.good, y.asked⟩ : Cop))).set (p * 4 + 3) (.int .i64 x.asked) := Enc.flat_set1 St.eC (.int .i64 x.asked) 3 (by decide) (⟨x.dig, x.tier, x.good, y.asked⟩ : Cop) x rfl _ p (by rw [List.getElem?_set_self (by simpa using hp)])
 simp only [List.set_set] at e0 e1 e2 e3
 rw [e3, e2, e1, e0]; rfl
theorem withC_is (L : List Cop) (hu : St.Up St.ckey L) (hz : ∀ x ∈ L, x.dig.size ≤ 100 ∧ x.tier.size ≤ 100) (h1m : L.length ≤ 900000) (x : Cop) (hzx : x.dig.size ≤ 100 ∧ x.tier.size ≤ 100) (a : Option Addr) (ca : Nat) (w : World) (hl : L.length ≤ ca ∧ ca ≤ 9223372036854775807) (hr : RowE St.eC w a L) :
  Calls Tryz.prog 57 #[.agg #[.func (.func 144) #[] #[], .slice a L.length ca], .agg #[.string x.dig, .string x.tier, .bool x.good, .int .i64 x.asked]] w (ClnPost St.eC 74 w (St.wth St.ckey x L)) := by
 obtain ⟨W1, hW1, hP, hz1, hB1⟩ := box w #[.func (.func 144) #[] #[], .slice a L.length ca] 97
 obtain ⟨W2, hW2, hX, hz2, hB2⟩ := box W1 #[.string x.dig, .string x.tier, .bool x.good, .int .i64 x.asked] 74
 rw [hz1] at hX
 have hP := hP.keep hB2
 have HW1 := Lib.hid hW1; have HW2 := Lib.hid hW2; have HBB := Lib.hid (below_up hB1 hB2); have HZS : Hid (w.heap.size ≤ W2.heap.size) := Lib.hid HBB.out.size
 have HCL : Hid (∀ V, Below W2.heap.size W2 V → V.cell? ⟨w.heap.size, 0, none⟩ = some (.func (.func 144) #[] #[]) ∧ V.cell? ⟨w.heap.size, 1, none⟩ = some (.slice a L.length ca) ∧ V.cell? ⟨w.heap.size + 1, 0, none⟩ = some (.string x.dig) ∧ V.cell? ⟨w.heap.size + 1, 1, none⟩ = some (.string x.tier) ∧ V.cell? ⟨w.heap.size + 1, 2, none⟩ = some (.bool x.good) ∧ V.cell? ⟨w.heap.size + 1, 3, none⟩ = some (.int .i64 x.asked)) := Lib.hid fun V hv => ⟨((hP.keep hv).cell 0).trans rfl, ((hP.keep hv).cell 1).trans rfl, ((hX.keep hv).cell 0).trans rfl, ((hX.keep hv).cell 1).trans rfl, ((hX.keep hv).cell 2).trans rfl, ((hX.keep hv).cell 3).trans rfl⟩
 have HK := Lib.hid (fun V => keyKC_is x hzx V)
 have HPL := Lib.hid (fun V (hv : Below W2.heap.size W2 V) => placeC_is L hu hz (by omega) (St.ckey x) a ca V hl ((hr.keep HBB.out).keep hv))
 have HCN := Lib.hid (fun V (hv : Below W2.heap.size W2 V) => clnC_is (L := L) a ca V ((hr.keep HBB.out).keep hv) (by omega))
 unfold ClnPost at HCN
 have HW : Hid (St.wth St.ckey x L = if St.hasK St.ckey L (St.ckey x) = true then L.set (St.pos St.ckey (St.ckey x) L) x else L.take (St.pos St.ckey (St.ckey x) L) ++ x :: L.drop (St.pos St.ckey (St.ckey x) L)) := Lib.hid rfl
 have hpl := St.pos_le St.ckey (St.ckey x) L
 have HPT := Lib.hid (fun h : St.hasK St.ckey L (St.ckey x) = true => St.hasK_at hu h)
 obtain ⟨p, hp⟩ : ∃ p, St.pos St.ckey (St.ckey x) L = p := ⟨_, rfl⟩
 obtain ⟨hb, hhb⟩ : ∃ hb, St.hasK St.ckey L (St.ckey x) = hb := ⟨_, rfl⟩
 rw [hp, hhb] at HPL HW HPT
 rw [hp] at hpl
 obtain ⟨n, hn⟩ : ∃ n, L.length = n := ⟨_, rfl⟩
 have HN := Lib.hid hn
 rw [hn] at hl hpl h1m HCL HPL HCN HW1 ⊢
 have eg := entersKC
 have hmf : ∀ (fn : Fn) (first cap : Array Value) (w : World), (Instr.makeFunc fn first cap).run Tryz.prog w = .ok (.func fn first cap) w := fun _ _ _ _ => rfl
 clear hr hW1 hP hz1 hB1 hu hz hzx hW2 hX hz2 hB2 hp hhb hn
 go_enter Tryz.func57, Tryz.ntmps57
 go_upto_region 1 with fail
 rw [HW1.out, HW2.out]
 have hv : Below W2.heap.size W2 W2.drew := (Below.refl _ _).drew
 obtain ⟨r0, r1, x0, x1, x2, x3⟩ := HCL.out _ hv
 go_region_held3 (fun W => W.cell? ⟨w.heap.size, 0, none⟩ = some (.func (.func 144) #[] #[]) ∧ W.cell? ⟨w.heap.size, 1, none⟩ = some (.slice a n ca) ∧ W.cell? ⟨w.heap.size + 1, 0, none⟩ = some (.string x.dig) ∧ W.cell? ⟨w.heap.size + 1, 1, none⟩ = some (.string x.tier) ∧ W.cell? ⟨w.heap.size + 1, 2, none⟩ = some (.bool x.good) ∧ W.cell? ⟨w.heap.size + 1, 3, none⟩ = some (.int .i64 x.asked))
  (first | (with_reducible exact ⟨r0, r1, x0, x1, x2, x3⟩) | go_keep)
  (first
   | (go_at_fn 144; (with_reducible refine (HK.out _).mono ?_); rintro e wq ⟨rfl, hq⟩; have hv := below_up hv hq; obtain ⟨r0, r1, x0, x1, x2, x3⟩ := HCL.out _ hv)
   | (go_at_call 55; (with_reducible refine (HPL.out _ hv).mono ?_); rintro e wp ⟨rfl, hq⟩; have hv := below_up hv hq; obtain ⟨r0, r1, x0, x1, x2, x3⟩ := HCL.out _ hv)
   | fail)
 have hp0 : (0 : Int) ≤ (p : Int) := by omega
 cases hb
 ·have hW := HW.out
  rw [if_neg (by decide)] at hW
  have HWL : Hid (St.wth St.ckey x L = L.take p ++ x :: L.drop p) := Lib.hid hW
  have HWN : Hid ((L.take p ++ x :: L.drop p).length = n + 1) := Lib.hid (by rw [List.length_append, List.length_cons, List.length_take, List.length_drop, HN.out]; omega)
  clear hW
  go_upto_region 6 with fail
  have hvB := (below_allocs hv (.cells #[.string x.dig, .string x.tier, .bool x.good, .int .i64 x.asked] 74)).drew
  have HNB := Lib.hid (Blk.new wp #[.string x.dig, .string x.tier, .bool x.good, .int .i64 x.asked] 74).drew
  have hsB : (wp.alloc (.cells #[.string x.dig, .string x.tier, .bool x.good, .int .i64 x.asked] 74)).drew.heap.size = wp.heap.size + 1 := by simp
  have hv := hv.drew
  clear r0 r1 x0 x1 x2 x3
  obtain ⟨r0, r1, x0, x1, x2, x3⟩ := HCL.out _ hv
  have hvs := hv.size
  go_region_held3 (fun W => W.cell? ⟨w.heap.size, 0, none⟩ = some (.func (.func 144) #[] #[]) ∧ W.cell? ⟨w.heap.size, 1, none⟩ = some (.slice a n ca) ∧ W.cell? ⟨w.heap.size + 1, 0, none⟩ = some (.string x.dig) ∧ W.cell? ⟨w.heap.size + 1, 1, none⟩ = some (.string x.tier) ∧ W.cell? ⟨w.heap.size + 1, 2, none⟩ = some (.bool x.good) ∧ W.cell? ⟨w.heap.size + 1, 3, none⟩ = some (.int .i64 x.asked))
   (first | (with_reducible exact ⟨r0, r1, x0, x1, x2, x3⟩) | go_keep)
   (first
    | (go_at_call 139; (with_reducible refine (HCN.out _ hv).mono ?_); rintro e w4 ⟨g4, c4, rfl, ho4, hq⟩; have hs4 := hv.size; have HO4 : Hid (OwnV w4 w.heap.size 74 4 (.slice g4 n c4) n (St.eC.flat L)) := Lib.hid (ho4.down (Nat.le_trans HZS.out hs4)); have hv := below_up hv hq; obtain ⟨r0, r1, x0, x1, x2, x3⟩ := HCL.out _ hv; have HV4 := Lib.hid hv; have HINS := Lib.hid (fun V (hb : Below w4.heap.size w4 V) (bv : Nat) (hbv : V.heap[bv]? = some (.cells #[.string x.dig, .string x.tier, .bool x.good, .int .i64 x.asked] 74 (0, 0))) (hge : w4.heap.size ≤ bv) => cp_ins w.heap.size n p (.slice g4 n c4) (St.eC.flat L) [.string x.dig, .string x.tier, .bool x.good, .int .i64 x.asked] V (HO4.out.keep hb) (by have := HZS.out; have := HV4.out.size; have := hb.size; omega) hpl (by omega) (Enc.flat_one St.eC L) bv _ _ hbv (fun e => by have := (HO4.out.lt bv e).2; omega) rfl rfl (by simp [Value.oneCell'])); rw [flat_insC] at HINS; have HO2 : Hid (OwnV w4 W2.heap.size 74 4 (.slice g4 n c4) n (St.eC.flat L)) := Lib.hid (ho4.down hs4); clear ho4 hq)
    | (go_at_call 139; (with_reducible refine (HCN.out _ hvB).mono ?_); rintro e w4 ⟨g4, c4, rfl, ho4, hq⟩; have hs4 := hvB.size; have HO4 : Hid (OwnV w4 w.heap.size 74 4 (.slice g4 n c4) n (St.eC.flat L)) := Lib.hid (ho4.down (Nat.le_trans HZS.out hs4)); have HO2 : Hid (OwnV w4 W2.heap.size 74 4 (.slice g4 n c4) n (St.eC.flat L)) := Lib.hid (ho4.down hs4); have hv := below_up hvB hq; obtain ⟨r0, r1, x0, x1, x2, x3⟩ := HCL.out _ hv; have HV4 := Lib.hid hv; have HINB := Lib.hid (cp_ins w.heap.size n p (.slice g4 n c4) (St.eC.flat L) [.string x.dig, .string x.tier, .bool x.good, .int .i64 x.asked] w4 HO4.out (by have := HZS.out; have := HV4.out.size; omega) hpl (by omega) (Enc.flat_one St.eC L) wp.heap.size _ _ (HNB.out.keep hq) (fun e => by have := (ho4.lt wp.heap.size e).1; omega) rfl rfl (by simp [Value.oneCell'])); rw [flat_insC] at HINB; clear ho4 hq)
    | (go_at_call 148; (with_reducible refine (HINS.out _ (below_allocs (Below.refl _ _) _) _ (heap_alloc_new _ _) (Nat.le_refl _)).mono ?_); rintro e w8 ⟨g8, c8, rfl, hc8, hg8, hn8⟩; have HC8 := Lib.hid hc8; have l1 : n + 1 ≤ c8 := (by obtain ⟨_, _, _, h, _⟩ := HC8.out; exact h); have l2 : c8 ≤ 9223372036854775807 := (by obtain ⟨_, _, _, _, h, _⟩ := HC8.out; exact h); have HF := Lib.hid (below_ownI (below_allocs (below_up HBB.out HV4.out) (.cells #[.string x.dig, .string x.tier, .bool x.good, .int .i64 x.asked] 74)) (HO4.out.keep (below_allocs (Below.refl _ w4) (.cells #[.string x.dig, .string x.tier, .bool x.good, .int .i64 x.asked] 74))) hg8 (by have := HZS.out; have := HV4.out.size; simp; omega)); have hv := below_ownI (below_allocs HV4.out (.cells #[.string x.dig, .string x.tier, .bool x.good, .int .i64 x.asked] 74)) (HO2.out.keep (below_allocs (Below.refl _ w4) (.cells #[.string x.dig, .string x.tier, .bool x.good, .int .i64 x.asked] 74))) hg8 (by have := HV4.out.size; simp; omega); obtain ⟨r0, r1, x0, x1, x2, x3⟩ := HCL.out _ hv; clear hc8 hg8 hn8)
    | (go_at_call 148; (with_reducible refine HINB.out.mono ?_); rintro e w8 ⟨g8, c8, rfl, hc8, hg8, hn8⟩; have HC8 := Lib.hid hc8; have l1 : n + 1 ≤ c8 := (by obtain ⟨_, _, _, h, _⟩ := HC8.out; exact h); have l2 : c8 ≤ 9223372036854775807 := (by obtain ⟨_, _, _, _, h, _⟩ := HC8.out; exact h); have HF := Lib.hid (below_ownI (below_up HBB.out HV4.out) HO4.out hg8 (by have := HZS.out; have := HV4.out.size; omega)); have hv := below_ownI HV4.out HO2.out hg8 HV4.out.size; obtain ⟨r0, r1, x0, x1, x2, x3⟩ := HCL.out _ hv; clear hc8 hg8 hn8)
    | (go_at_call 138; (with_reducible refine (clnC_clip _ _ _ _ l1 l2).mono ?_); rintro e wc ⟨rfl, rfl⟩)
    | fail)
  all_goals (go_wp2_with fail; go_ret; refine ⟨some ⟨g8, 0, none⟩, n + 1, by rw [HWL.out, HWN.out]; rfl, ?_, HF.out⟩; rw [HWL.out, HWN.out]; exact .inr ⟨g8, n + 1, rfl, HC8.out.clip⟩)
 ·obtain ⟨y, hy, _⟩ := HPT.out rfl
  have hpn : p < n := by rw [← HN.out]; exact (List.getElem?_eq_some_iff.1 hy).1
  have hW := HW.out
  rw [if_pos rfl] at hW
  have HWL : Hid (St.wth St.ckey x L = L.set p x) := Lib.hid hW
  have HWN : Hid ((L.set p x).length = n) := Lib.hid (by rw [List.length_set, HN.out])
  have HPU := Lib.hid (flat_putC L x p (by rw [HN.out]; exact hpn))
  clear hW hy
  go_upto_region 4 with (go_at_call 139; (with_reducible refine (HCN.out _ hv).mono ?_); rintro e w4 ⟨g4, c4, rfl, ho4, hq⟩; have hs4 := hv.size; have ho : OwnV w4 w.heap.size 74 4 (.slice g4 n c4) n (St.eC.flat L) := ho4.down (Nat.le_trans HZS.out hs4); have HV4 := Lib.hid (below_up HBB.out (below_up hv hq)); have hv := below_up hv hq; obtain ⟨r0, r1, x0, x1, x2, x3⟩ := HCL.out _ hv; clear ho4 hq)
  rcases ho with ⟨_, h0, _⟩ | ⟨g, cap, h0, hc⟩
  ·omega
  ·cases h0
   have hcg := hc.lt
   obtain ⟨cur0, _, hcc0, _⟩ := id hc
   have hfz0 := frozen_of hcc0 (p * 4)
   have hce0 : ∃ v, (w4).cell? ⟨g, p * 4, none⟩ = some v := by
    have h := hc.cellAt (p * 4) (by omega)
    exact ⟨_, h.trans (List.getElem?_eq_getElem (by first | (rw [St.eC.flat_len, HN.out]; show _ < n * 4; omega) | (simp only [List.length_set]; rw [St.eC.flat_len, HN.out]; show _ < n * 4; omega)))⟩
   obtain ⟨v0, hv0⟩ := hce0
   have hc0 := hc.setCell (p := p * 4) (by omega) (.string x.dig)
   obtain ⟨cur1, _, hcc1, _⟩ := id hc0
   have hfz1 := frozen_of hcc1 (p * 4 + 1)
   have hce1 : ∃ v, ((w4).setCell ⟨g, p * 4, none⟩ (.string x.dig)).cell? ⟨g, p * 4 + 1, none⟩ = some v := by
    have h := hc0.cellAt (p * 4 + 1) (by omega)
    exact ⟨_, h.trans (List.getElem?_eq_getElem (by first | (rw [St.eC.flat_len, HN.out]; show _ < n * 4; omega) | (simp only [List.length_set]; rw [St.eC.flat_len, HN.out]; show _ < n * 4; omega)))⟩
   obtain ⟨v1, hv1⟩ := hce1
   have hc1 := hc0.setCell (p := p * 4 + 1) (by omega) (.string x.tier)
   obtain ⟨cur2, _, hcc2, _⟩ := id hc1
   have hfz2 := frozen_of hcc2 (p * 4 + 2)
   have hce2 : ∃ v, (((w4).setCell ⟨g, p * 4, none⟩ (.string x.dig)).setCell ⟨g, p * 4 + 1, none⟩ (.string x.tier)).cell? ⟨g, p * 4 + 2, none⟩ = some v := by
    have h := hc1.cellAt (p * 4 + 2) (by omega)
    exact ⟨_, h.trans (List.getElem?_eq_getElem (by first | (rw [St.eC.flat_len, HN.out]; show _ < n * 4; omega) | (simp only [List.length_set]; rw [St.eC.flat_len, HN.out]; show _ < n * 4; omega)))⟩
   obtain ⟨v2, hv2⟩ := hce2
   have hc2 := hc1.setCell (p := p * 4 + 2) (by omega) (.bool x.good)
   obtain ⟨cur3, _, hcc3, _⟩ := id hc2
   have hfz3 := frozen_of hcc3 (p * 4 + 3)
   have hce3 : ∃ v, ((((w4).setCell ⟨g, p * 4, none⟩ (.string x.dig)).setCell ⟨g, p * 4 + 1, none⟩ (.string x.tier)).setCell ⟨g, p * 4 + 2, none⟩ (.bool x.good)).cell? ⟨g, p * 4 + 3, none⟩ = some v := by
    have h := hc2.cellAt (p * 4 + 3) (by omega)
    exact ⟨_, h.trans (List.getElem?_eq_getElem (by first | (rw [St.eC.flat_len, HN.out]; show _ < n * 4; omega) | (simp only [List.length_set]; rw [St.eC.flat_len, HN.out]; show _ < n * 4; omega)))⟩
   obtain ⟨v3, hv3⟩ := hce3
   have hc3 := hc2.setCell (p := p * 4 + 3) (by omega) (.int .i64 x.asked)
   rw [← HPU.out] at hc3
   have HCZ := Lib.hid hc3
   obtain ⟨_, _, _, l1, l2, _⟩ := id hc3
   have l2' : c4 ≤ 9223372036854775807 := l2
   have HBZ := Lib.hid ((((((((HV4.out).setCell (p := ⟨g, p * 4, none⟩) (by simpa using hcg.1) (.string x.dig))).setCell (p := ⟨g, p * 4 + 1, none⟩) (by simpa using hcg.1) (.string x.tier))).setCell (p := ⟨g, p * 4 + 2, none⟩) (by simpa using hcg.1) (.bool x.good))).setCell (p := ⟨g, p * 4 + 3, none⟩) (by simpa using hcg.1) (.int .i64 x.asked))
   clear hc hc0 hc1 hc2 hc3
   go_wp2_with (go_at_call 138; (with_reducible refine (clnC_clip _ _ _ _ l1 l2').mono ?_); rintro e wc ⟨rfl, rfl⟩)
   go_ret
   refine ⟨some ⟨g, 0, none⟩, n, by rw [HWL.out, HWN.out]; rfl, ?_, HBZ.out⟩
   rw [HWL.out, HWN.out]
   exact .inr ⟨g, n, rfl, HCZ.out.clip⟩
theorem copyOf_is (s : Sto) (a : StA) (d t : ByteArray) (w : World) (hI : StIn w s a) :
  Calls Tryz.prog 80 #[.agg #[.int .i64 s.least, .int .i64 s.wait, .slice a.ta s.tiers.length a.tc, .slice a.fa s.files.length a.fc, .slice a.ca s.copies.length a.cc, .slice a.ha s.held.length a.hc, .slice a.ba s.bin.length a.bc], .string d, .string t] w fun e w' => e = .returned (.int .i64 (St.copyAt s d t)) ∧ Below w.heap.size w w' := by
 obtain ⟨W1, hW1, hP, hz1, hB1⟩ := box w #[.int .i64 s.least, .int .i64 s.wait, .slice a.ta s.tiers.length a.tc, .slice a.fa s.files.length a.fc, .slice a.ca s.copies.length a.cc, .slice a.ha s.held.length a.hc, .slice a.ba s.bin.length a.bc] 28
 have HW1 := Lib.hid hW1
 have HI1 := Lib.hid (hI.keep hB1)
 have q0 : W1.cell? ⟨w.heap.size, 0, none⟩ = some (.int .i64 s.least) := (hP.cell 0).trans rfl
 have q1 : W1.cell? ⟨w.heap.size, 1, none⟩ = some (.int .i64 s.wait) := (hP.cell 1).trans rfl
 have q2 : W1.cell? ⟨w.heap.size, 2, none⟩ = some (.slice a.ta s.tiers.length a.tc) := (hP.cell 2).trans rfl
 have q3 : W1.cell? ⟨w.heap.size, 3, none⟩ = some (.slice a.fa s.files.length a.fc) := (hP.cell 3).trans rfl
 have q4 : W1.cell? ⟨w.heap.size, 4, none⟩ = some (.slice a.ca s.copies.length a.cc) := (hP.cell 4).trans rfl
 have q5 : W1.cell? ⟨w.heap.size, 5, none⟩ = some (.slice a.ha s.held.length a.hc) := (hP.cell 5).trans rfl
 have q6 : W1.cell? ⟨w.heap.size, 6, none⟩ = some (.slice a.ba s.bin.length a.bc) := (hP.cell 6).trans rfl
 have HP := Lib.hid hP; have HB1 := Lib.hid hB1
 clear hW1 hP
 have hcl := hI.cl
 obtain ⟨q, hq⟩ : ∃ q, St.copyAt s d t = q := ⟨_, rfl⟩
 rw [hq]
 have HQ : Hid (St.idx (St.isCop d t) (s.copies.drop 0) 0 = q) := Lib.hid hq
 clear q0 q1 q2 q3 q5 q6 hI hq
 obtain ⟨n, hn⟩ : ∃ n, s.copies.length = n := ⟨_, rfl⟩
 have HN := Lib.hid hn
 rw [hn] at q4 hcl HW1 ⊢
 clear hn
 go_enter Tryz.func80, Tryz.ntmps80
 go_wp2_with fail
 rw [HW1.out]
 go_wp2_with fail
 go_loopg [12] n (fun gk i wr => ∃ j : Nat, j ≤ n ∧ gk = n - j ∧ i = .int .i64 j ∧ St.idx (St.isCop d t) (s.copies.drop j) j = q ∧ Below w.heap.size w wr ∧ Below W1.heap.size W1 wr)
 case atStart => exact ⟨0, by omega, rfl, rfl, HQ.out, HB1.out, Below.refl _ _⟩
 case round =>
  obtain ⟨j, hj, rfl, rfl, hs, hB, hBW⟩ := hrel
  have HS := Lib.hid hs; clear hs
  by_cases hlt : j < n
  ·obtain ⟨x, hx⟩ : ∃ x, s.copies[j]? = some x := ⟨_, List.getElem?_eq_getElem (by rw [HN.out]; exact hlt)⟩
   obtain ⟨b, off, ha, hb, hcell⟩ := ((HI1.out.keep hBW).co) (by rw [HN.out]; omega)
   have c0 : wr.cell? ⟨b, off + j * 4, none⟩ = some (.string x.dig) := hcell j x hx 0 (.string x.dig) rfl
   have c1 : wr.cell? ⟨b, off + j * 4 + 1, none⟩ = some (.string x.tier) := hcell j x hx 1 (.string x.tier) rfl
   have c2 : wr.cell? ⟨b, off + j * 4 + 2, none⟩ = some (.bool x.good) := hcell j x hx 2 (.bool x.good) rfl
   have c3 : wr.cell? ⟨b, off + j * 4 + 3, none⟩ = some (.int .i64 x.asked) := hcell j x hx 3 (.int .i64 x.asked) rfl
   clear hcell
   have HX := Lib.hid hx
   have HAL := Lib.hid (below_allocs hB (.cells #[.string x.dig, .string x.tier, .bool x.good, .int .i64 x.asked] 74))
   have HAW := Lib.hid (below_allocs hBW (.cells #[.string x.dig, .string x.tier, .bool x.good, .int .i64 x.asked] 74))
   have hj0 : (0 : Int) ≤ (j : Int) := by omega
   have hj1 : (j : Int) < (n : Int) := by omega
   obtain ⟨bq, hbq⟩ : ∃ bq, (x.dig.toList == d.toList) = bq := ⟨_, rfl⟩
   obtain ⟨br, hbr⟩ : ∃ br, (x.tier.toList == t.toList) = br := ⟨_, rfl⟩
   have HIS : Hid (St.isCop d t x = (bq && br)) := Lib.hid (by rw [← hbq, ← hbr]; rfl)
   rw [ha]
   cases bq
   ·have HE := Lib.hid (St.idx_next HS.out HX.out (by rw [HIS.out]; rfl))
    clear hx hB hBW
    go_wp2_with fail
    rw [← ha]
    go_roundg (n - (j + 1))
    case rel => exact ⟨j + 1, by omega, rfl, by go_num, HE.out, HAL.out, HAW.out⟩
    case measure => omega
   ·cases br
    ·have HE := Lib.hid (St.idx_next HS.out HX.out (by rw [HIS.out]; rfl))
     clear hx hB hBW
     go_wp2_with fail
     rw [← ha]
     go_roundg (n - (j + 1))
     case rel => exact ⟨j + 1, by omega, rfl, by go_num, HE.out, HAL.out, HAW.out⟩
     case measure => omega
    ·have HE := Lib.hid (St.idx_here HS.out HX.out (by rw [HIS.out]; rfl))
     clear hx hB hBW
     go_wp2_with fail
     go_ret
     exact ⟨ret_int HE.out, HAL.out⟩
  ·obtain rfl : j = n := by omega
   have HE := HS.out
   rw [← HN.out] at HE
   have HE2 := Lib.hid (St.idx_end HE)
   clear HE
   go_wp2_with fail
   go_ret
   exact ⟨ret_int HE2.out, hB⟩
theorem StOwn.copPut {V x1 : World} {B : Nat} {s : Sto} {b : StA} (h : StOwn V B s b) {CS : List Cop} {ga : Option Addr} {gc : Nat} (ho : OwnV x1 B 74 4 (.slice ga CS.length gc) CS.length (St.eC.flat CS)) (hg : V.grownBy x1 (Value.slice b.ca s.copies.length b.cc).ownBlock) :
  StOwn x1 B { s with copies := CS } ⟨b.ta, b.tc, b.fa, b.fc, ga, gc, b.ha, b.hc, b.ba, b.bc⟩ :=
 ⟨h.ti.beside h.co (by decide) hg, h.fi.beside h.co (by decide) hg, ho, h.he.beside h.co (by decide) hg, h.bi.beside h.co (by decide) hg⟩
def OwnPut (w : World) (t : Sto) (e : Ending) (w' : World) : Prop := ∃ a' : StA, e = .returned (.agg #[.int .i64 t.least, .int .i64 t.wait, .slice a'.ta t.tiers.length a'.tc, .slice a'.fa t.files.length a'.fc, .slice a'.ca t.copies.length a'.cc, .slice a'.ha t.held.length a'.hc, .slice a'.ba t.bin.length a'.bc]) ∧ StOwn w' w.heap.size t a' ∧ Below w.heap.size w w'
theorem withCopyR_is (s : Sto) (a : StA) (c : Cop) (p : Nat) (w : World) (hI : StIn w s a) (hl : StLen s) (hk : St.copyAt s c.dig c.tier < 0) (hpl : p ≤ s.copies.length) (hpb : ∀ i x, s.copies[i]? = some x → i < p → St.ahead x c = true) (hpa : ∀ x, s.copies[p]? = some x → St.ahead x c = false) : Calls Tryz.prog 83 #[.agg #[.int .i64 s.least, .int .i64 s.wait, .slice a.ta s.tiers.length a.tc, .slice a.fa s.files.length a.fc, .slice a.ca s.copies.length a.cc, .slice a.ha s.held.length a.hc, .slice a.ba s.bin.length a.bc], .agg #[.string c.dig, .string c.tier, .bool c.good, .int .i64 c.asked]] w (OwnPut w { s with copies := s.copies.take p ++ c :: s.copies.drop p }) := by
 obtain ⟨W0, hW0, hP, hz0, hB0⟩ := box w #[.int .i64 s.least, .int .i64 s.wait, .slice a.ta s.tiers.length a.tc, .slice a.fa s.files.length a.fc, .slice a.ca s.copies.length a.cc, .slice a.ha s.held.length a.hc, .slice a.ba s.bin.length a.bc] 28
 obtain ⟨W1, hW1, hD, hz1, hB1⟩ := box W0 #[.string c.dig, .string c.tier, .bool c.good, .int .i64 c.asked] 74
 obtain ⟨W2, hW2, hQ, hz2, hB2⟩ := box W1 #[.int .i64 0, .int .i64 0, .slice none 0 0, .slice none 0 0, .slice none 0 0, .slice none 0 0, .slice none 0 0] 28
 rw [hz0] at hD hz1
 rw [hz1] at hQ hz2
 have hP := (hP.keep hB1).keep hB2
 have hD := hD.keep hB2
 have hBB := below_up hB0 (below_up hB1 hB2)
 have HW0 := Lib.hid hW0; have HW1 := Lib.hid hW1; have HW2 := Lib.hid hW2; have HP := Lib.hid hP; have HD := Lib.hid hD; have HQ := Lib.hid hQ; have HBB := Lib.hid hBB; have HZ2 : Hid (W2.heap.size = w.heap.size + 3) := Lib.hid (by omega)
 have HI2 := Lib.hid (hI.keep hBB)
 obtain ⟨q0, q1, q2, q3, q4, q5, q6⟩ := hP.seven
 obtain ⟨d0, d1, d2, d3⟩ := hD.four
 have HSZ := Lib.hid hI.sz
 clear hI hW0 hW1 hW2 hP hD hQ hz0 hz1 hz2 hB0 hB1 hB2 hBB
 have HCP := Lib.hid (fun V (hv : Below W2.heap.size W2 V) => twin_is s a V (HI2.out.keep hv) hl)
 unfold CpyPost at HCP
 have HCO := Lib.hid (fun V b (h : StIn V s b) => copyOf_is s b c.dig c.tier V h)
 generalize St.copyAt s c.dig c.tier = k at *
 have hk0 : ¬ (0 ≤ k) := by omega
 have hk1 : decide (0 ≤ k) = false := decide_eq_false hk0
 have HPB := Lib.hid hpb; have HPA := Lib.hid hpa
 have HBF := Lib.hid (fun x V => before_is x c V)
 obtain ⟨CS, hCS⟩ : ∃ CS, s.copies.take p ++ c :: s.copies.drop p = CS := ⟨_, rfl⟩
 rw [hCS]
 have HCS := Lib.hid hCS
 have HBL : Hid (CS.length = s.copies.length + 1) := Lib.hid (by rw [← hCS, List.length_append, List.length_cons, List.length_take, List.length_drop]; omega)
 have hy5 := hl.2.2.1
 clear hl hk hpb hpa hCS
 go_enter Tryz.func83, Tryz.ntmps83
 go_upto_region 1 with fail
 rw [HW0.out, HW1.out, HW2.out]
 have hv : Below W2.heap.size W2 W2 := Below.refl _ _
 go_upto_region 2 with (first
  | (go_at_call 81; (with_reducible refine (HCP.out _ hv).mono ?_); rintro e w8 ⟨b, rfl, hOwn, hB8⟩)
  | (refine wpList_store_row rfl 28 _ _ rfl w.heap.size #[.int .i64 s.least, .int .i64 s.wait, .slice b.ta s.tiers.length b.tc, .slice b.fa s.files.length b.fc, .slice b.ca s.copies.length b.cc, .slice b.ha s.held.length b.hc, .slice b.ba s.bin.length b.bc] rfl rfl 28 _ (HP.out.keep (below_up hv hB8)) infoSto rfl (by simp [Value.oneCell']) ?_))
 have hlt4 : w.heap.size + 2 < W2.heap.size := by have := HZ2.out; omega
 have hPv := Blk.setRowAt (HP.out.keep hB8) #[.int .i64 s.least, .int .i64 s.wait, .slice b.ta s.tiers.length b.tc, .slice b.fa s.files.length b.fc, .slice b.ca s.copies.length b.cc, .slice b.ha s.held.length b.hc, .slice b.ba s.bin.length b.bc]
 have hQv := (HQ.out.keep hB8).setRowOther (b' := w.heap.size) (by omega) #[.int .i64 s.least, .int .i64 s.wait, .slice b.ta s.tiers.length b.tc, .slice b.fa s.files.length b.fc, .slice b.ca s.copies.length b.cc, .slice b.ha s.held.length b.hc, .slice b.ba s.bin.length b.bc]
 have hDv := (HD.out.keep hB8).setRowOther (b' := w.heap.size) (by omega) #[.int .i64 s.least, .int .i64 s.wait, .slice b.ta s.tiers.length b.tc, .slice b.fa s.files.length b.fc, .slice b.ca s.copies.length b.cc, .slice b.ha s.held.length b.hc, .slice b.ba s.bin.length b.bc]
 have hBv := below_setRow (below_up HBB.out hB8) (Nat.le_refl w.heap.size) #[.int .i64 s.least, .int .i64 s.wait, .slice b.ta s.tiers.length b.tc, .slice b.fa s.files.length b.fc, .slice b.ca s.copies.length b.cc, .slice b.ha s.held.length b.hc, .slice b.ba s.bin.length b.bc]
 have hOv := hOwn.setRow (b := w.heap.size) (by omega) #[.int .i64 s.least, .int .i64 s.wait, .slice b.ta s.tiers.length b.tc, .slice b.fa s.files.length b.fc, .slice b.ca s.copies.length b.cc, .slice b.ha s.held.length b.hc, .slice b.ba s.bin.length b.bc]
 have hVz : W2.heap.size ≤ (w8.setRow w.heap.size #[.int .i64 s.least, .int .i64 s.wait, .slice b.ta s.tiers.length b.tc, .slice b.fa s.files.length b.fc, .slice b.ca s.copies.length b.cc, .slice b.ha s.held.length b.hc, .slice b.ba s.bin.length b.bc]).heap.size := by have := hB8.size; simp; omega
 obtain ⟨V, hV⟩ : ∃ V, w8.setRow w.heap.size #[.int .i64 s.least, .int .i64 s.wait, .slice b.ta s.tiers.length b.tc, .slice b.fa s.files.length b.fc, .slice b.ca s.copies.length b.cc, .slice b.ha s.held.length b.hc, .slice b.ba s.bin.length b.bc] = V := ⟨_, rfl⟩
 rw [hV] at hPv hQv hDv hBv hOv hVz ⊢
 clear hV q0 q1 q2 q3 q4 q5 q6 d0 d1 d2 d3 hOwn hB8 hv
 have HPv := Lib.hid hPv; have HDv := Lib.hid hDv; have HOv := Lib.hid hOv; have HBv := Lib.hid hBv; have HQv := Lib.hid hQv; have HVz := Lib.hid hVz
 have HLT := Lib.hid hlt4
 obtain ⟨q0, q1, q2, q3, q4, q5, q6⟩ := hPv.seven
 obtain ⟨d0, d1, d2, d3⟩ := hDv.four
 have HIV := Lib.hid (hOv.in_ HSZ.out)
 clear hPv hQv hDv hBv hOv hVz hlt4
 go_upto_region 7 with (go_at_call 80; (with_reducible refine (HCO.out _ _ HIV.out).mono ?_); rintro e X ⟨rfl, hX⟩)
 have HPx := Lib.hid (HPv.out.keep hX); have HQx := Lib.hid (HQv.out.keep hX); have HDx := Lib.hid (HDv.out.keep hX); have HOx := Lib.hid (HOv.out.keep hX); have HBx := Lib.hid (below_up HBv.out hX); have HZx : Hid (W2.heap.size ≤ X.heap.size) := Lib.hid (by have := HVz.out; have := hX.size; omega)
 clear hX q0 q1 q2 q3 q4 q5 q6 d0 d1 d2 d3
 have hbi : OwnV X W2.heap.size 74 4 (.slice b.ca s.copies.length b.cc) s.copies.length (St.eC.flat s.copies) := HOx.out.co
 have HBI := Lib.hid hbi
 have HRB := Lib.hid (RowE.ofV (E := St.eC) (ca := b.cc) hbi)
 have HINS := Lib.hid (fun V (hb : Below X.heap.size X V) (bv : Nat) (hbv : V.heap[bv]? = some (.cells #[.string c.dig, .string c.tier, .bool c.good, .int .i64 c.asked] 74 (0, 0))) (hge : X.heap.size ≤ bv) => show Calls Tryz.prog 148 #[.slice b.ca s.copies.length b.cc, .int .i64 p, .slice (some ⟨bv, 0, none⟩) 1 1] V (OwnPost V W2.heap.size 74 4 (.slice b.ca s.copies.length b.cc) CS.length (St.eC.flat CS)) from by
  have h := cp_ins W2.heap.size s.copies.length p (.slice b.ca s.copies.length b.cc) (St.eC.flat s.copies) [.string c.dig, .string c.tier, .bool c.good, .int .i64 c.asked] V (HBI.out.keep hb) (by have := HZx.out; have := hb.size; omega) hpl (by omega) (Enc.flat_one St.eC _) bv _ _ hbv (fun e => by have := (HBI.out.lt bv e).2; omega) rfl rfl (by simp [Value.oneCell'])
  rw [flat_insC s.copies c p, HCS.out, ← HBL.out] at h
  exact h)
 unfold OwnPost at HINS
 clear hbi
 go_loopg [6] p (fun gk i wr => ∃ j : Nat, j ≤ p ∧ gk = p - j ∧ i = .int .i64 j ∧ Below X.heap.size X wr)
 case atStart => exact ⟨0, by omega, rfl, rfl, Below.refl _ _⟩
 case round =>
  obtain ⟨j, hj, rfl, rfl, hB⟩ := hrel
  by_cases hjn : j < s.copies.length
  ·obtain ⟨x, hx⟩ : ∃ x, s.copies[j]? = some x := ⟨_, List.getElem?_eq_getElem hjn⟩
   obtain ⟨bb, off, ha, hb, hc⟩ := HRB.out (by omega)
   have HCL : Hid (∀ V, Below X.heap.size X V → V.cell? ⟨w.heap.size, 4, none⟩ = some (.slice (some ⟨bb, off, none⟩) s.copies.length b.cc) ∧ V.cell? ⟨w.heap.size + 1, 0, none⟩ = some (.string c.dig) ∧ V.cell? ⟨w.heap.size + 1, 1, none⟩ = some (.string c.tier) ∧ V.cell? ⟨w.heap.size + 1, 2, none⟩ = some (.bool c.good) ∧ V.cell? ⟨w.heap.size + 1, 3, none⟩ = some (.int .i64 c.asked) ∧ V.cell? ⟨bb, off + j * 4, none⟩ = some (.string x.dig) ∧ V.cell? ⟨bb, off + j * 4 + 1, none⟩ = some (.string x.tier) ∧ V.cell? ⟨bb, off + j * 4 + 2, none⟩ = some (.bool x.good) ∧ V.cell? ⟨bb, off + j * 4 + 3, none⟩ = some (.int .i64 x.asked)) := Lib.hid fun V hv => by
    have hp := (HPx.out.keep hv).seven
    obtain ⟨d0, d1, d2, d3⟩ := (HDx.out.keep hv).four
    rw [← ha]
    exact ⟨hp.2.2.2.2.1, d0, d1, d2, d3, (hv.cell (p := ⟨bb, off + j * 4, none⟩) hb).trans (hc j x hx 0 (.string x.dig) rfl), (hv.cell (p := ⟨bb, off + j * 4 + 1, none⟩) hb).trans (hc j x hx 1 (.string x.tier) rfl), (hv.cell (p := ⟨bb, off + j * 4 + 2, none⟩) hb).trans (hc j x hx 2 (.bool x.good) rfl), (hv.cell (p := ⟨bb, off + j * 4 + 3, none⟩) hb).trans (hc j x hx 3 (.int .i64 x.asked) rfl)⟩
   have HXX := Lib.hid hx
   have hj0 : (0 : Int) ≤ (j : Int) := by omega
   have hj1 : (j : Int) < (s.copies.length : Int) := by omega
   have hd1 : decide ((j : Int) < (s.copies.length : Int)) = true := decide_eq_true hj1
   have HBX := Lib.hid (fun V => HBF.out x V)
   clear hc hx hb ha
   go_wp2_with fail
   have hv := hB.drew
   obtain ⟨q4, d0, d1, d2, d3, c0, c1, c2, c3⟩ := HCL.out _ hv
   cases hl : St.ahead x c with
   | true =>
     rw [hl] at HBX
     have hjp : j < p := by
      rcases Nat.lt_or_ge j p with h | h
      ·exact h
      ·have he : j = p := by omega
       have := HPA.out x (by rw [← he]; exact HXX.out)
       rw [hl] at this; cases this
     go_region_held3 (fun V => V.cell? ⟨w.heap.size, 4, none⟩ = some (.slice (some ⟨bb, off, none⟩) s.copies.length b.cc) ∧ V.cell? ⟨w.heap.size + 1, 0, none⟩ = some (.string c.dig) ∧ V.cell? ⟨w.heap.size + 1, 1, none⟩ = some (.string c.tier) ∧ V.cell? ⟨w.heap.size + 1, 2, none⟩ = some (.bool c.good) ∧ V.cell? ⟨w.heap.size + 1, 3, none⟩ = some (.int .i64 c.asked) ∧ V.cell? ⟨bb, off + j * 4, none⟩ = some (.string x.dig) ∧ V.cell? ⟨bb, off + j * 4 + 1, none⟩ = some (.string x.tier) ∧ V.cell? ⟨bb, off + j * 4 + 2, none⟩ = some (.bool x.good) ∧ V.cell? ⟨bb, off + j * 4 + 3, none⟩ = some (.int .i64 x.asked))
      (first | (with_reducible exact ⟨q4, d0, d1, d2, d3, c0, c1, c2, c3⟩) | go_keep)
      (first
       | (go_at_call 77; (with_reducible refine (HBX.out _).mono ?_); rintro e wq ⟨rfl, hq⟩; have hv := below_up hv hq; obtain ⟨q4, d0, d1, d2, d3, c0, c1, c2, c3⟩ := HCL.out _ hv)
       | fail)
     go_wp2_with fail
     go_roundg (p - (j + 1))
     case rel => exact ⟨j + 1, by omega, rfl, by go_num, hv⟩
     case measure => omega
   | false =>
     rw [hl] at HBX
     obtain rfl : j = p := by
      rcases Nat.lt_or_ge j p with h | h
      ·have := HPB.out j x HXX.out h
       rw [hl] at this; cases this
      ·omega
     go_region_held3 (fun V => V.cell? ⟨w.heap.size, 4, none⟩ = some (.slice (some ⟨bb, off, none⟩) s.copies.length b.cc) ∧ V.cell? ⟨w.heap.size + 1, 0, none⟩ = some (.string c.dig) ∧ V.cell? ⟨w.heap.size + 1, 1, none⟩ = some (.string c.tier) ∧ V.cell? ⟨w.heap.size + 1, 2, none⟩ = some (.bool c.good) ∧ V.cell? ⟨w.heap.size + 1, 3, none⟩ = some (.int .i64 c.asked) ∧ V.cell? ⟨bb, off + j * 4, none⟩ = some (.string x.dig) ∧ V.cell? ⟨bb, off + j * 4 + 1, none⟩ = some (.string x.tier) ∧ V.cell? ⟨bb, off + j * 4 + 2, none⟩ = some (.bool x.good) ∧ V.cell? ⟨bb, off + j * 4 + 3, none⟩ = some (.int .i64 x.asked))
      (first | (with_reducible exact ⟨q4, d0, d1, d2, d3, c0, c1, c2, c3⟩) | go_keep)
      (first
       | (go_at_call 77; (with_reducible refine (HBX.out _).mono ?_); rintro e wq ⟨rfl, hq⟩; have hv := below_up hv hq; obtain ⟨q4, d0, d1, d2, d3, c0, c1, c2, c3⟩ := HCL.out _ hv)
       | fail)
     have hB9 := hv
     clear q4 d0 d1 d2 d3 c0 c1 c2 c3 hB hv hq
     rename_i hHeld
     clear hHeld
     generalize wq = U at *
     have HB9 := Lib.hid hB9
     have hal : Below U.heap.size U (U.alloc (.cells #[.string c.dig, .string c.tier, .bool c.good, .int .i64 c.asked] 74)) := (Below.refl _ _).alloc (Nat.le_refl _) _
     have hPA := (HPx.out.keep hB9).keep hal
     have hQA := (HQx.out.keep hB9).keep hal
     have hOA := (HOx.out.keep hB9).keep hal
     have HBA := Lib.hid (below_up HBx.out (below_up hB9 hal))
     have HZA : Hid (W2.heap.size ≤ (U.alloc (.cells #[.string c.dig, .string c.tier, .bool c.good, .int .i64 c.asked] 74)).heap.size) := Lib.hid (by have := HZx.out; have := hB9.size; have := hal.size; omega)
     have HPA2 := Lib.hid hPA; have HQA := Lib.hid hQA; have HOA := Lib.hid hOA
     have HNV : Hid (∀ o, ((U).alloc o).heap[(U).heap.size]? = some o) := Lib.hid (fun o => heap_alloc_new U o)
     have HGE : Hid (X.heap.size ≤ U.heap.size) := Lib.hid hB9.size
     obtain ⟨q0, q1, q2, q3, q4, q5, q6⟩ := (HPx.out.keep hB9).seven
     obtain ⟨d0, d1, d2, d3⟩ := (HDx.out.keep hB9).four
     clear hPA hQA hOA hal hB9
     go_upto_region 10 with (go_at_call 148; (with_reducible refine (HINS.out _ (below_allocs HB9.out _) U.heap.size (HNV.out _) HGE.out).mono ?_); rintro e w8 ⟨g8, c8, rfl, hc8, hg8, hn8⟩; have HC8 := Lib.hid hc8; have HG8 := Lib.hid hg8; have hlt := HLT.out; have hP8 := HPA2.out.besideV HOA.out.co hg8 (show w.heap.size < W2.heap.size by omega); obtain ⟨q0, q1, q2, q3, q4, q5, q6⟩ := hP8.seven; have qf := hP8.free; clear hc8 hg8 hn8)
     have hPy : Blk (w8.setCell ⟨w.heap.size, 4, none⟩ (.slice (some ⟨g8, 0, none⟩) CS.length c8)) w.heap.size #[.int .i64 s.least, .int .i64 s.wait, .slice b.ta s.tiers.length b.tc, .slice b.fa s.files.length b.fc, .slice (some ⟨g8, 0, none⟩) CS.length c8, .slice b.ha s.held.length b.hc, .slice b.ba s.bin.length b.bc] 28 := hP8.set 4 (.slice (some ⟨g8, 0, none⟩) CS.length c8)
     have hQy := (HQA.out.besideV HOA.out.co HG8.out (by omega)).setOther (a := ⟨w.heap.size, 4, none⟩) (by simp <;> omega) (.slice (some ⟨g8, 0, none⟩) CS.length c8)
     have hOy := (HOA.out.copPut (CS := CS) (.inr ⟨g8, c8, rfl, HC8.out⟩) HG8.out).cellB (show w.heap.size < W2.heap.size by omega) 4 (.slice (some ⟨g8, 0, none⟩) CS.length c8)
     have hBy := (below_ownE HBA.out (HOA.out.co.down (show w.heap.size ≤ W2.heap.size by omega)) HG8.out (by have := HZA.out; omega)).setCell (p := ⟨w.heap.size, 4, none⟩) (Nat.le_refl _) (.slice (some ⟨g8, 0, none⟩) CS.length c8)
     generalize w8.setCell ⟨w.heap.size, 4, none⟩ (.slice (some ⟨g8, 0, none⟩) CS.length c8) = Y at *
     clear q0 q1 q2 q3 q4 q5 q6 d0 d1 d2 d3 qf hP8
     have HOZ := Lib.hid ((hOy.setRow (b := w.heap.size + 2) (by omega) #[.int .i64 s.least, .int .i64 s.wait, .slice b.ta s.tiers.length b.tc, .slice b.fa s.files.length b.fc, .slice (some ⟨g8, 0, none⟩) CS.length c8, .slice b.ha s.held.length b.hc, .slice b.ba s.bin.length b.bc]).down (show w.heap.size ≤ W2.heap.size by omega))
     have HBY := Lib.hid (below_setRow hBy (show w.heap.size ≤ w.heap.size + 2 by omega) #[.int .i64 s.least, .int .i64 s.wait, .slice b.ta s.tiers.length b.tc, .slice b.fa s.files.length b.fc, .slice (some ⟨g8, 0, none⟩) CS.length c8, .slice b.ha s.held.length b.hc, .slice b.ba s.bin.length b.bc])
     obtain ⟨y0, y1, y2, y3, y4, y5, y6⟩ := hPy.seven
     clear hOy hBy hPy
     go_wp2_with (refine wpList_store_row rfl 28 _ _ rfl (w.heap.size + 2) #[.int .i64 s.least, .int .i64 s.wait, .slice b.ta s.tiers.length b.tc, .slice b.fa s.files.length b.fc, .slice (some ⟨g8, 0, none⟩) CS.length c8, .slice b.ha s.held.length b.hc, .slice b.ba s.bin.length b.bc] rfl rfl 28 _ hQy infoSto rfl (by simp [Value.oneCell']) ?_)
     obtain ⟨g0, g1, g2', g3, g4', g5, g6⟩ := (Blk.setRowAt hQy #[.int .i64 s.least, .int .i64 s.wait, .slice b.ta s.tiers.length b.tc, .slice b.fa s.files.length b.fc, .slice (some ⟨g8, 0, none⟩) CS.length c8, .slice b.ha s.held.length b.hc, .slice b.ba s.bin.length b.bc]).seven
     refine bodyPost_ret (v := .agg #[.int .i64 s.least, .int .i64 s.wait, .slice b.ta s.tiers.length b.tc, .slice b.fa s.files.length b.fc, .slice (some ⟨g8, 0, none⟩) CS.length c8, .slice b.ha s.held.length b.hc, .slice b.ba s.bin.length b.bc]) (by simp [results, Tryz.results83, go_sem, g0, g1, g2', g3, g4', g5, g6]) rfl ?_
     exact ⟨_, rfl, HOZ.out, HBY.out⟩
  ·obtain rfl : j = p := by omega
   obtain ⟨q0, q1, q2, q3, q4, q5, q6⟩ := (HPx.out.keep hB).seven
   obtain ⟨d0, d1, d2, d3⟩ := (HDx.out.keep hB).four
   have hd1 : decide ((j : Int) < (s.copies.length : Int)) = false := decide_eq_false (by omega)
   have hd2 : ((j : Int) < (s.copies.length : Int)) = False := eq_false (by omega)
   go_wp2_with fail
   go_quiet (fail)
   have hB9 := below_drewN hB nq
   generalize World.drewN wr nq = U at *
   clear q0 q1 q2 q3 q4 q5 q6 d0 d1 d2 d3 hB
   have HB9 := Lib.hid hB9
   have hal : Below U.heap.size U (U.alloc (.cells #[.string c.dig, .string c.tier, .bool c.good, .int .i64 c.asked] 74)) := (Below.refl _ _).alloc (Nat.le_refl _) _
   have hPA := (HPx.out.keep hB9).keep hal
   have hQA := (HQx.out.keep hB9).keep hal
   have hOA := (HOx.out.keep hB9).keep hal
   have HBA := Lib.hid (below_up HBx.out (below_up hB9 hal))
   have HZA : Hid (W2.heap.size ≤ (U.alloc (.cells #[.string c.dig, .string c.tier, .bool c.good, .int .i64 c.asked] 74)).heap.size) := Lib.hid (by have := HZx.out; have := hB9.size; have := hal.size; omega)
   have HPA2 := Lib.hid hPA; have HQA := Lib.hid hQA; have HOA := Lib.hid hOA
   have HNV : Hid (∀ o, ((U).alloc o).heap[(U).heap.size]? = some o) := Lib.hid (fun o => heap_alloc_new U o)
   have HGE : Hid (X.heap.size ≤ U.heap.size) := Lib.hid hB9.size
   obtain ⟨q0, q1, q2, q3, q4, q5, q6⟩ := (HPx.out.keep hB9).seven
   obtain ⟨d0, d1, d2, d3⟩ := (HDx.out.keep hB9).four
   clear hPA hQA hOA hal hB9
   go_upto_region 10 with (go_at_call 148; (with_reducible refine (HINS.out _ (below_allocs HB9.out _) U.heap.size (HNV.out _) HGE.out).mono ?_); rintro e w8 ⟨g8, c8, rfl, hc8, hg8, hn8⟩; have HC8 := Lib.hid hc8; have HG8 := Lib.hid hg8; have hlt := HLT.out; have hP8 := HPA2.out.besideV HOA.out.co hg8 (show w.heap.size < W2.heap.size by omega); obtain ⟨q0, q1, q2, q3, q4, q5, q6⟩ := hP8.seven; have qf := hP8.free; clear hc8 hg8 hn8)
   have hPy : Blk (w8.setCell ⟨w.heap.size, 4, none⟩ (.slice (some ⟨g8, 0, none⟩) CS.length c8)) w.heap.size #[.int .i64 s.least, .int .i64 s.wait, .slice b.ta s.tiers.length b.tc, .slice b.fa s.files.length b.fc, .slice (some ⟨g8, 0, none⟩) CS.length c8, .slice b.ha s.held.length b.hc, .slice b.ba s.bin.length b.bc] 28 := hP8.set 4 (.slice (some ⟨g8, 0, none⟩) CS.length c8)
   have hQy := (HQA.out.besideV HOA.out.co HG8.out (by omega)).setOther (a := ⟨w.heap.size, 4, none⟩) (by simp <;> omega) (.slice (some ⟨g8, 0, none⟩) CS.length c8)
   have hOy := (HOA.out.copPut (CS := CS) (.inr ⟨g8, c8, rfl, HC8.out⟩) HG8.out).cellB (show w.heap.size < W2.heap.size by omega) 4 (.slice (some ⟨g8, 0, none⟩) CS.length c8)
   have hBy := (below_ownE HBA.out (HOA.out.co.down (show w.heap.size ≤ W2.heap.size by omega)) HG8.out (by have := HZA.out; omega)).setCell (p := ⟨w.heap.size, 4, none⟩) (Nat.le_refl _) (.slice (some ⟨g8, 0, none⟩) CS.length c8)
   generalize w8.setCell ⟨w.heap.size, 4, none⟩ (.slice (some ⟨g8, 0, none⟩) CS.length c8) = Y at *
   clear q0 q1 q2 q3 q4 q5 q6 d0 d1 d2 d3 qf hP8
   have HOZ := Lib.hid ((hOy.setRow (b := w.heap.size + 2) (by omega) #[.int .i64 s.least, .int .i64 s.wait, .slice b.ta s.tiers.length b.tc, .slice b.fa s.files.length b.fc, .slice (some ⟨g8, 0, none⟩) CS.length c8, .slice b.ha s.held.length b.hc, .slice b.ba s.bin.length b.bc]).down (show w.heap.size ≤ W2.heap.size by omega))
   have HBY := Lib.hid (below_setRow hBy (show w.heap.size ≤ w.heap.size + 2 by omega) #[.int .i64 s.least, .int .i64 s.wait, .slice b.ta s.tiers.length b.tc, .slice b.fa s.files.length b.fc, .slice (some ⟨g8, 0, none⟩) CS.length c8, .slice b.ha s.held.length b.hc, .slice b.ba s.bin.length b.bc])
   obtain ⟨y0, y1, y2, y3, y4, y5, y6⟩ := hPy.seven
   clear hOy hBy hPy
   go_wp2_with (refine wpList_store_row rfl 28 _ _ rfl (w.heap.size + 2) #[.int .i64 s.least, .int .i64 s.wait, .slice b.ta s.tiers.length b.tc, .slice b.fa s.files.length b.fc, .slice (some ⟨g8, 0, none⟩) CS.length c8, .slice b.ha s.held.length b.hc, .slice b.ba s.bin.length b.bc] rfl rfl 28 _ hQy infoSto rfl (by simp [Value.oneCell']) ?_)
   obtain ⟨g0, g1, g2', g3, g4', g5, g6⟩ := (Blk.setRowAt hQy #[.int .i64 s.least, .int .i64 s.wait, .slice b.ta s.tiers.length b.tc, .slice b.fa s.files.length b.fc, .slice (some ⟨g8, 0, none⟩) CS.length c8, .slice b.ha s.held.length b.hc, .slice b.ba s.bin.length b.bc]).seven
   refine bodyPost_ret (v := .agg #[.int .i64 s.least, .int .i64 s.wait, .slice b.ta s.tiers.length b.tc, .slice b.fa s.files.length b.fc, .slice (some ⟨g8, 0, none⟩) CS.length c8, .slice b.ha s.held.length b.hc, .slice b.ba s.bin.length b.bc]) (by simp [results, Tryz.results83, go_sem, g0, g1, g2', g3, g4', g5, g6]) rfl ?_
   exact ⟨_, rfl, HOZ.out, HBY.out⟩
theorem freeIn_is (s : Sto) (a : StA) (x : Tir) (k : Nat) (hk : s.tiers[k]? = some x) (hka : St.tierAt s.tiers x.name = (k : Int)) (w : World) (hI : StIn w s a) (hz : St.Szs s.files) (hc : s.copies.length ≤ 4000) (hr : 0 ≤ x.room ∧ x.room ≤ 1000000000000) :
  Calls Tryz.prog 36 #[.agg #[.int .i64 s.least, .int .i64 s.wait, .slice a.ta s.tiers.length a.tc, .slice a.fa s.files.length a.fc, .slice a.ca s.copies.length a.cc, .slice a.ha s.held.length a.hc, .slice a.ba s.bin.length a.bc], .string x.name] w fun e w' => e = .returned (.int .i64 (x.room - St.used s.files x.name s.copies)) ∧ Below w.heap.size w w' := by
 obtain ⟨W1, hW1, hP, hz1, hB1⟩ := box w #[.int .i64 s.least, .int .i64 s.wait, .slice a.ta s.tiers.length a.tc, .slice a.fa s.files.length a.fc, .slice a.ca s.copies.length a.cc, .slice a.ha s.held.length a.hc, .slice a.ba s.bin.length a.bc] 28
 have HW1 := Lib.hid hW1
 have HI1 := Lib.hid (hI.keep hB1)
 have q0 : W1.cell? ⟨w.heap.size, 0, none⟩ = some (.int .i64 s.least) := (hP.cell 0).trans rfl
 have q1 : W1.cell? ⟨w.heap.size, 1, none⟩ = some (.int .i64 s.wait) := (hP.cell 1).trans rfl
 have q2 : W1.cell? ⟨w.heap.size, 2, none⟩ = some (.slice a.ta s.tiers.length a.tc) := (hP.cell 2).trans rfl
 have q3 : W1.cell? ⟨w.heap.size, 3, none⟩ = some (.slice a.fa s.files.length a.fc) := (hP.cell 3).trans rfl
 have q4 : W1.cell? ⟨w.heap.size, 4, none⟩ = some (.slice a.ca s.copies.length a.cc) := (hP.cell 4).trans rfl
 have q5 : W1.cell? ⟨w.heap.size, 5, none⟩ = some (.slice a.ha s.held.length a.hc) := (hP.cell 5).trans rfl
 have q6 : W1.cell? ⟨w.heap.size, 6, none⟩ = some (.slice a.ba s.bin.length a.bc) := (hP.cell 6).trans rfl
 have HP := Lib.hid hP; have HB1 := Lib.hid hB1
 clear hW1 hP
 have hcl := hI.cl
 have htl := hI.tl
 have HZ := Lib.hid hz
 have hklt := (List.getElem?_eq_some_iff.1 hk).1
 have HT := Lib.hid (fun d os => Calls.regrown_of (w := W1) (d := d) (os := os) (tierOf_is s a x.name _ (HI1.out.keep (below_regrown W1 d os))))
 rw [hka] at HT
 obtain ⟨tb, toff, hta, htb, htc⟩ := HI1.out.ti (by omega)
 have t1 : W1.cell? ⟨tb, toff + k * 4 + 1, none⟩ = some (.int .i64 x.room) := htc k x hk 1 (.int .i64 x.room) rfl
 have HFO := Lib.hid (fun (d : ByteArray) W (hb : Below W1.heap.size W1 W) => fileOf_is s a d W (HI1.out.keep hb))
 have HCL : Hid (∀ W, Below W1.heap.size W1 W → W.cell? ⟨w.heap.size, 0, none⟩ = some (.int .i64 s.least) ∧ W.cell? ⟨w.heap.size, 1, none⟩ = some (.int .i64 s.wait) ∧ W.cell? ⟨w.heap.size, 2, none⟩ = some (.slice a.ta s.tiers.length a.tc) ∧ W.cell? ⟨w.heap.size, 3, none⟩ = some (.slice a.fa s.files.length a.fc) ∧ W.cell? ⟨w.heap.size, 4, none⟩ = some (.slice a.ca s.copies.length a.cc) ∧ W.cell? ⟨w.heap.size, 5, none⟩ = some (.slice a.ha s.held.length a.hc) ∧ W.cell? ⟨w.heap.size, 6, none⟩ = some (.slice a.ba s.bin.length a.bc)) := Lib.hid fun W hb =>
  have k := HP.out.keep hb
  ⟨(k.cell 0).trans rfl, (k.cell 1).trans rfl, (k.cell 2).trans rfl, (k.cell 3).trans rfl, (k.cell 4).trans rfl, (k.cell 5).trans rfl, (k.cell 6).trans rfl⟩
 obtain ⟨tot, htot⟩ : ∃ tot, x.room - St.used s.files x.name s.copies = tot := ⟨_, rfl⟩
 rw [htot]
 have hub := St.used_bd hz x.name s.copies
 have htt : -5000000000000 ≤ tot ∧ tot ≤ 1000000000000 := by omega
 have HT0 : Hid (x.room = tot + St.used s.files x.name (s.copies.drop 0)) := Lib.hid (by rw [List.drop_zero]; omega)
 clear hI hz htot hub hka htc hk
 obtain ⟨n, hn⟩ : ∃ n, s.copies.length = n := ⟨_, rfl⟩
 have HN := Lib.hid hn
 obtain ⟨nt, hnt⟩ : ∃ nt, s.tiers.length = nt := ⟨_, rfl⟩
 rw [hn] at q4 hcl hc HW1 HT HFO HCL ⊢
 rw [hnt] at q2 htl hklt HW1 HT HFO HCL ⊢
 rw [hta] at q2 HW1 HT HFO HCL ⊢
 clear hn hnt
 have hk0 : (0 : Int) ≤ (k : Int) := by omega
 have hk1 : (k : Int) < (nt : Int) := by omega
 go_enter Tryz.func36, Tryz.ntmps36
 go_wp2_with fail
 rw [HW1.out]
 have k0 := cell_regrown q0
 have k1 := cell_regrown q1
 have k2 := cell_regrown q2
 have k3 := cell_regrown q3
 have k4 := cell_regrown q4
 have k5 := cell_regrown q5
 have k6 := cell_regrown q6
 have k7 := cell_regrown t1
 refine wp_region_quiet_below (by kernel_rfl) (by kernel_rfl) ?_
 repeat (go_big_quiet_step ((go_at_call 72; with_reducible exact HT.out _ _)))
 refine wpQuiet_nil ?_
 intro _ hw'
 obtain ⟨⟨dq, osq⟩, hw''⟩ := hw'
 subst hw''
 have hBw2 := below_regrown W1 dq osq
 generalize grow (redrawn W1 dq) osq = w2 at *
 clear dq osq
 clear k0 k1 k2 k3 k4 k5 k6 k7 q0 q1 q2 q3 q4 q5 q6 t1
 obtain ⟨m0, m1, m2, m3, m4, m5, m6⟩ := HCL.out _ hBw2
 have HB2 := Lib.hid hBw2
 go_wp2_with fail
 clear m0 m1 m2 m3 m4 m5 m6 hBw2
 go_loopg [5, 21] n (fun gk v i wr => ∃ (j : Nat) (z : Int), j ≤ n ∧ gk = n - j ∧ i = .int .i64 j ∧ v = .int .i64 z ∧ z = tot + St.used s.files x.name (s.copies.drop j) ∧ Below W1.heap.size W1 wr)
 case atStart => exact ⟨0, x.room, by omega, rfl, rfl, rfl, HT0.out, HB2.out⟩
 case round =>
  obtain ⟨j, z, hj, rfl, rfl, rfl, hz, hB⟩ := hrel
  by_cases hlt : j < n
  ·obtain ⟨y, hy⟩ : ∃ y, s.copies[j]? = some y := ⟨_, List.getElem?_eq_getElem (by rw [HN.out]; exact hlt)⟩
   obtain ⟨b, off, ha, hb, hcell⟩ := (HI1.out.keep hB).co (by rw [HN.out]; omega)
   have c0 : wr.cell? ⟨b, off + j * 4, none⟩ = some (.string y.dig) := hcell j y hy 0 (.string y.dig) rfl
   have c1 : wr.cell? ⟨b, off + j * 4 + 1, none⟩ = some (.string y.tier) := hcell j y hy 1 (.string y.tier) rfl
   have c2 : wr.cell? ⟨b, off + j * 4 + 2, none⟩ = some (.bool y.good) := hcell j y hy 2 (.bool y.good) rfl
   have c3 : wr.cell? ⟨b, off + j * 4 + 3, none⟩ = some (.int .i64 y.asked) := hcell j y hy 3 (.int .i64 y.asked) rfl
   clear hcell
   obtain ⟨W3, hW3, hX3, hz3, hB3⟩ := box wr #[.string y.dig, .string y.tier, .bool y.good, .int .i64 y.asked] 74
   have HW3 := Lib.hid hW3
   have d0 : W3.cell? ⟨wr.heap.size, 0, none⟩ = some (.string y.dig) := (hX3.cell 0).trans rfl
   have d1 : W3.cell? ⟨wr.heap.size, 1, none⟩ = some (.string y.tier) := (hX3.cell 1).trans rfl
   have HAL := Lib.hid (below_up hB hB3)
   have HFF := Lib.hid (HFO.out y.dig _ HAL.out)
   obtain ⟨f, hf⟩ : ∃ f, St.filD s.files y.dig = f := ⟨_, rfl⟩
   obtain ⟨fb, hfb⟩ : ∃ fb, (St.fileOf s.files y.dig).isSome = fb := ⟨_, rfl⟩
   rw [hf, hfb] at HFF
   unfold St.fval at HFF
   have hfz : 0 ≤ f.size ∧ f.size ≤ 1000000000 := by rw [← hf, St.filD_size]; exact St.size_bd HZ.out y.dig
   have hstep := St.used_drop (F := s.files) (n := x.name) hy
   have hub := St.used_bd HZ.out x.name (s.copies.drop (j + 1))
   have hl1 : (s.copies.drop (j + 1)).length ≤ 4000 := by rw [List.length_drop]; have := HN.out; omega
   have hsz : St.sizeOf s.files y.dig = f.size := by rw [← hf, St.filD_size]
   rw [hsz] at hstep
   obtain ⟨m0, m1, m2, m3, m4, m5, m6⟩ := HCL.out _ HAL.out
   have hj0 : (0 : Int) ≤ (j : Int) := by omega
   have hj1 : (j : Int) < (n : Int) := by omega
   obtain ⟨ud, hud⟩ : ∃ ud, St.used s.files x.name (s.copies.drop (j + 1)) = ud := ⟨_, rfl⟩
   have HUD := Lib.hid hud
   rw [hud] at hstep hub
   clear hud
   obtain ⟨bq, hbq⟩ : ∃ bq, (y.tier.toList == x.name.toList) = bq := ⟨_, rfl⟩
   have hbq' : St.eq y.tier x.name = bq := hbq
   rw [hbq'] at hstep
   rw [hstep] at hz
   have hbnd : 0 ≤ ud ∧ ud ≤ 4000000000000 := by omega
   have HB3 := Lib.hid hB3
   clear hy hB hX3 hz3 hB3 hW3 hf hfb hsz hstep hub hl1 hbq'
   rw [ha] at m4 HFF ⊢
   cases bq
   ·rw [if_neg (by decide)] at hz
    have HZN : Hid (z = tot + ud) := Lib.hid (by omega)
    have hzb : -5000000000000 ≤ z ∧ z ≤ 5000000000000 := by omega
    clear hz
    go_upto_region 5 with fail
    rw [HW3.out]
    go_wp2_with fail
    rw [← ha]
    go_roundg (n - (j + 1))
    case rel => exact ⟨j + 1, z, by omega, rfl, by go_num, rfl, by rw [HUD.out]; exact HZN.out, HAL.out⟩
    case measure => omega
   ·rw [if_pos rfl] at hz
    have HZN : Hid (z - f.size = tot + ud) := Lib.hid (by omega)
    have hzb : -5000000000000 ≤ z ∧ z ≤ 5001000000000 := by omega
    clear hz
    go_upto_region 5 with fail
    rw [HW3.out]
    go_wp2_with (go_at_call 76; (with_reducible refine HFF.out.mono ?_); rintro e w4 ⟨rfl, hB4⟩)
    rw [← ha]
    go_roundg (n - (j + 1))
    case rel => exact ⟨j + 1, z - f.size, by omega, rfl, by go_num, rfl, by rw [HUD.out]; exact HZN.out, below_allocs (below_up HAL.out hB4) _⟩
    case measure => omega
  ·obtain rfl : j = n := by omega
   have hz2 : z = tot := by
    rw [hz, List.drop_eq_nil_of_le (by rw [HN.out]; exact Nat.le_refl _)]; simp [St.used]
   have HZ2 := Lib.hid hz2
   clear hz hz2
   go_wp2_with fail
   go_ret
   exact ⟨ret_int HZ2.out, below_up HB1.out hB⟩
end Go.Proofs.YthdiccdnggloiaaGreatDoor
namespace Go.Proofs.YthdiccdnggloiaaGreatDoor
open Go.RowKit
namespace Hx
def hx (n : Nat) : UInt8 := if n < 10 then UInt8.ofNat (48 + n) else UInt8.ofNat (87 + n)
def low : Nat → Nat → List UInt8
 | _, 0 => []
 | n, k + 1 => low (n / 16) k ++ [hx (n % 16)]
end Hx
namespace Hx
end Hx
def Hx.cells (L : List UInt8) : List Value := L.map fun x => Value.int .u8 (x.toNat : Int)
theorem Hx.put {cur : Array Value} {k : Nat} {L : List UInt8} {x : UInt8} (hk : k + 1 + L.length = 65) (hs : cur.size = 65) (hd : cur.toList.drop (k + 1) = Hx.cells L) : (cur.setIfInBounds k (.int .u8 (x.toNat : Int))).toList.drop k = Hx.cells (x :: L) := by
 rw [Array.toList_setIfInBounds]
 have hkl : k < cur.toList.length := by rw [Array.length_toList]; omega
 rw [List.drop_eq_getElem_cons (by rw [List.length_set]; exact hkl), List.getElem_set_self, List.drop_set_of_lt (by omega), hd]
 rfl
namespace Hx
def step (h : Nat) (b : UInt8) : Nat := ((h ^^^ b.toNat) * 1099511628211) % 18446744073709551616
def fnv0 : Nat := 14695981039346656037
def fnv (l : List UInt8) : Nat := l.foldl step fnv0
def dig (l : List UInt8) : ByteArray := ⟨(low (fnv l) 16).toArray⟩
end Hx
end Go.Proofs.YthdiccdnggloiaaGreatDoor
