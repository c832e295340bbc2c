/- Parts of the proof, no condition: StTlY. -/
import Derived.Test.YthdiccdnggloiaaGreatDoorEv16
import Derived.Test.YthdiccdnggloiaaGreatDoorEv17
import Derived.Test.YthdiccdnggloiaaGreatDoorTl2
import Derived.Test.YthdiccdnggloiaaGreatDoorTl3
import Derived.Test.YthdiccdnggloiaaGreatDoorTl4
import Derived.Test.YthdiccdnggloiaaGreatDoorTl5
set_option maxRecDepth 100000
set_option maxHeartbeats 16000000
set_option linter.unusedSimpArgs false
set_option linter.unusedVariables false
namespace Go.Proofs.YthdiccdnggloiaaGreatDoor
open Go.RowKit Go.Sort Go.Shelf Go.Maps
theorem storeTells_err (data tier : ByteArray) (s t : Sto) (a b : StA) (w : World) (hI : StIn w s a) (hJ : StIn w t b) (hd : data.size ≤ 9223372036854775807) (hDB : Hx.DB w) (he : St.err s ≠ 0) :
  Calls Tryz.prog 5 #[.string data, .string tier, .agg #[.int .i64 s.least, .int .i64 s.wait, .slice a.ta s.tiers.length a.tc, .slice a.fa s.files.length a.fc, .slice a.ca s.copies.length a.cc, .slice a.ha s.held.length a.hc, .slice a.ba s.bin.length a.bc], .agg #[.int .i64 t.least, .int .i64 t.wait, .slice b.ta t.tiers.length b.tc, .slice b.fa t.files.length b.fc, .slice b.ca t.copies.length b.cc, .slice b.ha t.held.length b.hc, .slice b.ba t.bin.length b.bc]] w fun e w' => e = .returned (.bool true) ∧ Below w.heap.size w w' := by
 obtain ⟨W0, hW0, hX0, hz0, hB0⟩ := box w #[.string tier] 9
 obtain ⟨W1, hW1, hX1, hz1, hB1⟩ := box W0 #[.int .i64 s.least, .int .i64 s.wait, .slice a.ta s.tiers.length a.tc, .slice a.fa s.files.length a.fc, .slice a.ca s.copies.length a.cc, .slice a.ha s.held.length a.hc, .slice a.ba s.bin.length a.bc] 28
 obtain ⟨W2, hW2, hX2, hz2, hB2⟩ := box W1 #[.int .i64 t.least, .int .i64 t.wait, .slice b.ta t.tiers.length b.tc, .slice b.fa t.files.length b.fc, .slice b.ca t.copies.length b.cc, .slice b.ha t.held.length b.hc, .slice b.ba t.bin.length b.bc] 28
 have HW0 := Lib.hid hW0; have HW1 := Lib.hid hW1; have HW2 := Lib.hid hW2
 rw [hz0] at hX1 hz1
 rw [hz1] at hX2
 have hB := below_up hB0 (below_up hB1 hB2)
 have HB := Lib.hid hB
 have HIA := Lib.hid (hI.keep hB); have HIB := Lib.hid (hJ.keep hB)
 have HDA := Lib.hid (fun V (hv : Below W2.heap.size W2 V) => Hx.db_below (Hx.db_below hDB hB) hv)
 have hx0 := (hX0.keep hB1).keep hB2
 have HX0 := Lib.hid hx0
 have hx1 := hX1.keep hB2
 have HCL : Hid (∀ V, Below W2.heap.size W2 V → (V.cell? ⟨w.heap.size + 1, 0, none⟩ = some (.int .i64 s.least) ∧ V.cell? ⟨w.heap.size + 1, 1, none⟩ = some (.int .i64 s.wait) ∧ V.cell? ⟨w.heap.size + 1, 2, none⟩ = some (.slice a.ta s.tiers.length a.tc) ∧ V.cell? ⟨w.heap.size + 1, 3, none⟩ = some (.slice a.fa s.files.length a.fc) ∧ V.cell? ⟨w.heap.size + 1, 4, none⟩ = some (.slice a.ca s.copies.length a.cc) ∧ V.cell? ⟨w.heap.size + 1, 5, none⟩ = some (.slice a.ha s.held.length a.hc) ∧ V.cell? ⟨w.heap.size + 1, 6, none⟩ = some (.slice a.ba s.bin.length a.bc)) ∧ (V.cell? ⟨w.heap.size + 2, 0, none⟩ = some (.int .i64 t.least) ∧ V.cell? ⟨w.heap.size + 2, 1, none⟩ = some (.int .i64 t.wait) ∧ V.cell? ⟨w.heap.size + 2, 2, none⟩ = some (.slice b.ta t.tiers.length b.tc) ∧ V.cell? ⟨w.heap.size + 2, 3, none⟩ = some (.slice b.fa t.files.length b.fc) ∧ V.cell? ⟨w.heap.size + 2, 4, none⟩ = some (.slice b.ca t.copies.length b.cc) ∧ V.cell? ⟨w.heap.size + 2, 5, none⟩ = some (.slice b.ha t.held.length b.hc) ∧ V.cell? ⟨w.heap.size + 2, 6, none⟩ = some (.slice b.ba t.bin.length b.bc)) ∧ V.cell? ⟨w.heap.size, 0, none⟩ = some (.string tier)) := Lib.hid fun V hv => ⟨(hx1.keep hv).seven, (hX2.keep hv).seven, (hx0.keep hv).one⟩
 have HSE := Lib.hid (fun V (hv : Below W2.heap.size W2 V) => storeError_is s a V (HIA.out.keep hv))
 have HCK := Lib.hid (fun V (hv : Below W2.heap.size W2 V) => check_is s a V (HIA.out.keep hv))
 have HDG := Lib.hid (fun V (hv : Below W2.heap.size W2 V) => digest_is data hd V (HDA.out V hv))
 have HDO := Lib.hid (fun V => digestOf_is data hd V)
 obtain ⟨sq, hsq⟩ := St.bool_of (s = t)
 have HSR := Lib.hid (fun V (hv : Below W2.heap.size W2 V) => sameR_any s t a b V (HIA.out.keep hv) (HIB.out.keep hv) sq hsq)
 have HSP := Lib.hid (fun V (hv : Below W2.heap.size W2 V) => sameP_any s t a b V (HIA.out.keep hv) (HIB.out.keep hv) sq hsq)
 have HSS := Lib.hid (fun V (hv : Below W2.heap.size W2 V) => sameP_any s s a a V (HIA.out.keep hv) (HIA.out.keep hv) true (by simp))
 have hds : ((Hx.dig data.data.toList).toList == (Hx.dig data.data.toList).toList) = true := by simp
 have hdn : ((Hx.dig data.data.toList).toList != (Hx.dig data.data.toList).toList) = false := by simp
 generalize Hx.dig data.data.toList = DG at *
 have hsn : (sq != sq) = false := by simp
 have hv : Below W2.heap.size W2 W2 := Below.refl _ _
 have hz : Below W2.heap.size W2 W2 := Below.refl _ _
 clear hW0 hW1 hW2 hX0 hX1 hX2 hz0 hz1 hz2 hB0 hB1 hB2 hB hx0 hx1 hJ hDB hsq
 obtain ⟨⟨q0, q1, q2, q3, q4, q5, q6⟩, ⟨r0, r1, r2, r3, r4, r5, r6⟩, t0⟩ := HCL.out _ hv
 have HFR := Lib.hid (fun V (hv : Below W2.heap.size W2 V) => freeS_err s a tier V (HIA.out.keep hv) he)
 have HN1 := Lib.hid (fun V (hv : Below W2.heap.size W2 V) => needS_err s a V (HIA.out.keep hv) he)
 have HN2 := Lib.hid (fun V (hv : Below W2.heap.size W2 V) => shortS_err s a V (HIA.out.keep hv) he)
 have HN3 := Lib.hid (fun V (hv : Below W2.heap.size W2 V) => lostS_err s a V (HIA.out.keep hv) he)
 have HN4 := Lib.hid (fun V (hv : Below W2.heap.size W2 V) => garbS_err s a V (HIA.out.keep hv) he)
 unfold TlErr at HN1 HN2 HN3 HN4
 generalize St.err s = q at *
 have hq1 : (q == 0) = false := by simpa using he
 have hq2 : (q == q) = true := by simp
 have hq3 : (q != q) = false := by simp
 have hq4 : (q != 0) = true := by simpa using he
 clear hI he hd
 go_enter Tryz.func5, Tryz.ntmps5
 go_upto_region 1 with fail
 rw [HW0.out, HW1.out, HW2.out]
 go_upto_region 7 with (first
  | (go_at_call 14; (with_reducible refine (HSE.out _ hv).mono ?_); rintro e wq ⟨rfl, hq⟩; have hz := below_up hz hq; have hv := below_up hv hq; obtain ⟨⟨q0, q1, q2, q3, q4, q5, q6⟩, ⟨r0, r1, r2, r3, r4, r5, r6⟩, t0⟩ := HCL.out _ hv) | (go_at_call 25; (with_reducible refine (HFR.out _ hv).mono ?_); rintro e wq ⟨rfl, hq⟩; have hz := below_up hz hq; have hv := below_up hv hq; obtain ⟨⟨q0, q1, q2, q3, q4, q5, q6⟩, ⟨r0, r1, r2, r3, r4, r5, r6⟩, t0⟩ := HCL.out _ hv)
  | (go_at_call 26; (with_reducible refine (HN1.out _ hv).mono ?_); rintro e wq ⟨rfl, hq⟩; have hz := below_up hz hq; have hv := below_up hv hq; obtain ⟨⟨q0, q1, q2, q3, q4, q5, q6⟩, ⟨r0, r1, r2, r3, r4, r5, r6⟩, t0⟩ := HCL.out _ hv)
  | (go_at_call 27; (with_reducible refine (HN2.out _ hv).mono ?_); rintro e wq ⟨rfl, hq⟩; have hz := below_up hz hq; have hv := below_up hv hq; obtain ⟨⟨q0, q1, q2, q3, q4, q5, q6⟩, ⟨r0, r1, r2, r3, r4, r5, r6⟩, t0⟩ := HCL.out _ hv)
  | (go_at_call 28; (with_reducible refine (HN3.out _ hv).mono ?_); rintro e wq ⟨rfl, hq⟩; have hz := below_up hz hq; have hv := below_up hv hq; obtain ⟨⟨q0, q1, q2, q3, q4, q5, q6⟩, ⟨r0, r1, r2, r3, r4, r5, r6⟩, t0⟩ := HCL.out _ hv)
  | (go_at_call 29; (with_reducible refine (HN4.out _ hv).mono ?_); rintro e wq ⟨rfl, hq⟩; have hz := below_up hz hq; have hv := below_up hv hq; obtain ⟨⟨q0, q1, q2, q3, q4, q5, q6⟩, ⟨r0, r1, r2, r3, r4, r5, r6⟩, t0⟩ := HCL.out _ hv))
 have hv := hv.drew
 have hz := hz.drew
 clear q0 q1 q2 q3 q4 q5 q6 r0 r1 r2 r3 r4 r5 r6 t0
 obtain ⟨⟨q0, q1, q2, q3, q4, q5, q6⟩, ⟨r0, r1, r2, r3, r4, r5, r6⟩, t0⟩ := HCL.out _ hv
 go_region_held3 (fun V => V.cell? ⟨w.heap.size + 1, 0, none⟩ = some (.int .i64 s.least) ∧ V.cell? ⟨w.heap.size + 1, 1, none⟩ = some (.int .i64 s.wait) ∧ V.cell? ⟨w.heap.size + 1, 2, none⟩ = some (.slice a.ta s.tiers.length a.tc) ∧ V.cell? ⟨w.heap.size + 1, 3, none⟩ = some (.slice a.fa s.files.length a.fc) ∧ V.cell? ⟨w.heap.size + 1, 4, none⟩ = some (.slice a.ca s.copies.length a.cc) ∧ V.cell? ⟨w.heap.size + 1, 5, none⟩ = some (.slice a.ha s.held.length a.hc) ∧ V.cell? ⟨w.heap.size + 1, 6, none⟩ = some (.slice a.ba s.bin.length a.bc) ∧ V.cell? ⟨w.heap.size + 2, 0, none⟩ = some (.int .i64 t.least) ∧ V.cell? ⟨w.heap.size + 2, 1, none⟩ = some (.int .i64 t.wait) ∧ V.cell? ⟨w.heap.size + 2, 2, none⟩ = some (.slice b.ta t.tiers.length b.tc) ∧ V.cell? ⟨w.heap.size + 2, 3, none⟩ = some (.slice b.fa t.files.length b.fc) ∧ V.cell? ⟨w.heap.size + 2, 4, none⟩ = some (.slice b.ca t.copies.length b.cc) ∧ V.cell? ⟨w.heap.size + 2, 5, none⟩ = some (.slice b.ha t.held.length b.hc) ∧ V.cell? ⟨w.heap.size + 2, 6, none⟩ = some (.slice b.ba t.bin.length b.bc))
  (first | (with_reducible exact ⟨q0, q1, q2, q3, q4, q5, q6, r0, r1, r2, r3, r4, r5, r6⟩) | go_keep)
  (first
   | (go_at_call 30; (with_reducible refine (HDG.out _ hv).mono ?_); rintro e wq ⟨rfl, hq⟩; have hz := below_up hz hq; have hv := below_up hv hq; obtain ⟨⟨q0, q1, q2, q3, q4, q5, q6⟩, ⟨r0, r1, r2, r3, r4, r5, r6⟩, t0⟩ := HCL.out _ hv)
   | (go_at_call 31; (with_reducible refine (HDO.out _).mono ?_); rintro e wq ⟨rfl, hq⟩; have hz := below_up hz hq; have hv := below_up hv hq; obtain ⟨⟨q0, q1, q2, q3, q4, q5, q6⟩, ⟨r0, r1, r2, r3, r4, r5, r6⟩, t0⟩ := HCL.out _ hv)
   | (go_at_call 32; (with_reducible refine (HCK.out _ hv).mono ?_); rintro e wq ⟨rfl, hq⟩; have hz := below_up hz hq; have hv := below_up hv hq; obtain ⟨⟨q0, q1, q2, q3, q4, q5, q6⟩, ⟨r0, r1, r2, r3, r4, r5, r6⟩, t0⟩ := HCL.out _ hv)
   | (go_at_call 33; (with_reducible refine (HSP.out _ hv).mono ?_); rintro e wq ⟨rfl, hq⟩; have hz := below_up hz hq; have hv := below_up hv hq; obtain ⟨⟨q0, q1, q2, q3, q4, q5, q6⟩, ⟨r0, r1, r2, r3, r4, r5, r6⟩, t0⟩ := HCL.out _ hv)
   | (go_at_call 34; (with_reducible refine (HSR.out _ hv).mono ?_); rintro e wq ⟨rfl, hq⟩; have hz := below_up hz hq; have hv := below_up hv hq; obtain ⟨⟨q0, q1, q2, q3, q4, q5, q6⟩, ⟨r0, r1, r2, r3, r4, r5, r6⟩, t0⟩ := HCL.out _ hv)
   | (go_at_call 33; (with_reducible refine (HSS.out _ hv).mono ?_); rintro e wq ⟨rfl, hq⟩; have hz := below_up hz hq; have hv := below_up hv hq; obtain ⟨⟨q0, q1, q2, q3, q4, q5, q6⟩, ⟨r0, r1, r2, r3, r4, r5, r6⟩, t0⟩ := HCL.out _ hv)
   | fail)
 have HBZ := Lib.hid (below_up HB.out hv)
 go_wp2_with fail
 go_ret
 exact ⟨ret_bool (by simp), HBZ.out⟩

theorem telTEq_is (x : Tir) (z : ByteArray) (bk : Nat) (t : TypeId) (w : World) (hs : Blk w bk #[.string z] t) :
  Calls Tryz.prog 35 #[.agg #[.string x.name, .int .i64 x.room, .int .i64 x.cost, .bool x.away], .pointer (some ⟨bk, 0, none⟩)] w fun e w' => e = .returned (.bool (x.name.toList == z.toList)) ∧ Below w.heap.size w w' := by
 obtain ⟨W1, hW1, hA, hz1, hB1⟩ := box w #[.string x.name, .int .i64 x.room, .int .i64 x.cost, .bool x.away] 46
 have HW1 := Lib.hid hW1
 have a0 : W1.cell? ⟨w.heap.size, 0, none⟩ = some (.string x.name) := (hA.cell 0).trans rfl
 have b0 := (hs.keep hB1).one
 clear hW1 hz1
 go_enter Tryz.func35, Tryz.ntmps35
 go_upto_region 1 with fail
 rw [HW1.out]
 go_wp2_with fail
 go_ret
 exact ⟨rfl, hB1⟩
theorem telT_enters : ∀ args w, (callFunc 35 args).run Tryz.prog w = .ok (.enter 35 args) w := enters_of Tryz.func35 (by kernel_rfl) rfl
theorem telTIdx_is (L : List Tir) (sa : Option Addr) (sc : Nat) (z : ByteArray) (bk : Nat) (t : TypeId) (w : World) (hr : RowE St.eT w sa L) (hl : L.length ≤ sc ∧ sc ≤ 9223372036854775807) (hs : Blk w bk #[.string z] t) :
  Calls Tryz.prog 95 #[.slice sa L.length sc, .func (.func 35) #[] #[.pointer (some ⟨bk, 0, none⟩)]] w fun e w' => e = .returned (.int .i64 (St.idx (fun t => St.eq t.name z) L 0)) ∧ Below w.heap.size w w' := by
 have eg := telT_enters
 have HR := Lib.hid hr; have HS := Lib.hid hs
 obtain ⟨q, hq⟩ : ∃ q, St.idx (fun t => St.eq t.name z) L 0 = q := ⟨_, rfl⟩
 rw [hq]
 have HQ : Hid (St.idx (fun t => St.eq t.name z) (L.drop 0) 0 = q) := Lib.hid hq
 obtain ⟨n, hn⟩ : ∃ n, L.length = n := ⟨_, rfl⟩
 have HN := Lib.hid hn
 rw [hn] at hl ⊢
 clear hr hs hq hn
 go_enter Tryz.func95, Tryz.ntmps95
 go_wp2_with fail
 go_loopg [8] n (fun gk i wr => ∃ j : Nat, j ≤ n ∧ gk = n - j ∧ i = .int .i64 j ∧ St.idx (fun t => St.eq t.name z) (L.drop j) j = q ∧ Below w.heap.size w wr)
 case atStart => exact ⟨0, by omega, rfl, rfl, HQ.out, Below.refl _ _⟩
 case round =>
  obtain ⟨j, hj, rfl, rfl, hs, hB⟩ := hrel
  have HSC := Lib.hid hs; clear hs
  by_cases hlt : j < n
  ·obtain ⟨x, hx⟩ : ∃ x, L[j]? = some x := ⟨_, List.getElem?_eq_getElem (by rw [HN.out]; exact hlt)⟩
   (obtain ⟨b, off, ha, hb, hcell⟩ := (HR.out.keep hB) (by rw [HN.out]; omega)) <;> (have c0 : wr.cell? ⟨b, off + j * 4, none⟩ = some (.string x.name) := hcell j x hx 0 (.string x.name) rfl) <;> (have c1 : wr.cell? ⟨b, off + j * 4 + 1, none⟩ = some (.int .i64 x.room) := hcell j x hx 1 (.int .i64 x.room) rfl) <;> (have c2 : wr.cell? ⟨b, off + j * 4 + 2, none⟩ = some (.int .i64 x.cost) := hcell j x hx 2 (.int .i64 x.cost) rfl) <;> (have c3 : wr.cell? ⟨b, off + j * 4 + 3, none⟩ = some (.bool x.away) := hcell j x hx 3 (.bool x.away) rfl) <;> (clear hcell)
   have HX := Lib.hid hx
   have HC := Lib.hid (telTEq_is x z bk t wr (HS.out.keep hB))
   have hj0 : (0 : Int) ≤ (j : Int) := by omega
   have hj1 : (j : Int) < (n : Int) := by omega
   obtain ⟨bq, hbq⟩ : ∃ bq, (x.name.toList == z.toList) = bq := ⟨_, rfl⟩
   rw [hbq] at HC
   have HBQ := Lib.hid hbq
   rw [ha]
   cases bq
   ·have HE := Lib.hid (St.idx_next HSC.out HX.out HBQ.out)
    clear hx hbq
    go_wp2_with (go_at_fn 35; refine HC.out.mono ?_; rintro e w4 ⟨rfl, hB4⟩)
    rw [← ha]
    go_roundg (n - (j + 1))
    case rel => exact ⟨j + 1, by omega, rfl, by go_num, HE.out, below_up hB hB4⟩
    case measure => omega
   ·have HE := Lib.hid (St.idx_here HSC.out HX.out HBQ.out)
    clear hx hbq
    go_wp2_with (go_at_fn 35; refine HC.out.mono ?_; rintro e w4 ⟨rfl, hB4⟩)
    go_ret
    exact ⟨ret_int HE.out, below_up hB hB4⟩
  ·obtain rfl : j = n := by omega
   have HE := HSC.out
   rw [← HN.out] at HE
   have HE2 := Lib.hid (St.idx_end HE)
   clear HE
   go_wp2_with fail
   go_ret
   exact ⟨ret_int HE2.out, hB⟩
theorem telT_is (L : List Tir) (sa : Option Addr) (sc : Nat) (z : ByteArray) (bk : Nat) (t : TypeId) (w : World) (hr : RowE St.eT w sa L) (hl : L.length ≤ sc ∧ sc ≤ 9223372036854775807) (hs : Blk w bk #[.string z] t) :
  Calls Tryz.prog 21 #[.slice sa L.length sc, .func (.func 35) #[] #[.pointer (some ⟨bk, 0, none⟩)]] w fun e w' => e = .returned (.bool (decide (0 ≤ St.idx (fun t => St.eq t.name z) L 0))) ∧ Below w.heap.size w w' := by
 have HC := Lib.hid (telTIdx_is L sa sc z bk t w hr hl hs)
 go_enter Tryz.func21, Tryz.ntmps21
 go_wp2_with (go_at_call 95; (with_reducible refine HC.out.mono ?_); rintro e w4 ⟨rfl, hB4⟩)
 go_ret
 exact ⟨ret_bool (by first | rfl | simp), hB4⟩

theorem neLck (d : ByteArray) (k l : Int) (w : World) : Sem.run Tryz.prog (binOp .neq 70 (.agg #[.string d, .int .i64 k, .int .i64 l]) (.agg #[.string d, .int .i64 k, .int .i64 l])) w = .ok (.bool false) w := by
 have u3 := Tryz.underlying3
 have a3 := Tryz.isAgg3
 have z3 := Tryz.sizeOf3
 have u9 := Tryz.underlying9
 have a9 := Tryz.isAgg9
 have z9 := Tryz.sizeOf9
 have u4 := Tryz.underlying4
 have a4 := Tryz.isAgg4
 have z4 := Tryz.sizeOf4
 have hS : Tryz.prog.underlying 70 = some (.struct (Tryz.prog.fieldsOf 70)) := by kernel_rfl
 have hp : Tryz.prog.stoodInHeld 70 = false := by kernel_rfl
 rw [run_neq_struct, show (10000 : Nat) = 9999 + 1 from rfl, run_equalIn_agg w 9999 70 _ _ hS hp]
 simp only [Program.fieldsOf, Tryz.underlying70]
 go_simp
 try simp
theorem guardLck : Tryz.prog.eqGuardType Tryz.prog.depth 70 = false := by kernel_rfl
theorem eqL_same (O : List Lck) (a b : Option Addr) (ca cb : Nat) (w : World) (hx : RowE St.eL w a O) (hy : RowE St.eL w b O) (hn : O.length ≤ 9223372036854775807) :
  Calls Tryz.prog 39 #[.slice a O.length ca, .slice b O.length cb] w fun e w' => e = .returned (.bool true) ∧ Below w.heap.size w w' := by
 have HX := Lib.hid hx; have HY := Lib.hid hy
 obtain ⟨n, hnn⟩ : ∃ n, O.length = n := ⟨_, rfl⟩
 have HN := Lib.hid hnn
 rw [hnn] at hn ⊢
 have hl' : ((n : Int) == (n : Int)) = true := by simp
 clear hx hy hnn
 go_enter Tryz.func39, Tryz.ntmps39
 go_wp2_with fail
 go_loopg [13] n (fun gk i wr => ∃ j : Nat, j ≤ n ∧ gk = n - j ∧ i = .int .i64 j ∧ Below w.heap.size w wr)
 case atStart => exact ⟨0, by omega, rfl, rfl, Below.refl _ _⟩
 case round =>
  obtain ⟨j, hj, rfl, rfl, hB⟩ := hrel
  by_cases hlt : j < n
  ·obtain ⟨x, hq⟩ : ∃ x, O[j]? = some x := ⟨_, List.getElem?_eq_getElem (by rw [HN.out]; exact hlt)⟩
   obtain ⟨b1, o1, ha1, hb1, hc1⟩ := HX.out.keep hB (by rw [HN.out]; omega)
   obtain ⟨b2, o2, ha2, hb2, hc2⟩ := HY.out.keep hB (by rw [HN.out]; omega)
   have c0 : wr.cell? ⟨b1, o1 + j * 3, none⟩ = some (.string x.dig) := hc1 j x hq 0 (.string x.dig) rfl
   have c1 : wr.cell? ⟨b1, o1 + j * 3 + 1, none⟩ = some (.int .i64 x.cop) := hc1 j x hq 1 (.int .i64 x.cop) rfl
   have c2 : wr.cell? ⟨b1, o1 + j * 3 + 2, none⟩ = some (.int .i64 x.awy) := hc1 j x hq 2 (.int .i64 x.awy) rfl
   have d0 : wr.cell? ⟨b2, o2 + j * 3, none⟩ = some (.string x.dig) := hc2 j x hq 0 (.string x.dig) rfl
   have d1 : wr.cell? ⟨b2, o2 + j * 3 + 1, none⟩ = some (.int .i64 x.cop) := hc2 j x hq 1 (.int .i64 x.cop) rfl
   have d2 : wr.cell? ⟨b2, o2 + j * 3 + 2, none⟩ = some (.int .i64 x.awy) := hc2 j x hq 2 (.int .i64 x.awy) rfl
   have hj0 : (0 : Int) ≤ (j : Int) := by omega
   have hj1 : (j : Int) < (n : Int) := by omega
   have hne := neLck x.dig x.cop x.awy
   have hgd := guardLck
   clear hc1 hc2 hq
   rw [ha1, ha2]
   go_wp2_with fail
   go_quiet (fail)
   go_wp2_with fail
   rw [← ha1, ← ha2]
   go_roundg (n - (j + 1))
   case rel => exact ⟨j + 1, by omega, rfl, by go_num, below_drewN hB _⟩
   case measure => omega
  ·obtain rfl : j = n := by omega
   have hjn : ¬ ((j : Int) < (j : Int)) := by omega
   go_wp2_with fail
   go_ret
   exact ⟨rfl, hB⟩
theorem storeTells_none (data tier : ByteArray) (s t : Sto) (a b : StA) (w : World) (hI : StIn w s a) (hJ : StIn w t b) (hd : data.size ≤ 9223372036854775807) (hDB : Hx.DB w) (r : St.Right s) (hn : St.tierAt s.tiers tier < 0) :
  Calls Tryz.prog 5 #[.string data, .string tier, .agg #[.int .i64 s.least, .int .i64 s.wait, .slice a.ta s.tiers.length a.tc, .slice a.fa s.files.length a.fc, .slice a.ca s.copies.length a.cc, .slice a.ha s.held.length a.hc, .slice a.ba s.bin.length a.bc], .agg #[.int .i64 t.least, .int .i64 t.wait, .slice b.ta t.tiers.length b.tc, .slice b.fa t.files.length b.fc, .slice b.ca t.copies.length b.cc, .slice b.ha t.held.length b.hc, .slice b.ba t.bin.length b.bc]] w fun e w' => e = .returned (.bool true) ∧ Below w.heap.size w w' := by
 obtain ⟨W0, hW0, hX0, hz0, hB0⟩ := box w #[.string tier] 9
 obtain ⟨W1, hW1, hX1, hz1, hB1⟩ := box W0 #[.int .i64 s.least, .int .i64 s.wait, .slice a.ta s.tiers.length a.tc, .slice a.fa s.files.length a.fc, .slice a.ca s.copies.length a.cc, .slice a.ha s.held.length a.hc, .slice a.ba s.bin.length a.bc] 28
 obtain ⟨W2, hW2, hX2, hz2, hB2⟩ := box W1 #[.int .i64 t.least, .int .i64 t.wait, .slice b.ta t.tiers.length b.tc, .slice b.fa t.files.length b.fc, .slice b.ca t.copies.length b.cc, .slice b.ha t.held.length b.hc, .slice b.ba t.bin.length b.bc] 28
 have HW0 := Lib.hid hW0; have HW1 := Lib.hid hW1; have HW2 := Lib.hid hW2
 rw [hz0] at hX1 hz1
 rw [hz1] at hX2
 have hB := below_up hB0 (below_up hB1 hB2)
 have HB := Lib.hid hB
 have HIA := Lib.hid (hI.keep hB); have HIB := Lib.hid (hJ.keep hB)
 have HDA := Lib.hid (fun V (hv : Below W2.heap.size W2 V) => Hx.db_below (Hx.db_below hDB hB) hv)
 have hx0 := (hX0.keep hB1).keep hB2
 have HX0 := Lib.hid hx0
 have hx1 := hX1.keep hB2
 have HCL : Hid (∀ V, Below W2.heap.size W2 V → (V.cell? ⟨w.heap.size + 1, 0, none⟩ = some (.int .i64 s.least) ∧ V.cell? ⟨w.heap.size + 1, 1, none⟩ = some (.int .i64 s.wait) ∧ V.cell? ⟨w.heap.size + 1, 2, none⟩ = some (.slice a.ta s.tiers.length a.tc) ∧ V.cell? ⟨w.heap.size + 1, 3, none⟩ = some (.slice a.fa s.files.length a.fc) ∧ V.cell? ⟨w.heap.size + 1, 4, none⟩ = some (.slice a.ca s.copies.length a.cc) ∧ V.cell? ⟨w.heap.size + 1, 5, none⟩ = some (.slice a.ha s.held.length a.hc) ∧ V.cell? ⟨w.heap.size + 1, 6, none⟩ = some (.slice a.ba s.bin.length a.bc)) ∧ (V.cell? ⟨w.heap.size + 2, 0, none⟩ = some (.int .i64 t.least) ∧ V.cell? ⟨w.heap.size + 2, 1, none⟩ = some (.int .i64 t.wait) ∧ V.cell? ⟨w.heap.size + 2, 2, none⟩ = some (.slice b.ta t.tiers.length b.tc) ∧ V.cell? ⟨w.heap.size + 2, 3, none⟩ = some (.slice b.fa t.files.length b.fc) ∧ V.cell? ⟨w.heap.size + 2, 4, none⟩ = some (.slice b.ca t.copies.length b.cc) ∧ V.cell? ⟨w.heap.size + 2, 5, none⟩ = some (.slice b.ha t.held.length b.hc) ∧ V.cell? ⟨w.heap.size + 2, 6, none⟩ = some (.slice b.ba t.bin.length b.bc)) ∧ V.cell? ⟨w.heap.size, 0, none⟩ = some (.string tier)) := Lib.hid fun V hv => ⟨(hx1.keep hv).seven, (hX2.keep hv).seven, (hx0.keep hv).one⟩
 have HSE := Lib.hid (fun V (hv : Below W2.heap.size W2 V) => storeError_is s a V (HIA.out.keep hv))
 have HCK := Lib.hid (fun V (hv : Below W2.heap.size W2 V) => check_is s a V (HIA.out.keep hv))
 have HDG := Lib.hid (fun V (hv : Below W2.heap.size W2 V) => digest_is data hd V (HDA.out V hv))
 have HDO := Lib.hid (fun V => digestOf_is data hd V)
 obtain ⟨sq, hsq⟩ := St.bool_of (s = t)
 have HSR := Lib.hid (fun V (hv : Below W2.heap.size W2 V) => sameR_any s t a b V (HIA.out.keep hv) (HIB.out.keep hv) sq hsq)
 have HSP := Lib.hid (fun V (hv : Below W2.heap.size W2 V) => sameP_any s t a b V (HIA.out.keep hv) (HIB.out.keep hv) sq hsq)
 have HSS := Lib.hid (fun V (hv : Below W2.heap.size W2 V) => sameP_any s s a a V (HIA.out.keep hv) (HIA.out.keep hv) true (by simp))
 have hds : ((Hx.dig data.data.toList).toList == (Hx.dig data.data.toList).toList) = true := by simp
 have hdn : ((Hx.dig data.data.toList).toList != (Hx.dig data.data.toList).toList) = false := by simp
 generalize Hx.dig data.data.toList = DG at *
 have hsn : (sq != sq) = false := by simp
 have hv : Below W2.heap.size W2 W2 := Below.refl _ _
 have hz : Below W2.heap.size W2 W2 := Below.refl _ _
 clear hW0 hW1 hW2 hX0 hX1 hX2 hz0 hz1 hz2 hB0 hB1 hB2 hB hx0 hx1 hJ hDB hsq
 obtain ⟨⟨q0, q1, q2, q3, q4, q5, q6⟩, ⟨r0, r1, r2, r3, r4, r5, r6⟩, t0⟩ := HCL.out _ hv
 have HFR := Lib.hid (fun V (hv : Below W2.heap.size W2 V) => freeS_none s a tier V (HIA.out.keep hv) r hn)
 have HN1 := Lib.hid (fun V (hv : Below W2.heap.size W2 V) => needS_ok s a V (HIA.out.keep hv) r)
 have HN2 := Lib.hid (fun V (hv : Below W2.heap.size W2 V) => shortS_ok s a V (HIA.out.keep hv) r)
 have HN3 := Lib.hid (fun V (hv : Below W2.heap.size W2 V) => lostS_ok s a V (HIA.out.keep hv) r)
 have HN4 := Lib.hid (fun V (hv : Below W2.heap.size W2 V) => garbS_ok s a V (HIA.out.keep hv) r)
 have HM1 := Lib.hid (fun V (hv : Below W2.heap.size W2 V) => neededOfR_is s a V (HIA.out.keep hv) (St.sizes_iff.1 r.sizes).2.2.1)
 have HM2 := Lib.hid (fun V (hv : Below W2.heap.size W2 V) => shortR_is s a V (HIA.out.keep hv) r)
 have HM3 := Lib.hid (fun V (hv : Below W2.heap.size W2 V) => lostR_is s a V (HIA.out.keep hv) r)
 have HM4 := Lib.hid (fun V (hv : Below W2.heap.size W2 V) => garbageR_is s a V (HIA.out.keep hv) r)
 unfold TlOk at HN1 HN2 HN3 HN4
 unfold RowPost at HM1 HM2 HM3
 unfold CopPost at HM4
 rw [St.err_iff.2 r] at HSE HCK
 have HCT := Lib.hid (fun V bk ty (hv : Below W2.heap.size W2 V) (hs : Blk V bk #[.string tier] ty) => telT_is s.tiers a.ta a.tc tier bk ty V (HIA.out.keep hv).ti hI.tl hs)
 have HQ1 := Lib.hid (fun V g g' c c' (hx : RowE St.eS V g (St.neededL s)) (hy : RowE St.eS V g' (St.neededL s)) (hl : (St.neededL s).length ≤ c ∧ c ≤ 9223372036854775807) => eqS_same (St.neededL s) g g' c c' V hx hy (by omega))
 have HQ2 := Lib.hid (fun V g g' c c' (hx : RowE St.eL V g (St.shortC s)) (hy : RowE St.eL V g' (St.shortC s)) (hl : (St.shortC s).length ≤ c ∧ c ≤ 9223372036854775807) => eqL_same (St.shortC s) g g' c c' V hx hy (by omega))
 have HQ3 := Lib.hid (fun V g g' c c' (hx : RowE St.eS V g (St.lostL s)) (hy : RowE St.eS V g' (St.lostL s)) (hl : (St.lostL s).length ≤ c ∧ c ≤ 9223372036854775807) => eqS_same (St.lostL s) g g' c c' V hx hy (by omega))
 have HQ4 := Lib.hid (fun V g g' c c' (hx : RowE St.eC V g (St.garbageL s)) (hy : RowE St.eC V g' (St.garbageL s)) (hl : (St.garbageL s).length ≤ c ∧ c ≤ 9223372036854775807) => eqC_same (St.garbageL s) g g' c c' V hx hy (by omega))
 rw [show decide (0 ≤ St.idx (fun t => St.eq t.name tier) s.tiers 0) = false from decide_eq_false (by have : St.idx (fun t => St.eq t.name tier) s.tiers 0 < 0 := hn; omega)] at HCT
 clear hI hd r hn
 go_enter Tryz.func5, Tryz.ntmps5
 go_upto_region 1 with fail
 rw [HW0.out, HW1.out, HW2.out]
 go_upto_region 7 with (first
  | (go_at_call 14; (with_reducible refine (HSE.out _ hv).mono ?_); rintro e wq ⟨rfl, hq⟩; have hz := below_up hz hq; have hv := below_up hv hq; obtain ⟨⟨q0, q1, q2, q3, q4, q5, q6⟩, ⟨r0, r1, r2, r3, r4, r5, r6⟩, t0⟩ := HCL.out _ hv) | (go_at_call 25; (with_reducible refine (HFR.out _ hv).mono ?_); rintro e wq ⟨rfl, hq⟩; have hz := below_up hz hq; have hv := below_up hv hq; obtain ⟨⟨q0, q1, q2, q3, q4, q5, q6⟩, ⟨r0, r1, r2, r3, r4, r5, r6⟩, t0⟩ := HCL.out _ hv)
  | (go_at_call 26; (with_reducible refine (HN1.out _ hv).mono ?_); rintro e wq ⟨g1, c1, rfl, R1, l1, m1, hq⟩; have hz := below_up hz hq; have hv := below_up hv hq; obtain ⟨⟨q0, q1, q2, q3, q4, q5, q6⟩, ⟨r0, r1, r2, r3, r4, r5, r6⟩, t0⟩ := HCL.out _ hv)
  | (go_at_call 27; (with_reducible refine (HN2.out _ hv).mono ?_); rintro e wq ⟨g2, c2, rfl, R2, l2, m2, hq⟩; have R1 := R1.keep hq; have hz := below_up hz hq; have hv := below_up hv hq; obtain ⟨⟨q0, q1, q2, q3, q4, q5, q6⟩, ⟨r0, r1, r2, r3, r4, r5, r6⟩, t0⟩ := HCL.out _ hv)
  | (go_at_call 28; (with_reducible refine (HN3.out _ hv).mono ?_); rintro e wq ⟨g3, c3, rfl, R3, l3, m3, hq⟩; have R1 := R1.keep hq; have R2 := R2.keep hq; have hz := below_up hz hq; have hv := below_up hv hq; obtain ⟨⟨q0, q1, q2, q3, q4, q5, q6⟩, ⟨r0, r1, r2, r3, r4, r5, r6⟩, t0⟩ := HCL.out _ hv)
  | (go_at_call 29; (with_reducible refine (HN4.out _ hv).mono ?_); rintro e wg ⟨g4, c4, rfl, R4, l4, m4, hq⟩; have R1 := R1.keep hq; have R2 := R2.keep hq; have R3 := R3.keep hq; have hz := below_up hz hq; have hv := below_up hv hq; obtain ⟨⟨q0, q1, q2, q3, q4, q5, q6⟩, ⟨r0, r1, r2, r3, r4, r5, r6⟩, t0⟩ := HCL.out _ hv))
 have HR1 := Lib.hid R1; have HR2 := Lib.hid R2; have HR3 := Lib.hid R3; have HR4 := Lib.hid R4
 have HL := Lib.hid (And.intro (And.intro l1 m1) (And.intro (And.intro l2 m2) (And.intro (And.intro l3 m3) (And.intro l4 m4))))
 have hz : Below wg.heap.size wg wg := Below.refl _ _
 clear R1 R2 R3 R4 l1 l2 l3 l4 m1 m2 m3 m4 hq
 have hv := hv.drew
 have hz := hz.drew
 clear q0 q1 q2 q3 q4 q5 q6 r0 r1 r2 r3 r4 r5 r6 t0
 obtain ⟨⟨q0, q1, q2, q3, q4, q5, q6⟩, ⟨r0, r1, r2, r3, r4, r5, r6⟩, t0⟩ := HCL.out _ hv
 go_region_held3 (fun V => V.cell? ⟨w.heap.size + 1, 0, none⟩ = some (.int .i64 s.least) ∧ V.cell? ⟨w.heap.size + 1, 1, none⟩ = some (.int .i64 s.wait) ∧ V.cell? ⟨w.heap.size + 1, 2, none⟩ = some (.slice a.ta s.tiers.length a.tc) ∧ V.cell? ⟨w.heap.size + 1, 3, none⟩ = some (.slice a.fa s.files.length a.fc) ∧ V.cell? ⟨w.heap.size + 1, 4, none⟩ = some (.slice a.ca s.copies.length a.cc) ∧ V.cell? ⟨w.heap.size + 1, 5, none⟩ = some (.slice a.ha s.held.length a.hc) ∧ V.cell? ⟨w.heap.size + 1, 6, none⟩ = some (.slice a.ba s.bin.length a.bc) ∧ V.cell? ⟨w.heap.size + 2, 0, none⟩ = some (.int .i64 t.least) ∧ V.cell? ⟨w.heap.size + 2, 1, none⟩ = some (.int .i64 t.wait) ∧ V.cell? ⟨w.heap.size + 2, 2, none⟩ = some (.slice b.ta t.tiers.length b.tc) ∧ V.cell? ⟨w.heap.size + 2, 3, none⟩ = some (.slice b.fa t.files.length b.fc) ∧ V.cell? ⟨w.heap.size + 2, 4, none⟩ = some (.slice b.ca t.copies.length b.cc) ∧ V.cell? ⟨w.heap.size + 2, 5, none⟩ = some (.slice b.ha t.held.length b.hc) ∧ V.cell? ⟨w.heap.size + 2, 6, none⟩ = some (.slice b.ba t.bin.length b.bc))
  (first | (with_reducible exact ⟨q0, q1, q2, q3, q4, q5, q6, r0, r1, r2, r3, r4, r5, r6⟩) | go_keep)
  (first
   | (go_at_call 30; (with_reducible refine (HDG.out _ hv).mono ?_); rintro e wq ⟨rfl, hq⟩; have hz := below_up hz hq; have hv := below_up hv hq; obtain ⟨⟨q0, q1, q2, q3, q4, q5, q6⟩, ⟨r0, r1, r2, r3, r4, r5, r6⟩, t0⟩ := HCL.out _ hv)
   | (go_at_call 31; (with_reducible refine (HDO.out _).mono ?_); rintro e wq ⟨rfl, hq⟩; have hz := below_up hz hq; have hv := below_up hv hq; obtain ⟨⟨q0, q1, q2, q3, q4, q5, q6⟩, ⟨r0, r1, r2, r3, r4, r5, r6⟩, t0⟩ := HCL.out _ hv)
   | (go_at_call 32; (with_reducible refine (HCK.out _ hv).mono ?_); rintro e wq ⟨rfl, hq⟩; have hz := below_up hz hq; have hv := below_up hv hq; obtain ⟨⟨q0, q1, q2, q3, q4, q5, q6⟩, ⟨r0, r1, r2, r3, r4, r5, r6⟩, t0⟩ := HCL.out _ hv)
   | (go_at_call 33; (with_reducible refine (HSP.out _ hv).mono ?_); rintro e wq ⟨rfl, hq⟩; have hz := below_up hz hq; have hv := below_up hv hq; obtain ⟨⟨q0, q1, q2, q3, q4, q5, q6⟩, ⟨r0, r1, r2, r3, r4, r5, r6⟩, t0⟩ := HCL.out _ hv)
   | (go_at_call 34; (with_reducible refine (HSR.out _ hv).mono ?_); rintro e wq ⟨rfl, hq⟩; have hz := below_up hz hq; have hv := below_up hv hq; obtain ⟨⟨q0, q1, q2, q3, q4, q5, q6⟩, ⟨r0, r1, r2, r3, r4, r5, r6⟩, t0⟩ := HCL.out _ hv)
   | (go_at_call 33; (with_reducible refine (HSS.out _ hv).mono ?_); rintro e wq ⟨rfl, hq⟩; have hz := below_up hz hq; have hv := below_up hv hq; obtain ⟨⟨q0, q1, q2, q3, q4, q5, q6⟩, ⟨r0, r1, r2, r3, r4, r5, r6⟩, t0⟩ := HCL.out _ hv)
   | fail)
 have HBZ := Lib.hid (fun V (h : Below W2.heap.size W2 V) => below_up HB.out h)
 go_wp2_with (first
  | (go_at_call 21; (with_reducible refine (HCT.out _ w.heap.size _ hv (HX0.out.keep hv)).mono ?_); rintro e wq ⟨rfl, hq⟩; have hz := below_up hz hq; have hv := below_up hv hq; obtain ⟨⟨q0, q1, q2, q3, q4, q5, q6⟩, ⟨r0, r1, r2, r3, r4, r5, r6⟩, t0⟩ := HCL.out _ hv)
  | (go_at_call 38; (with_reducible refine (HM1.out _ hv).mono ?_); rintro e wq ⟨h1, d1, rfl, S1, _, _, hq⟩; have hz := below_up hz hq; have hv := below_up hv hq; obtain ⟨⟨q0, q1, q2, q3, q4, q5, q6⟩, ⟨r0, r1, r2, r3, r4, r5, r6⟩, t0⟩ := HCL.out _ hv) | (go_at_call 37; (with_reducible refine (HQ1.out _ g1 h1 c1 d1 (HR1.out.keep hz) S1 HL.out.1).mono ?_); rintro e wq ⟨rfl, hq⟩; have hz := below_up hz hq; have hv := below_up hv hq; obtain ⟨⟨q0, q1, q2, q3, q4, q5, q6⟩, ⟨r0, r1, r2, r3, r4, r5, r6⟩, t0⟩ := HCL.out _ hv) | (go_at_call 40; (with_reducible refine (HM2.out _ hv).mono ?_); rintro e wq ⟨h2, d2, rfl, S2, _, _, hq⟩; have hz := below_up hz hq; have hv := below_up hv hq; obtain ⟨⟨q0, q1, q2, q3, q4, q5, q6⟩, ⟨r0, r1, r2, r3, r4, r5, r6⟩, t0⟩ := HCL.out _ hv) | (go_at_call 39; (with_reducible refine (HQ2.out _ g2 h2 c2 d2 (HR2.out.keep hz) S2 HL.out.2.1).mono ?_); rintro e wq ⟨rfl, hq⟩; have hz := below_up hz hq; have hv := below_up hv hq; obtain ⟨⟨q0, q1, q2, q3, q4, q5, q6⟩, ⟨r0, r1, r2, r3, r4, r5, r6⟩, t0⟩ := HCL.out _ hv) | (go_at_call 41; (with_reducible refine (HM3.out _ hv).mono ?_); rintro e wq ⟨h3, d3, rfl, S3, _, _, hq⟩; have hz := below_up hz hq; have hv := below_up hv hq; obtain ⟨⟨q0, q1, q2, q3, q4, q5, q6⟩, ⟨r0, r1, r2, r3, r4, r5, r6⟩, t0⟩ := HCL.out _ hv) | (go_at_call 37; (with_reducible refine (HQ3.out _ g3 h3 c3 d3 (HR3.out.keep hz) S3 HL.out.2.2.1).mono ?_); rintro e wq ⟨rfl, hq⟩; have hz := below_up hz hq; have hv := below_up hv hq; obtain ⟨⟨q0, q1, q2, q3, q4, q5, q6⟩, ⟨r0, r1, r2, r3, r4, r5, r6⟩, t0⟩ := HCL.out _ hv) | (go_at_call 43; (with_reducible refine (HM4.out _ hv).mono ?_); rintro e wq ⟨h4, d4, rfl, S4, hq⟩; have hz := below_up hz hq; have hv := below_up hv hq; obtain ⟨⟨q0, q1, q2, q3, q4, q5, q6⟩, ⟨r0, r1, r2, r3, r4, r5, r6⟩, t0⟩ := HCL.out _ hv) | (go_at_call 42; (with_reducible refine (HQ4.out _ g4 h4 c4 d4 (HR4.out.keep hz) (RowE.ofV (E := St.eC) (ca := d4) S4) HL.out.2.2.2).mono ?_); rintro e wq ⟨rfl, hq⟩; have hz := below_up hz hq; have hv := below_up hv hq; obtain ⟨⟨q0, q1, q2, q3, q4, q5, q6⟩, ⟨r0, r1, r2, r3, r4, r5, r6⟩, t0⟩ := HCL.out _ hv))
 go_ret
 exact ⟨ret_bool (by simp), HBZ.out _ hv⟩
theorem storeTells_ok (data tier : ByteArray) (s t : Sto) (a b : StA) (w : World) (hI : StIn w s a) (hJ : StIn w t b) (hd : data.size ≤ 9223372036854775807) (hDB : Hx.DB w) (r : St.Right s) (x : Tir) (hx : x.name = tier) (k : Nat) (hk : s.tiers[k]? = some x) (hka : St.tierAt s.tiers tier = (k : Int)) :
  Calls Tryz.prog 5 #[.string data, .string tier, .agg #[.int .i64 s.least, .int .i64 s.wait, .slice a.ta s.tiers.length a.tc, .slice a.fa s.files.length a.fc, .slice a.ca s.copies.length a.cc, .slice a.ha s.held.length a.hc, .slice a.ba s.bin.length a.bc], .agg #[.int .i64 t.least, .int .i64 t.wait, .slice b.ta t.tiers.length b.tc, .slice b.fa t.files.length b.fc, .slice b.ca t.copies.length b.cc, .slice b.ha t.held.length b.hc, .slice b.ba t.bin.length b.bc]] w fun e w' => e = .returned (.bool true) ∧ Below w.heap.size w w' := by
 obtain ⟨W0, hW0, hX0, hz0, hB0⟩ := box w #[.string tier] 9
 obtain ⟨W1, hW1, hX1, hz1, hB1⟩ := box W0 #[.int .i64 s.least, .int .i64 s.wait, .slice a.ta s.tiers.length a.tc, .slice a.fa s.files.length a.fc, .slice a.ca s.copies.length a.cc, .slice a.ha s.held.length a.hc, .slice a.ba s.bin.length a.bc] 28
 obtain ⟨W2, hW2, hX2, hz2, hB2⟩ := box W1 #[.int .i64 t.least, .int .i64 t.wait, .slice b.ta t.tiers.length b.tc, .slice b.fa t.files.length b.fc, .slice b.ca t.copies.length b.cc, .slice b.ha t.held.length b.hc, .slice b.ba t.bin.length b.bc] 28
 have HW0 := Lib.hid hW0; have HW1 := Lib.hid hW1; have HW2 := Lib.hid hW2
 rw [hz0] at hX1 hz1
 rw [hz1] at hX2
 have hB := below_up hB0 (below_up hB1 hB2)
 have HB := Lib.hid hB
 have HIA := Lib.hid (hI.keep hB); have HIB := Lib.hid (hJ.keep hB)
 have HDA := Lib.hid (fun V (hv : Below W2.heap.size W2 V) => Hx.db_below (Hx.db_below hDB hB) hv)
 have hx0 := (hX0.keep hB1).keep hB2
 have HX0 := Lib.hid hx0
 have hx1 := hX1.keep hB2
 have HCL : Hid (∀ V, Below W2.heap.size W2 V → (V.cell? ⟨w.heap.size + 1, 0, none⟩ = some (.int .i64 s.least) ∧ V.cell? ⟨w.heap.size + 1, 1, none⟩ = some (.int .i64 s.wait) ∧ V.cell? ⟨w.heap.size + 1, 2, none⟩ = some (.slice a.ta s.tiers.length a.tc) ∧ V.cell? ⟨w.heap.size + 1, 3, none⟩ = some (.slice a.fa s.files.length a.fc) ∧ V.cell? ⟨w.heap.size + 1, 4, none⟩ = some (.slice a.ca s.copies.length a.cc) ∧ V.cell? ⟨w.heap.size + 1, 5, none⟩ = some (.slice a.ha s.held.length a.hc) ∧ V.cell? ⟨w.heap.size + 1, 6, none⟩ = some (.slice a.ba s.bin.length a.bc)) ∧ (V.cell? ⟨w.heap.size + 2, 0, none⟩ = some (.int .i64 t.least) ∧ V.cell? ⟨w.heap.size + 2, 1, none⟩ = some (.int .i64 t.wait) ∧ V.cell? ⟨w.heap.size + 2, 2, none⟩ = some (.slice b.ta t.tiers.length b.tc) ∧ V.cell? ⟨w.heap.size + 2, 3, none⟩ = some (.slice b.fa t.files.length b.fc) ∧ V.cell? ⟨w.heap.size + 2, 4, none⟩ = some (.slice b.ca t.copies.length b.cc) ∧ V.cell? ⟨w.heap.size + 2, 5, none⟩ = some (.slice b.ha t.held.length b.hc) ∧ V.cell? ⟨w.heap.size + 2, 6, none⟩ = some (.slice b.ba t.bin.length b.bc)) ∧ V.cell? ⟨w.heap.size, 0, none⟩ = some (.string tier)) := Lib.hid fun V hv => ⟨(hx1.keep hv).seven, (hX2.keep hv).seven, (hx0.keep hv).one⟩
 have HSE := Lib.hid (fun V (hv : Below W2.heap.size W2 V) => storeError_is s a V (HIA.out.keep hv))
 have HCK := Lib.hid (fun V (hv : Below W2.heap.size W2 V) => check_is s a V (HIA.out.keep hv))
 have HDG := Lib.hid (fun V (hv : Below W2.heap.size W2 V) => digest_is data hd V (HDA.out V hv))
 have HDO := Lib.hid (fun V => digestOf_is data hd V)
 obtain ⟨sq, hsq⟩ := St.bool_of (s = t)
 have HSR := Lib.hid (fun V (hv : Below W2.heap.size W2 V) => sameR_any s t a b V (HIA.out.keep hv) (HIB.out.keep hv) sq hsq)
 have HSP := Lib.hid (fun V (hv : Below W2.heap.size W2 V) => sameP_any s t a b V (HIA.out.keep hv) (HIB.out.keep hv) sq hsq)
 have HSS := Lib.hid (fun V (hv : Below W2.heap.size W2 V) => sameP_any s s a a V (HIA.out.keep hv) (HIA.out.keep hv) true (by simp))
 have hds : ((Hx.dig data.data.toList).toList == (Hx.dig data.data.toList).toList) = true := by simp
 have hdn : ((Hx.dig data.data.toList).toList != (Hx.dig data.data.toList).toList) = false := by simp
 generalize Hx.dig data.data.toList = DG at *
 have hsn : (sq != sq) = false := by simp
 have hv : Below W2.heap.size W2 W2 := Below.refl _ _
 have hz : Below W2.heap.size W2 W2 := Below.refl _ _
 clear hW0 hW1 hW2 hX0 hX1 hX2 hz0 hz1 hz2 hB0 hB1 hB2 hB hx0 hx1 hJ hDB hsq
 obtain ⟨⟨q0, q1, q2, q3, q4, q5, q6⟩, ⟨r0, r1, r2, r3, r4, r5, r6⟩, t0⟩ := HCL.out _ hv
 have hkx : St.tierAt s.tiers x.name = (k : Int) := by rw [hx]; exact hka
 have HFR := Lib.hid (fun V (hv : Below W2.heap.size W2 V) => freeS_ok s a x k hk hkx V (HIA.out.keep hv) r)
 have HFI := Lib.hid (fun V (hv : Below W2.heap.size W2 V) => freeIn_is s a x k hk hkx V (HIA.out.keep hv) (St.szs_of (F := s.files) (fun f hf => (r.dig f hf).2)) (St.sizes_iff.1 r.sizes).2.2.2.1 (St.tier_good r (List.mem_of_getElem? hk)).2.1)
 rw [hx] at HFR HFI
 have HN1 := Lib.hid (fun V (hv : Below W2.heap.size W2 V) => needS_ok s a V (HIA.out.keep hv) r)
 have HN2 := Lib.hid (fun V (hv : Below W2.heap.size W2 V) => shortS_ok s a V (HIA.out.keep hv) r)
 have HN3 := Lib.hid (fun V (hv : Below W2.heap.size W2 V) => lostS_ok s a V (HIA.out.keep hv) r)
 have HN4 := Lib.hid (fun V (hv : Below W2.heap.size W2 V) => garbS_ok s a V (HIA.out.keep hv) r)
 have HM1 := Lib.hid (fun V (hv : Below W2.heap.size W2 V) => neededOfR_is s a V (HIA.out.keep hv) (St.sizes_iff.1 r.sizes).2.2.1)
 have HM2 := Lib.hid (fun V (hv : Below W2.heap.size W2 V) => shortR_is s a V (HIA.out.keep hv) r)
 have HM3 := Lib.hid (fun V (hv : Below W2.heap.size W2 V) => lostR_is s a V (HIA.out.keep hv) r)
 have HM4 := Lib.hid (fun V (hv : Below W2.heap.size W2 V) => garbageR_is s a V (HIA.out.keep hv) r)
 unfold TlOk at HN1 HN2 HN3 HN4
 unfold RowPost at HM1 HM2 HM3
 unfold CopPost at HM4
 rw [St.err_iff.2 r] at HSE HCK
 have HCT := Lib.hid (fun V bk ty (hv : Below W2.heap.size W2 V) (hs : Blk V bk #[.string tier] ty) => telT_is s.tiers a.ta a.tc tier bk ty V (HIA.out.keep hv).ti hI.tl hs)
 have HQ1 := Lib.hid (fun V g g' c c' (hx : RowE St.eS V g (St.neededL s)) (hy : RowE St.eS V g' (St.neededL s)) (hl : (St.neededL s).length ≤ c ∧ c ≤ 9223372036854775807) => eqS_same (St.neededL s) g g' c c' V hx hy (by omega))
 have HQ2 := Lib.hid (fun V g g' c c' (hx : RowE St.eL V g (St.shortC s)) (hy : RowE St.eL V g' (St.shortC s)) (hl : (St.shortC s).length ≤ c ∧ c ≤ 9223372036854775807) => eqL_same (St.shortC s) g g' c c' V hx hy (by omega))
 have HQ3 := Lib.hid (fun V g g' c c' (hx : RowE St.eS V g (St.lostL s)) (hy : RowE St.eS V g' (St.lostL s)) (hl : (St.lostL s).length ≤ c ∧ c ≤ 9223372036854775807) => eqS_same (St.lostL s) g g' c c' V hx hy (by omega))
 have HQ4 := Lib.hid (fun V g g' c c' (hx : RowE St.eC V g (St.garbageL s)) (hy : RowE St.eC V g' (St.garbageL s)) (hl : (St.garbageL s).length ≤ c ∧ c ≤ 9223372036854775807) => eqC_same (St.garbageL s) g g' c c' V hx hy (by omega))
 rw [show decide (0 ≤ St.idx (fun t => St.eq t.name tier) s.tiers 0) = true from decide_eq_true (by have h : St.tierAt s.tiers tier = (k : Int) := hka; unfold St.tierAt at h; rw [h]; omega)] at HCT
 obtain ⟨fq, hfq⟩ : ∃ fq, x.room - St.used s.files tier s.copies = fq := ⟨_, rfl⟩
 rw [hfq] at HFR HFI
 have hfn : (fq != fq) = false := by simp
 clear hI hd r hk hka hkx hx hfq
 go_enter Tryz.func5, Tryz.ntmps5
 go_upto_region 1 with fail
 rw [HW0.out, HW1.out, HW2.out]
 go_upto_region 7 with (first
  | (go_at_call 14; (with_reducible refine (HSE.out _ hv).mono ?_); rintro e wq ⟨rfl, hq⟩; have hz := below_up hz hq; have hv := below_up hv hq; obtain ⟨⟨q0, q1, q2, q3, q4, q5, q6⟩, ⟨r0, r1, r2, r3, r4, r5, r6⟩, t0⟩ := HCL.out _ hv) | (go_at_call 25; (with_reducible refine (HFR.out _ hv).mono ?_); rintro e wq ⟨rfl, hq⟩; have hz := below_up hz hq; have hv := below_up hv hq; obtain ⟨⟨q0, q1, q2, q3, q4, q5, q6⟩, ⟨r0, r1, r2, r3, r4, r5, r6⟩, t0⟩ := HCL.out _ hv)
  | (go_at_call 26; (with_reducible refine (HN1.out _ hv).mono ?_); rintro e wq ⟨g1, c1, rfl, R1, l1, m1, hq⟩; have hz := below_up hz hq; have hv := below_up hv hq; obtain ⟨⟨q0, q1, q2, q3, q4, q5, q6⟩, ⟨r0, r1, r2, r3, r4, r5, r6⟩, t0⟩ := HCL.out _ hv)
  | (go_at_call 27; (with_reducible refine (HN2.out _ hv).mono ?_); rintro e wq ⟨g2, c2, rfl, R2, l2, m2, hq⟩; have R1 := R1.keep hq; have hz := below_up hz hq; have hv := below_up hv hq; obtain ⟨⟨q0, q1, q2, q3, q4, q5, q6⟩, ⟨r0, r1, r2, r3, r4, r5, r6⟩, t0⟩ := HCL.out _ hv)
  | (go_at_call 28; (with_reducible refine (HN3.out _ hv).mono ?_); rintro e wq ⟨g3, c3, rfl, R3, l3, m3, hq⟩; have R1 := R1.keep hq; have R2 := R2.keep hq; have hz := below_up hz hq; have hv := below_up hv hq; obtain ⟨⟨q0, q1, q2, q3, q4, q5, q6⟩, ⟨r0, r1, r2, r3, r4, r5, r6⟩, t0⟩ := HCL.out _ hv)
  | (go_at_call 29; (with_reducible refine (HN4.out _ hv).mono ?_); rintro e wg ⟨g4, c4, rfl, R4, l4, m4, hq⟩; have R1 := R1.keep hq; have R2 := R2.keep hq; have R3 := R3.keep hq; have hz := below_up hz hq; have hv := below_up hv hq; obtain ⟨⟨q0, q1, q2, q3, q4, q5, q6⟩, ⟨r0, r1, r2, r3, r4, r5, r6⟩, t0⟩ := HCL.out _ hv))
 have HR1 := Lib.hid R1; have HR2 := Lib.hid R2; have HR3 := Lib.hid R3; have HR4 := Lib.hid R4
 have HL := Lib.hid (And.intro (And.intro l1 m1) (And.intro (And.intro l2 m2) (And.intro (And.intro l3 m3) (And.intro l4 m4))))
 have hz : Below wg.heap.size wg wg := Below.refl _ _
 clear R1 R2 R3 R4 l1 l2 l3 l4 m1 m2 m3 m4 hq
 have hv := hv.drew
 have hz := hz.drew
 clear q0 q1 q2 q3 q4 q5 q6 r0 r1 r2 r3 r4 r5 r6 t0
 obtain ⟨⟨q0, q1, q2, q3, q4, q5, q6⟩, ⟨r0, r1, r2, r3, r4, r5, r6⟩, t0⟩ := HCL.out _ hv
 go_region_held3 (fun V => V.cell? ⟨w.heap.size + 1, 0, none⟩ = some (.int .i64 s.least) ∧ V.cell? ⟨w.heap.size + 1, 1, none⟩ = some (.int .i64 s.wait) ∧ V.cell? ⟨w.heap.size + 1, 2, none⟩ = some (.slice a.ta s.tiers.length a.tc) ∧ V.cell? ⟨w.heap.size + 1, 3, none⟩ = some (.slice a.fa s.files.length a.fc) ∧ V.cell? ⟨w.heap.size + 1, 4, none⟩ = some (.slice a.ca s.copies.length a.cc) ∧ V.cell? ⟨w.heap.size + 1, 5, none⟩ = some (.slice a.ha s.held.length a.hc) ∧ V.cell? ⟨w.heap.size + 1, 6, none⟩ = some (.slice a.ba s.bin.length a.bc) ∧ V.cell? ⟨w.heap.size + 2, 0, none⟩ = some (.int .i64 t.least) ∧ V.cell? ⟨w.heap.size + 2, 1, none⟩ = some (.int .i64 t.wait) ∧ V.cell? ⟨w.heap.size + 2, 2, none⟩ = some (.slice b.ta t.tiers.length b.tc) ∧ V.cell? ⟨w.heap.size + 2, 3, none⟩ = some (.slice b.fa t.files.length b.fc) ∧ V.cell? ⟨w.heap.size + 2, 4, none⟩ = some (.slice b.ca t.copies.length b.cc) ∧ V.cell? ⟨w.heap.size + 2, 5, none⟩ = some (.slice b.ha t.held.length b.hc) ∧ V.cell? ⟨w.heap.size + 2, 6, none⟩ = some (.slice b.ba t.bin.length b.bc))
  (first | (with_reducible exact ⟨q0, q1, q2, q3, q4, q5, q6, r0, r1, r2, r3, r4, r5, r6⟩) | go_keep)
  (first
   | (go_at_call 30; (with_reducible refine (HDG.out _ hv).mono ?_); rintro e wq ⟨rfl, hq⟩; have hz := below_up hz hq; have hv := below_up hv hq; obtain ⟨⟨q0, q1, q2, q3, q4, q5, q6⟩, ⟨r0, r1, r2, r3, r4, r5, r6⟩, t0⟩ := HCL.out _ hv)
   | (go_at_call 31; (with_reducible refine (HDO.out _).mono ?_); rintro e wq ⟨rfl, hq⟩; have hz := below_up hz hq; have hv := below_up hv hq; obtain ⟨⟨q0, q1, q2, q3, q4, q5, q6⟩, ⟨r0, r1, r2, r3, r4, r5, r6⟩, t0⟩ := HCL.out _ hv)
   | (go_at_call 32; (with_reducible refine (HCK.out _ hv).mono ?_); rintro e wq ⟨rfl, hq⟩; have hz := below_up hz hq; have hv := below_up hv hq; obtain ⟨⟨q0, q1, q2, q3, q4, q5, q6⟩, ⟨r0, r1, r2, r3, r4, r5, r6⟩, t0⟩ := HCL.out _ hv)
   | (go_at_call 33; (with_reducible refine (HSP.out _ hv).mono ?_); rintro e wq ⟨rfl, hq⟩; have hz := below_up hz hq; have hv := below_up hv hq; obtain ⟨⟨q0, q1, q2, q3, q4, q5, q6⟩, ⟨r0, r1, r2, r3, r4, r5, r6⟩, t0⟩ := HCL.out _ hv)
   | (go_at_call 34; (with_reducible refine (HSR.out _ hv).mono ?_); rintro e wq ⟨rfl, hq⟩; have hz := below_up hz hq; have hv := below_up hv hq; obtain ⟨⟨q0, q1, q2, q3, q4, q5, q6⟩, ⟨r0, r1, r2, r3, r4, r5, r6⟩, t0⟩ := HCL.out _ hv)
   | (go_at_call 33; (with_reducible refine (HSS.out _ hv).mono ?_); rintro e wq ⟨rfl, hq⟩; have hz := below_up hz hq; have hv := below_up hv hq; obtain ⟨⟨q0, q1, q2, q3, q4, q5, q6⟩, ⟨r0, r1, r2, r3, r4, r5, r6⟩, t0⟩ := HCL.out _ hv)
   | fail)
 have HBZ := Lib.hid (fun V (h : Below W2.heap.size W2 V) => below_up HB.out h)
 go_wp2_with (first
  | (go_at_call 21; (with_reducible refine (HCT.out _ w.heap.size _ hv (HX0.out.keep hv)).mono ?_); rintro e wq ⟨rfl, hq⟩; have hz := below_up hz hq; have hv := below_up hv hq; obtain ⟨⟨q0, q1, q2, q3, q4, q5, q6⟩, ⟨r0, r1, r2, r3, r4, r5, r6⟩, t0⟩ := HCL.out _ hv)
  | (go_at_call 36; (with_reducible refine (HFI.out _ hv).mono ?_); rintro e wq ⟨rfl, hq⟩; have hz := below_up hz hq; have hv := below_up hv hq; obtain ⟨⟨q0, q1, q2, q3, q4, q5, q6⟩, ⟨r0, r1, r2, r3, r4, r5, r6⟩, t0⟩ := HCL.out _ hv)
  | (go_at_call 38; (with_reducible refine (HM1.out _ hv).mono ?_); rintro e wq ⟨h1, d1, rfl, S1, _, _, hq⟩; have hz := below_up hz hq; have hv := below_up hv hq; obtain ⟨⟨q0, q1, q2, q3, q4, q5, q6⟩, ⟨r0, r1, r2, r3, r4, r5, r6⟩, t0⟩ := HCL.out _ hv) | (go_at_call 37; (with_reducible refine (HQ1.out _ g1 h1 c1 d1 (HR1.out.keep hz) S1 HL.out.1).mono ?_); rintro e wq ⟨rfl, hq⟩; have hz := below_up hz hq; have hv := below_up hv hq; obtain ⟨⟨q0, q1, q2, q3, q4, q5, q6⟩, ⟨r0, r1, r2, r3, r4, r5, r6⟩, t0⟩ := HCL.out _ hv) | (go_at_call 40; (with_reducible refine (HM2.out _ hv).mono ?_); rintro e wq ⟨h2, d2, rfl, S2, _, _, hq⟩; have hz := below_up hz hq; have hv := below_up hv hq; obtain ⟨⟨q0, q1, q2, q3, q4, q5, q6⟩, ⟨r0, r1, r2, r3, r4, r5, r6⟩, t0⟩ := HCL.out _ hv) | (go_at_call 39; (with_reducible refine (HQ2.out _ g2 h2 c2 d2 (HR2.out.keep hz) S2 HL.out.2.1).mono ?_); rintro e wq ⟨rfl, hq⟩; have hz := below_up hz hq; have hv := below_up hv hq; obtain ⟨⟨q0, q1, q2, q3, q4, q5, q6⟩, ⟨r0, r1, r2, r3, r4, r5, r6⟩, t0⟩ := HCL.out _ hv) | (go_at_call 41; (with_reducible refine (HM3.out _ hv).mono ?_); rintro e wq ⟨h3, d3, rfl, S3, _, _, hq⟩; have hz := below_up hz hq; have hv := below_up hv hq; obtain ⟨⟨q0, q1, q2, q3, q4, q5, q6⟩, ⟨r0, r1, r2, r3, r4, r5, r6⟩, t0⟩ := HCL.out _ hv) | (go_at_call 37; (with_reducible refine (HQ3.out _ g3 h3 c3 d3 (HR3.out.keep hz) S3 HL.out.2.2.1).mono ?_); rintro e wq ⟨rfl, hq⟩; have hz := below_up hz hq; have hv := below_up hv hq; obtain ⟨⟨q0, q1, q2, q3, q4, q5, q6⟩, ⟨r0, r1, r2, r3, r4, r5, r6⟩, t0⟩ := HCL.out _ hv) | (go_at_call 43; (with_reducible refine (HM4.out _ hv).mono ?_); rintro e wq ⟨h4, d4, rfl, S4, hq⟩; have hz := below_up hz hq; have hv := below_up hv hq; obtain ⟨⟨q0, q1, q2, q3, q4, q5, q6⟩, ⟨r0, r1, r2, r3, r4, r5, r6⟩, t0⟩ := HCL.out _ hv) | (go_at_call 42; (with_reducible refine (HQ4.out _ g4 h4 c4 d4 (HR4.out.keep hz) (RowE.ofV (E := St.eC) (ca := d4) S4) HL.out.2.2.2).mono ?_); rintro e wq ⟨rfl, hq⟩; have hz := below_up hz hq; have hv := below_up hv hq; obtain ⟨⟨q0, q1, q2, q3, q4, q5, q6⟩, ⟨r0, r1, r2, r3, r4, r5, r6⟩, t0⟩ := HCL.out _ hv))
 go_ret
 exact ⟨ret_bool (by simp), HBZ.out _ hv⟩
theorem St.tier_get {L : List Tir} {n : ByteArray} (h : 0 ≤ St.tierAt L n) : ∃ (k : Nat) (t : Tir), L[k]? = some t ∧ St.tierAt L n = (k : Int) ∧ t.name = n := by
 obtain ⟨j, x, h1, h2, h3, _⟩ := St.idx_some (p := fun t : Tir => St.eq t.name n) (L := L) (i := 0) rfl (show 0 ≤ St.idx (fun t : Tir => St.eq t.name n) L 0 from h)
 exact ⟨j, x, h2, by unfold St.tierAt; rw [h1]; simp, St.eq_iff.1 h3⟩
theorem storeTells_walk (data tier : ByteArray) (s t : Sto) (a b : StA) (w : World) (hI : StIn w s a) (hJ : StIn w t b) (hd : data.size ≤ 9223372036854775807) (hDB : Hx.DB w) :
  Calls Tryz.prog 5 #[.string data, .string tier, .agg #[.int .i64 s.least, .int .i64 s.wait, .slice a.ta s.tiers.length a.tc, .slice a.fa s.files.length a.fc, .slice a.ca s.copies.length a.cc, .slice a.ha s.held.length a.hc, .slice a.ba s.bin.length a.bc], .agg #[.int .i64 t.least, .int .i64 t.wait, .slice b.ta t.tiers.length b.tc, .slice b.fa t.files.length b.fc, .slice b.ca t.copies.length b.cc, .slice b.ha t.held.length b.hc, .slice b.ba t.bin.length b.bc]] w fun e w' => e = .returned (.bool true) ∧ Below w.heap.size w w' := by
 by_cases he : St.err s = 0
 ·have r := St.err_iff.1 he
  rcases Int.lt_or_le (St.tierAt s.tiers tier) 0 with hn | hn
  ·exact storeTells_none data tier s t a b w hI hJ hd hDB r hn
  ·obtain ⟨k, x, hk, hka, hx⟩ := St.tier_get hn
   exact storeTells_ok data tier s t a b w hI hJ hd hDB r x hx k hk hka
 ·exact storeTells_err data tier s t a b w hI hJ hd hDB he
end Go.Proofs.YthdiccdnggloiaaGreatDoor
