/- Parts of the proof, no condition: ExTop. -/
import Derived.Test.YtmpjnbhdlfneaaaGreatDoorEe18
import Derived.Test.YtmpjnbhdlfneaaaGreatDoorEe19
import Derived.Test.YtmpjnbhdlfneaaaGreatDoorEe20
import Derived.Test.YtmpjnbhdlfneaaaGreatDoorEe21
set_option maxRecDepth 100000
set_option maxHeartbeats 8000000
set_option linter.unusedSimpArgs false
set_option linter.unusedVariables false
namespace Go.Proofs.YtmpjnbhdlfneaaaGreatDoor
open Go.RowKit Go.Sort Go.Shelf
namespace Ex
def txt (x : Nat → Ph) : Nat → List UInt8
 | 0 => []
 | n + 1 => txt x n ++ (line (x n) ++ [10])
theorem lerr_ok {x : Nat → Ph} {n : Nat} (h : Fd.lerr x n = 0) : n ≤ 1000 ∧ ∀ i, i < n → Ok (x i) := by
 unfold Fd.lerr at h
 split at h
 ·cases h
 ·refine ⟨by omega, fun i hi => ok_of ?_⟩
  have := Fd.scan_allX _ 0 h i (by omega) (by omega)
  unfold Fd.lbad at this
  split at this
  ·assumption
  ·exact absurd this ‹_›
theorem txt_le {x : Nat → Ph} {n : Nat} (h : ∀ i, i < n → Ok (x i)) : ∀ j, j ≤ n → (txt x j).length ≤ j * 12615
 | 0, _ => by simp [txt]
 | j + 1, hj => by
   have h1 := txt_le h j (by omega)
   have h2 := line_le (h j (by omega))
   rw [txt]
   simp only [List.length_append, List.length_cons, List.length_nil]
   omega
end Ex
theorem photoLine_any (p : Ph) (w : World) (hI : p.In w) (hR : p.Room) (k : Ex.Ok p) (ht : Tx.Tab w) : Calls Tryz.prog 13 #[.agg #[.int .i64 p.id, .string p.file, .int .i64 p.mom, .int .i64 p.zone, .slice p.wa p.wn p.wc, .int .i64 p.W, .int .i64 p.H, .int .i64 p.turn, .int .i64 p.stars, .slice p.ta p.tn p.tc, .string p.cap, .slice p.pa p.pn p.pc, .bool p.hid]] w fun e w' => e = .returned (.string (Tx.mk (Ex.line p))) ∧ Below w.heap.size w w' := by
 cases hh : p.hid with
 | true => have := photoLine_hid p w hh hI hR k ht; rw [hh] at this; exact this
 | false => have := photoLine_shown p w hh hI hR k ht; rw [hh] at this; exact this
theorem bldLenX_is (b : Nat) (l : List UInt8) (w : World) (h : Bld w b l) :
  Calls Tryz.prog 14 #[.pointer (some ⟨b, 0, none⟩)] w fun e w' => e = .returned (.int .i64 (l.length : Nat)) ∧ w' = w := by
 have := Any.Builder_Len_f Lay.bLenS b b (Lib.byteCells l) w h
 rw [Lib.byteCells_length] at this
 exact this
theorem mk_nl (l : List UInt8) : (Tx.mk l ++ ⟨#[10]⟩ : ByteArray).data.toList = l ++ [10] := by
 rw [show (⟨#[10]⟩ : ByteArray) = Tx.mk [10] from rfl, Tx.mk_append]
theorem exported_is (a : Option Addr) (n ca : Nat) (x : Nat → Ph) (w : World) (hx : Phs w a n x) (hr : ∀ i, i < n → (x i).Room) (hk : ∀ i, i < n → Ex.Ok (x i)) (hn : n ≤ 1000) :
  Calls Tryz.prog 7 #[.slice a n ca] w fun e w' => e = .returned (.string (Tx.mk (Ex.txt x n))) ∧ Below w.heap.size w w' := by
 have HX := Lib.hid hx; have HKK := Lib.hid hk; have HRM := Lib.hid hr
 have HTL := Lib.hid (Ex.txt_le hk)
 clear hx hk hr
 go_enter Tryz.func7, Tryz.ntmps7
 go_wp2_with fail
 go_loopg [3, 8] n (fun gk s3 i wr => ∃ j : Nat, j ≤ n ∧ gk = n - j ∧ i = .int .i64 j ∧ s3 = .string (Tx.mk (Ex.txt x j)) ∧ Below w.heap.size w wr)
 case atStart => exact ⟨0, by omega, rfl, rfl, rfl, Below.refl _ _⟩
 case round =>
  obtain ⟨j, hj, rfl, rfl, rfl, hB⟩ := hrel
  have htl := HTL.out j hj
  have hts : (Tx.mk (Ex.txt x j)).size ≤ 12615000 := by rw [Tx.mk_size]; omega
  by_cases hlt : j < n
  ·-- photo j's cells, its box and the call's contract. : contract name; : more arguments
   have hXs := HX.out.keep hB
   obtain ⟨b, off, ha, hb, hcell⟩ := hXs.row (by omega)
   obtain ⟨c0, c1, c2, c3, c4, c5, c6, c7, c8, c9, c10, c11, c12⟩ := hcell j hlt
   have hIj := hXs.each j hlt
   have hKj := HKK.out j hlt
   have hRj := HRM.out j hlt
   obtain ⟨p, hp⟩ : ∃ p, x j = p := ⟨_, rfl⟩
   rw [hp] at c0 c1 c2 c3 c4 c5 c6 c7 c8 c9 c10 c11 c12 hIj hKj hRj
   obtain ⟨W4, hW4, hX4, hz4, hB4⟩ := box wr #[.int .i64 p.id, .string p.file, .int .i64 p.mom, .int .i64 p.zone, .slice p.wa p.wn p.wc, .int .i64 p.W, .int .i64 p.H, .int .i64 p.turn, .int .i64 p.stars, .slice p.ta p.tn p.tc, .string p.cap, .slice p.pa p.pn p.pc, .bool p.hid] 41
   have HW4 := Lib.hid hW4
   have hBa := below_up hB hB4
   obtain ⟨q0, q1, q2, q3, q4, q5, q6, q7, q8, q9, q10, q11, q12⟩ := hX4.photo
   have hl12 := Ex.line_le hKj
   have hsz : (Tx.mk (Ex.line p)).size ≤ 12614 := by rw [Tx.mk_size]; exact hl12
   have HTX : Hid (Ex.txt x (j + 1) = Ex.txt x j ++ (Ex.line p ++ [10])) := Lib.hid (by rw [Ex.txt, hp])
   have hj0 : (0 : Int) ≤ (j : Int) := by omega
   have hj1 : (j : Int) < (n : Int) := by omega
   have HPS := Lib.hid (photoString_is p W4 (hIj.keep hB4) hRj hKj)
   have HT2 : Hid (Tx.mk (Ex.txt x (j + 1)) = Tx.mk (Ex.txt x j) ++ (Tx.mk (Ex.line p) ++ ⟨#[10]⟩)) := Lib.hid (by rw [HTX.out, ← Tx.mk_append, ← Tx.mk_append])
   generalize Tx.mk (Ex.txt x j) = X1 at *
   generalize Tx.mk (Ex.line p) = X2 at *
   clear hcell hXs hIj hKj hRj hp hW4 hz4 HTX
   rw [ha]
   go_upto_region 5 with fail
   rw [HW4.out]
   go_wp2_with (go_at_call 17; (with_reducible refine HPS.out.mono ?_); rintro e w5 ⟨rfl, hq⟩)
   rw [← ha]
   go_roundg (n - (j + 1))
   case rel => exact ⟨j + 1, by omega, rfl, by go_num, by rw [HT2.out], below_up hBa hq⟩
   case measure => omega
  ·obtain rfl : n = j := by omega
   go_wp2_with fail
   go_ret
   exact ⟨rfl, hB⟩
theorem export_err (a : Option Addr) (n ca : Nat) (x : Nat → Ph) (w : World) (hx : Phs w a n x) (hF : ∀ i, i < n → (x i).Fits) (hn : n ≤ 9223372036854775807) (h0 : Fd.lerr x n ≠ 0) :
  Calls Tryz.prog 5 #[.slice a n ca] w fun e w' => e = .returned (.tuple #[.string ⟨#[]⟩, .int .i64 (Fd.lerr x n)]) ∧ Below w.heap.size w w' := by
 have HC := Lib.hid (check_is a n ca x w hx hF hn)
 have hq1 : (Fd.lerr x n != 0) = true := by simpa using h0
 generalize Fd.lerr x n = q at *
 clear hx hF h0
 go_enter Tryz.func5, Tryz.ntmps5
 go_wp2_with (go_at_call 11; (with_reducible refine HC.out.mono ?_); rintro e w2 ⟨rfl, hq⟩)
 go_ret2
 exact ⟨rfl, hq⟩
theorem export_ok (a : Option Addr) (n ca : Nat) (x : Nat → Ph) (w : World) (hx : Phs w a n x) (hF : ∀ i, i < n → (x i).Fits) (hr : ∀ i, i < n → (x i).Room) (hn : n ≤ 9223372036854775807) (ht : Tx.Tab w) (h0 : Fd.lerr x n = 0) :
  Calls Tryz.prog 5 #[.slice a n ca] w fun e w' => e = .returned (if 1000000 < (Ex.txt x n).length then .tuple #[.string ⟨#[]⟩, .int .i64 4] else .tuple #[.string (Tx.mk (Ex.txt x n)), .int .i64 0]) ∧ Below w.heap.size w w' := by
 have HC := Lib.hid (check_is a n ca x w hx hF hn)
 rw [h0] at HC
 obtain ⟨hn1, hk⟩ := Ex.lerr_ok h0
 have HX0 := Lib.hid hx; have HKK := Lib.hid hk; have HRM := Lib.hid hr
 have HTL := Lib.hid (Ex.txt_le hk); have HT0 := Lib.hid ht
 obtain ⟨RV, hRV⟩ : ∃ RV, (if 1000000 < (Ex.txt x n).length then (Value.tuple #[.string ⟨#[]⟩, .int .i64 4]) else .tuple #[.string (Tx.mk (Ex.txt x n)), .int .i64 0]) = RV := ⟨_, rfl⟩
 rw [hRV]
 have HRV := Lib.hid hRV
 clear hx hF hr hn h0 hk ht hRV
 go_enter Tryz.func5, Tryz.ntmps5
 go_upto_region 4 with (go_at_call 11; (with_reducible refine HC.out.mono ?_); rintro e w2 ⟨rfl, hq2⟩)
 obtain ⟨W3, hW3, hX3, hz3, hB3⟩ := box w2 #[.pointer none, .slice none 0 0] 36
 have HW3 := Lib.hid hW3
 have hbn := Bld.new w2
 rw [hW3] at hbn
 have HX := HX0
 have HB23 := Lib.hid (below_up hq2 hB3)
 have HQ2 := Lib.hid hq2
 have HBN := Lib.hid hbn
 obtain ⟨bb, hbb⟩ : ∃ bb, w2.heap.size = bb := ⟨_, rfl⟩
 have HBB := Lib.hid hbb
 rw [hbb] at HBN
 have HZ3 := Lib.hid hz3
 clear hW3 hX3 hz3 hB3 hq2 hbn
 go_upto_region 5 with fail
 rw [HW3.out]
 clear hbb
 go_wp2_with fail
 go_loopg [15] n (fun gk i wr => ∃ j : Nat, j ≤ n ∧ gk = n - j ∧ i = .int .i64 j ∧ Bld wr bb (Ex.txt x j) ∧ Below w.heap.size w wr)
 case atStart => exact ⟨0, by omega, rfl, rfl, HBN.out, HB23.out⟩
 case round =>
  obtain ⟨j, hj, rfl, rfl, hbl, hB⟩ := hrel
  have htl := HTL.out j hj
  have hbw : w.heap.size ≤ bb := by have := HQ2.out.size; have := HBB.out; omega
  by_cases hlt : j < n
  ·-- photo j's cells, its box and the call's contract. : contract name; : more arguments
   have hXs := HX.out.keep hB
   obtain ⟨b, off, ha, hb, hcell⟩ := hXs.row (by omega)
   obtain ⟨c0, c1, c2, c3, c4, c5, c6, c7, c8, c9, c10, c11, c12⟩ := hcell j hlt
   have hIj := hXs.each j hlt
   have hKj := HKK.out j hlt
   have hRj := HRM.out j hlt
   obtain ⟨p, hp⟩ : ∃ p, x j = p := ⟨_, rfl⟩
   rw [hp] at c0 c1 c2 c3 c4 c5 c6 c7 c8 c9 c10 c11 c12 hIj hKj hRj
   obtain ⟨W4, hW4, hX4, hz4, hB4⟩ := box wr #[.int .i64 p.id, .string p.file, .int .i64 p.mom, .int .i64 p.zone, .slice p.wa p.wn p.wc, .int .i64 p.W, .int .i64 p.H, .int .i64 p.turn, .int .i64 p.stars, .slice p.ta p.tn p.tc, .string p.cap, .slice p.pa p.pn p.pc, .bool p.hid] 41
   have HW4 := Lib.hid hW4
   have hBa := below_up hB hB4
   obtain ⟨q0, q1, q2, q3, q4, q5, q6, q7, q8, q9, q10, q11, q12⟩ := hX4.photo
   have hl12 := Ex.line_le hKj
   have hsz : (Tx.mk (Ex.line p)).size ≤ 12614 := by rw [Tx.mk_size]; exact hl12
   have HTX : Hid (Ex.txt x (j + 1) = Ex.txt x j ++ (Ex.line p ++ [10])) := Lib.hid (by rw [Ex.txt, hp])
   have hj0 : (0 : Int) ≤ (j : Int) := by omega
   have hj1 : (j : Int) < (n : Int) := by omega
   have HPL := Lib.hid (photoLine_any p W4 (hIj.keep hB4) hRj hKj (Tx.tab_below HT0.out hBa))
   have HBL := Lib.hid (hbl.keep hB4)
   have HWS := Lib.hid (fun V (hv : Below W4.heap.size W4 V) => writeStringB_is bb (Ex.txt x j) (Tx.mk (Ex.line p) ++ ⟨#[10]⟩) V (HBL.out.keep hv) (by rw [ByteArray.size_append]; have e : (⟨#[10]⟩ : ByteArray).size = 1 := rfl; omega))
   rw [mk_nl, ← HTX.out] at HWS
   generalize Tx.mk (Ex.line p) = X2 at *
   clear hcell hXs hIj hKj hRj hp hW4 hz4 hbl
   rw [ha]
   go_upto_region 8 with fail
   rw [HW4.out]
   go_wp2_with (first
    | (go_at_call 13; (with_reducible refine HPL.out.mono ?_); rintro e w5 ⟨rfl, hq5⟩)
    | (go_at_call 12; (with_reducible refine (HWS.out _ hq5).mono ?_); rintro e w6 ⟨rfl, hbl6, hq6⟩))
   rw [← ha]
   go_roundg (n - (j + 1))
   case rel => exact ⟨j + 1, by omega, rfl, by go_num, hbl6, (below_up hBa hq5).trans (hq6.mono hbw)⟩
   case measure => omega
  ·obtain rfl : n = j := by omega
   have HBL := Lib.hid (bldLenX_is bb (Ex.txt x n) wr hbl)
   have HBS := Lib.hid (bldString_is bb (Ex.txt x n) wr hbl)
   have HBW := Lib.hid hB
   clear hbl hB
   by_cases hbig : 1000000 < (Ex.txt x n).length
   ·have HRW := Lib.hid (by have := HRV.out; rwa [if_pos hbig] at this : (Value.tuple #[.string ⟨#[]⟩, .int .i64 4]) = RV)
    clear HRV
    have hb1 : (1000000 : Int) < ((Ex.txt x n).length : Int) := by omega
    generalize (Ex.txt x n).length = L at *
    go_wp2_with (go_at_call 14; (with_reducible refine HBL.out.mono ?_); rintro e w7 ⟨rfl, rfl⟩)
    go_ret2
    exact ⟨by rw [← HRW.out]; rfl, HBW.out⟩
   ·have HRW := Lib.hid (by have := HRV.out; rwa [if_neg hbig] at this : (Value.tuple #[.string (Tx.mk (Ex.txt x n)), .int .i64 0]) = RV)
    clear HRV
    have hb1 : ¬ (1000000 : Int) < ((Ex.txt x n).length : Int) := by omega
    generalize Tx.mk (Ex.txt x n) = TT at *
    generalize (Ex.txt x n).length = L at *
    go_wp2_with (first
     | (go_at_call 14; (with_reducible refine HBL.out.mono ?_); rintro e w7 ⟨rfl, rfl⟩)
     | (go_at_call 15; (with_reducible refine HBS.out.mono ?_); rintro e w8 ⟨rfl, hq8⟩))
    go_ret2
    exact ⟨by rw [← HRW.out]; rfl, HBW.out.trans (hq8.mono hbw)⟩
theorem deskExports_walk (a : Option Addr) (n ca : Nat) (x : Nat → Ph) (w : World) (hx : Phs w a n x) (hF : ∀ i, i < n → (x i).Fits) (hr : ∀ i, i < n → (x i).Room) (hn : n ≤ 9223372036854775807) (ht : Tx.Tab w) :
  Calls Tryz.prog 3 #[.slice a n ca] w fun e w' => e = .returned (.bool true) ∧ Below w.heap.size w w' := by
 have HXX := Lib.hid hx
 by_cases h0 : Fd.lerr x n = 0
 ·obtain ⟨hn1, hk⟩ := Ex.lerr_ok h0
  have HE := Lib.hid (export_ok a n ca x w hx hF hr hn ht h0)
  have HLE := Lib.hid (fun V (hv : Below w.heap.size w V) => libraryError_is a n ca x V (hx.keep hv) hF hn)
  rw [h0] at HLE
  have HEX := Lib.hid (fun V (hv : Below w.heap.size w V) => exported_is a n ca x V (hx.keep hv) hr hk hn1)
  have htl := Ex.txt_le hk n (Nat.le_refl _)
  have hsz := Tx.mk_size (Ex.txt x n)
  obtain ⟨N, hN⟩ : ∃ N, (Ex.txt x n).length = N := ⟨_, rfl⟩
  rw [hN] at HE htl hsz
  generalize Tx.mk (Ex.txt x n) = TT at *
  have hself : (TT.toList == TT.toList) = true := by simp
  clear hx hF hr hn ht h0 hk hN HXX
  by_cases hbig : 1000000 < N
  ·rw [if_pos hbig] at HE
   have hb1 : ¬ (N : Int) ≤ 1000000 := by omega
   go_enter Tryz.func3, Tryz.ntmps3
   go_wp2_with (first
    | (go_at_call 5; (with_reducible refine HE.out.mono ?_); rintro e w2 ⟨rfl, hv⟩)
    | (go_at_call 6; (with_reducible refine (HLE.out _ hv).mono ?_); rintro e w3 ⟨rfl, hq⟩; have hv := below_up hv hq)
    | (go_at_call 7; (with_reducible refine (HEX.out _ hv).mono ?_); rintro e w4 ⟨rfl, hq⟩; have hv := below_up hv hq))
   go_ret
   exact ⟨ret_bool (by simp), hv⟩
  ·rw [if_neg hbig] at HE
   have hb1 : (N : Int) ≤ 1000000 := by omega
   go_enter Tryz.func3, Tryz.ntmps3
   go_wp2_with (first
    | (go_at_call 5; (with_reducible refine HE.out.mono ?_); rintro e w2 ⟨rfl, hv⟩)
    | (go_at_call 6; (with_reducible refine (HLE.out _ hv).mono ?_); rintro e w3 ⟨rfl, hq⟩; have hv := below_up hv hq)
    | (go_at_call 7; (with_reducible refine (HEX.out _ hv).mono ?_); rintro e w4 ⟨rfl, hq⟩; have hv := below_up hv hq))
   go_ret
   exact ⟨ret_bool (by simp), hv⟩
 ·have HE := Lib.hid (export_err a n ca x w hx hF hn h0)
  have HLE := Lib.hid (fun V (hv : Below w.heap.size w V) => libraryError_is a n ca x V (hx.keep hv) hF hn)
  have hq1 : (Fd.lerr x n != 0) = true := by simpa using h0
  generalize Fd.lerr x n = q at *
  have hq2 : (q == q) = true := by simp
  clear hx hF hr hn ht h0 HXX
  go_enter Tryz.func3, Tryz.ntmps3
  go_wp2_with (first
   | (go_at_call 5; (with_reducible refine HE.out.mono ?_); rintro e w2 ⟨rfl, hv⟩)
   | (go_at_call 6; (with_reducible refine (HLE.out _ hv).mono ?_); rintro e w3 ⟨rfl, hq⟩; have hv := below_up hv hq))
  go_ret
  exact ⟨ret_bool (by simp), hv⟩
end Go.Proofs.YtmpjnbhdlfneaaaGreatDoor
