/- Parts of the proof, no condition: StCf, StRefG. -/
import Derived.Test.YthdiccdnggloiaaGreatDoorEv6
import Derived.Test.YthdiccdnggloiaaGreatDoorEv4
set_option maxRecDepth 100000
set_option maxHeartbeats 8000000
set_option linter.unusedSimpArgs false
set_option linter.unusedVariables false
namespace Go.Proofs.YthdiccdnggloiaaGreatDoor
open Go.RowKit Go.Sort Go.Shelf Go.Maps

theorem keptGEq_is (x : Gon) (z : ByteArray) (bk : Nat) (t : TypeId) (w : World) (hs : Blk w bk #[.string z] t) :
  Calls Tryz.prog 181 #[.agg #[.string x.dig, .int .i64 x.day], .pointer (some ⟨bk, 0, none⟩)] w fun e w' => e = .returned (.bool (x.dig.toList == z.toList)) ∧ Below w.heap.size w w' := by
 obtain ⟨W1, hW1, hA, hz1, hB1⟩ := box w #[.string x.dig, .int .i64 x.day] 112
 have HW1 := Lib.hid hW1
 have a0 : W1.cell? ⟨w.heap.size, 0, none⟩ = some (.string x.dig) := (hA.cell 0).trans rfl
 have b0 := (hs.keep hB1).one
 clear hW1 hz1
 go_enter Tryz.func181, Tryz.ntmps181
 go_upto_region 1 with fail
 rw [HW1.out]
 go_wp2_with fail
 go_ret
 exact ⟨rfl, hB1⟩
theorem keptG_enters : ∀ args w, (callFunc 181 args).run Tryz.prog w = .ok (.enter 181 args) w := enters_of Tryz.func181 (by kernel_rfl) rfl
theorem keptGIdx_is (L : List Gon) (sa : Option Addr) (sc : Nat) (z : ByteArray) (bk : Nat) (t : TypeId) (w : World) (hr : RowE St.eG w sa L) (hl : L.length ≤ sc ∧ sc ≤ 9223372036854775807) (hs : Blk w bk #[.string z] t) :
  Calls Tryz.prog 156 #[.slice sa L.length sc, .func (.func 181) #[] #[.pointer (some ⟨bk, 0, none⟩)]] w fun e w' => e = .returned (.int .i64 (St.idx (fun t => St.eq t.dig z) L 0)) ∧ Below w.heap.size w w' := by
 have eg := keptG_enters
 have HR := Lib.hid hr; have HS := Lib.hid hs
 obtain ⟨q, hq⟩ : ∃ q, St.idx (fun t => St.eq t.dig z) L 0 = q := ⟨_, rfl⟩
 rw [hq]
 have HQ : Hid (St.idx (fun t => St.eq t.dig z) (L.drop 0) 0 = q) := Lib.hid hq
 obtain ⟨n, hn⟩ : ∃ n, L.length = n := ⟨_, rfl⟩
 have HN := Lib.hid hn
 rw [hn] at hl ⊢
 clear hr hs hq hn
 go_enter Tryz.func156, Tryz.ntmps156
 go_wp2_with fail
 go_loopg [8] n (fun gk i wr => ∃ j : Nat, j ≤ n ∧ gk = n - j ∧ i = .int .i64 j ∧ St.idx (fun t => St.eq t.dig z) (L.drop j) j = q ∧ Below w.heap.size w wr)
 case atStart => exact ⟨0, by omega, rfl, rfl, HQ.out, Below.refl _ _⟩
 case round =>
  obtain ⟨j, hj, rfl, rfl, hs, hB⟩ := hrel
  have HSC := Lib.hid hs; clear hs
  by_cases hlt : j < n
  ·obtain ⟨x, hx⟩ : ∃ x, L[j]? = some x := ⟨_, List.getElem?_eq_getElem (by rw [HN.out]; exact hlt)⟩
   (obtain ⟨b, off, ha, hb, hcell⟩ := (HR.out.keep hB) (by rw [HN.out]; omega)) <;> (have c0 : wr.cell? ⟨b, off + j * 2, none⟩ = some (.string x.dig) := hcell j x hx 0 (.string x.dig) rfl) <;> (have c1 : wr.cell? ⟨b, off + j * 2 + 1, none⟩ = some (.int .i64 x.day) := hcell j x hx 1 (.int .i64 x.day) rfl) <;> (clear hcell)
   have HX := Lib.hid hx
   have HC := Lib.hid (keptGEq_is x z bk t wr (HS.out.keep hB))
   have hj0 : (0 : Int) ≤ (j : Int) := by omega
   have hj1 : (j : Int) < (n : Int) := by omega
   obtain ⟨bq, hbq⟩ : ∃ bq, (x.dig.toList == z.toList) = bq := ⟨_, rfl⟩
   rw [hbq] at HC
   have HBQ := Lib.hid hbq
   rw [ha]
   cases bq
   ·have HE := Lib.hid (St.idx_next HSC.out HX.out HBQ.out)
    clear hx hbq
    go_wp2_with (go_at_fn 181; refine HC.out.mono ?_; rintro e w4 ⟨rfl, hB4⟩)
    rw [← ha]
    go_roundg (n - (j + 1))
    case rel => exact ⟨j + 1, by omega, rfl, by go_num, HE.out, below_up hB hB4⟩
    case measure => omega
   ·have HE := Lib.hid (St.idx_here HSC.out HX.out HBQ.out)
    clear hx hbq
    go_wp2_with (go_at_fn 181; refine HC.out.mono ?_; rintro e w4 ⟨rfl, hB4⟩)
    go_ret
    exact ⟨ret_int HE.out, below_up hB hB4⟩
  ·obtain rfl : j = n := by omega
   have HE := HSC.out
   rw [← HN.out] at HE
   have HE2 := Lib.hid (St.idx_end HE)
   clear HE
   go_wp2_with fail
   go_ret
   exact ⟨ret_int HE2.out, hB⟩
theorem keptG_is (L : List Gon) (sa : Option Addr) (sc : Nat) (z : ByteArray) (bk : Nat) (t : TypeId) (w : World) (hr : RowE St.eG w sa L) (hl : L.length ≤ sc ∧ sc ≤ 9223372036854775807) (hs : Blk w bk #[.string z] t) :
  Calls Tryz.prog 85 #[.slice sa L.length sc, .func (.func 181) #[] #[.pointer (some ⟨bk, 0, none⟩)]] w fun e w' => e = .returned (.bool (decide (0 ≤ St.idx (fun t => St.eq t.dig z) L 0))) ∧ Below w.heap.size w w' := by
 have HC := Lib.hid (keptGIdx_is L sa sc z bk t w hr hl hs)
 go_enter Tryz.func85, Tryz.ntmps85
 go_wp2_with (go_at_call 156; (with_reducible refine HC.out.mono ?_); rintro e w4 ⟨rfl, hB4⟩)
 go_ret
 exact ⟨ret_bool (by first | rfl | simp), hB4⟩

theorem evtTEq_is (x : Tir) (z : ByteArray) (bk : Nat) (t : TypeId) (w : World) (hs : Blk w bk #[.string z] t) :
  Calls Tryz.prog 22 #[.agg #[.string x.name, .int .i64 x.room, .int .i64 x.cost, .bool x.away], .pointer (some ⟨bk, 0, none⟩)] w fun e w' => e = .returned (.bool (x.name.toList == z.toList)) ∧ Below w.heap.size w w' := by
 obtain ⟨W1, hW1, hA, hz1, hB1⟩ := box w #[.string x.name, .int .i64 x.room, .int .i64 x.cost, .bool x.away] 46
 have HW1 := Lib.hid hW1
 have a0 : W1.cell? ⟨w.heap.size, 0, none⟩ = some (.string x.name) := (hA.cell 0).trans rfl
 have b0 := (hs.keep hB1).one
 clear hW1 hz1
 go_enter Tryz.func22, Tryz.ntmps22
 go_upto_region 1 with fail
 rw [HW1.out]
 go_wp2_with fail
 go_ret
 exact ⟨rfl, hB1⟩
theorem evtT_enters : ∀ args w, (callFunc 22 args).run Tryz.prog w = .ok (.enter 22 args) w := enters_of Tryz.func22 (by kernel_rfl) rfl
theorem evtTIdx_is (L : List Tir) (sa : Option Addr) (sc : Nat) (z : ByteArray) (bk : Nat) (t : TypeId) (w : World) (hr : RowE St.eT w sa L) (hl : L.length ≤ sc ∧ sc ≤ 9223372036854775807) (hs : Blk w bk #[.string z] t) :
  Calls Tryz.prog 95 #[.slice sa L.length sc, .func (.func 22) #[] #[.pointer (some ⟨bk, 0, none⟩)]] w fun e w' => e = .returned (.int .i64 (St.idx (fun t => St.eq t.name z) L 0)) ∧ Below w.heap.size w w' := by
 have eg := evtT_enters
 have HR := Lib.hid hr; have HS := Lib.hid hs
 obtain ⟨q, hq⟩ : ∃ q, St.idx (fun t => St.eq t.name z) L 0 = q := ⟨_, rfl⟩
 rw [hq]
 have HQ : Hid (St.idx (fun t => St.eq t.name z) (L.drop 0) 0 = q) := Lib.hid hq
 obtain ⟨n, hn⟩ : ∃ n, L.length = n := ⟨_, rfl⟩
 have HN := Lib.hid hn
 rw [hn] at hl ⊢
 clear hr hs hq hn
 go_enter Tryz.func95, Tryz.ntmps95
 go_wp2_with fail
 go_loopg [8] n (fun gk i wr => ∃ j : Nat, j ≤ n ∧ gk = n - j ∧ i = .int .i64 j ∧ St.idx (fun t => St.eq t.name z) (L.drop j) j = q ∧ Below w.heap.size w wr)
 case atStart => exact ⟨0, by omega, rfl, rfl, HQ.out, Below.refl _ _⟩
 case round =>
  obtain ⟨j, hj, rfl, rfl, hs, hB⟩ := hrel
  have HSC := Lib.hid hs; clear hs
  by_cases hlt : j < n
  ·obtain ⟨x, hx⟩ : ∃ x, L[j]? = some x := ⟨_, List.getElem?_eq_getElem (by rw [HN.out]; exact hlt)⟩
   (obtain ⟨b, off, ha, hb, hcell⟩ := (HR.out.keep hB) (by rw [HN.out]; omega)) <;> (have c0 : wr.cell? ⟨b, off + j * 4, none⟩ = some (.string x.name) := hcell j x hx 0 (.string x.name) rfl) <;> (have c1 : wr.cell? ⟨b, off + j * 4 + 1, none⟩ = some (.int .i64 x.room) := hcell j x hx 1 (.int .i64 x.room) rfl) <;> (have c2 : wr.cell? ⟨b, off + j * 4 + 2, none⟩ = some (.int .i64 x.cost) := hcell j x hx 2 (.int .i64 x.cost) rfl) <;> (have c3 : wr.cell? ⟨b, off + j * 4 + 3, none⟩ = some (.bool x.away) := hcell j x hx 3 (.bool x.away) rfl) <;> (clear hcell)
   have HX := Lib.hid hx
   have HC := Lib.hid (evtTEq_is x z bk t wr (HS.out.keep hB))
   have hj0 : (0 : Int) ≤ (j : Int) := by omega
   have hj1 : (j : Int) < (n : Int) := by omega
   obtain ⟨bq, hbq⟩ : ∃ bq, (x.name.toList == z.toList) = bq := ⟨_, rfl⟩
   rw [hbq] at HC
   have HBQ := Lib.hid hbq
   rw [ha]
   cases bq
   ·have HE := Lib.hid (St.idx_next HSC.out HX.out HBQ.out)
    clear hx hbq
    go_wp2_with (go_at_fn 22; refine HC.out.mono ?_; rintro e w4 ⟨rfl, hB4⟩)
    rw [← ha]
    go_roundg (n - (j + 1))
    case rel => exact ⟨j + 1, by omega, rfl, by go_num, HE.out, below_up hB hB4⟩
    case measure => omega
   ·have HE := Lib.hid (St.idx_here HSC.out HX.out HBQ.out)
    clear hx hbq
    go_wp2_with (go_at_fn 22; refine HC.out.mono ?_; rintro e w4 ⟨rfl, hB4⟩)
    go_ret
    exact ⟨ret_int HE.out, below_up hB hB4⟩
  ·obtain rfl : j = n := by omega
   have HE := HSC.out
   rw [← HN.out] at HE
   have HE2 := Lib.hid (St.idx_end HE)
   clear HE
   go_wp2_with fail
   go_ret
   exact ⟨ret_int HE2.out, hB⟩
theorem evtT_is (L : List Tir) (sa : Option Addr) (sc : Nat) (z : ByteArray) (bk : Nat) (t : TypeId) (w : World) (hr : RowE St.eT w sa L) (hl : L.length ≤ sc ∧ sc ≤ 9223372036854775807) (hs : Blk w bk #[.string z] t) :
  Calls Tryz.prog 21 #[.slice sa L.length sc, .func (.func 22) #[] #[.pointer (some ⟨bk, 0, none⟩)]] w fun e w' => e = .returned (.bool (decide (0 ≤ St.idx (fun t => St.eq t.name z) L 0))) ∧ Below w.heap.size w w' := by
 have HC := Lib.hid (evtTIdx_is L sa sc z bk t w hr hl hs)
 go_enter Tryz.func21, Tryz.ntmps21
 go_wp2_with (go_at_call 95; (with_reducible refine HC.out.mono ?_); rintro e w4 ⟨rfl, hB4⟩)
 go_ret
 exact ⟨ret_bool (by first | rfl | simp), hB4⟩
theorem St.idx_any {α : Type} {p : α → Bool} (L : List α) : decide (0 ≤ St.idx p L 0) = L.any p := by
 cases h : L.any p with
 | false =>
   have : St.idx p L 0 < 0 := St.idx_neg.2 (fun x hx => by
    have := List.any_eq_false.1 h x hx
    simpa using this)
   exact decide_eq_false (by omega)
 | true =>
   obtain ⟨x, hx, hp⟩ := List.any_eq_true.1 h
   refine decide_eq_true ?_
   rcases Int.lt_or_le (St.idx p L 0) 0 with hn | hn
   ·have := St.idx_neg.1 hn x hx
    rw [hp] at this; cases this
   ·exact hn
theorem keptR_is (s : Sto) (a : StA) (d : ByteArray) (w : World) (hI : StIn w s a) :
  Calls Tryz.prog 120 #[.agg #[.int .i64 s.least, .int .i64 s.wait, .slice a.ta s.tiers.length a.tc, .slice a.fa s.files.length a.fc, .slice a.ca s.copies.length a.cc, .slice a.ha s.held.length a.hc, .slice a.ba s.bin.length a.bc], .string d] w fun e w' => e = .returned (.bool (St.kept s d)) ∧ Below w.heap.size w w' := by
 obtain ⟨W1, hW1, hP, hz1, hB1⟩ := box w #[.int .i64 s.least, .int .i64 s.wait, .slice a.ta s.tiers.length a.tc, .slice a.fa s.files.length a.fc, .slice a.ca s.copies.length a.cc, .slice a.ha s.held.length a.hc, .slice a.ba s.bin.length a.bc] 28
 have HW1 := Lib.hid hW1
 have HI1 := Lib.hid (hI.keep hB1)
 have q0 : W1.cell? ⟨w.heap.size, 0, none⟩ = some (.int .i64 s.least) := (hP.cell 0).trans rfl
 have q1 : W1.cell? ⟨w.heap.size, 1, none⟩ = some (.int .i64 s.wait) := (hP.cell 1).trans rfl
 have q2 : W1.cell? ⟨w.heap.size, 2, none⟩ = some (.slice a.ta s.tiers.length a.tc) := (hP.cell 2).trans rfl
 have q3 : W1.cell? ⟨w.heap.size, 3, none⟩ = some (.slice a.fa s.files.length a.fc) := (hP.cell 3).trans rfl
 have q4 : W1.cell? ⟨w.heap.size, 4, none⟩ = some (.slice a.ca s.copies.length a.cc) := (hP.cell 4).trans rfl
 have q5 : W1.cell? ⟨w.heap.size, 5, none⟩ = some (.slice a.ha s.held.length a.hc) := (hP.cell 5).trans rfl
 have q6 : W1.cell? ⟨w.heap.size, 6, none⟩ = some (.slice a.ba s.bin.length a.bc) := (hP.cell 6).trans rfl
 have HP := Lib.hid hP; have HB1 := Lib.hid hB1
 clear hW1 hP
 obtain ⟨W2, hW2, hX2, hz2, hB2⟩ := box W1 #[.string d] 9
 rw [hz1] at hX2
 have HW2 := Lib.hid hW2
 have HV := Lib.hid (below_up HB1.out hB2)
 have HCS := Lib.hid (containsS_is s.held a.ha a.hc d W2 ((HI1.out.keep hB2).he) hI.hl)
 have HCG := Lib.hid (keptG_is s.bin a.ba a.bc d (w.heap.size + 1) _ W2 ((HI1.out.keep hB2).bi) hI.bl hX2)
 rw [St.idx_any] at HCG
 have hkp : St.kept s d = (St.hasS s.held d || s.bin.any fun t => St.eq t.dig d) := rfl
 have HKP := Lib.hid hkp
 have b0 := hX2.one
 obtain ⟨p0, p1, p2, p3, p4, p5, p6⟩ := (HP.out.keep hB2).seven
 generalize St.hasS s.held d = h1 at *
 generalize (s.bin.any fun t => St.eq t.dig d) = h2 at *
 clear hI hW2 hX2 hz2 hB2 hkp q0 q1 q2 q3 q4 q5 q6
 go_enter Tryz.func120, Tryz.ntmps120
 go_upto_region 1 with fail
 rw [HW1.out, HW2.out]
 cases h1
 ·go_wp2_with (first
   | (go_at_call 49; (with_reducible refine HCS.out.mono ?_); rintro e w4 ⟨rfl, rfl⟩)
   | (go_at_call 85; (with_reducible refine HCG.out.mono ?_); rintro e w5 ⟨rfl, hB5⟩))
  go_ret
  exact ⟨ret_bool (by rw [HKP.out]; simp), below_up HV.out hB5⟩
 ·go_wp2_with (first
   | (go_at_call 49; (with_reducible refine HCS.out.mono ?_); rintro e w4 ⟨rfl, rfl⟩))
  go_ret
  exact ⟨ret_bool (by rw [HKP.out]; simp), HV.out⟩
theorem neededR_is (s : Sto) (a : StA) (f : Fil) (w : World) (hI : StIn w s a) :
  Calls Tryz.prog 116 #[.agg #[.int .i64 s.least, .int .i64 s.wait, .slice a.ta s.tiers.length a.tc, .slice a.fa s.files.length a.fc, .slice a.ca s.copies.length a.cc, .slice a.ha s.held.length a.hc, .slice a.ba s.bin.length a.bc], .agg #[.string f.dig, .int .i64 f.size, .int .i64 f.kind, .string f.frm]] w fun e w' => e = .returned (.bool (St.needed s f)) ∧ Below w.heap.size w w' := by
 obtain ⟨W1, hW1, hP, hz1, hB1⟩ := box w #[.int .i64 s.least, .int .i64 s.wait, .slice a.ta s.tiers.length a.tc, .slice a.fa s.files.length a.fc, .slice a.ca s.copies.length a.cc, .slice a.ha s.held.length a.hc, .slice a.ba s.bin.length a.bc] 28
 have HW1 := Lib.hid hW1
 have HI1 := Lib.hid (hI.keep hB1)
 have q0 : W1.cell? ⟨w.heap.size, 0, none⟩ = some (.int .i64 s.least) := (hP.cell 0).trans rfl
 have q1 : W1.cell? ⟨w.heap.size, 1, none⟩ = some (.int .i64 s.wait) := (hP.cell 1).trans rfl
 have q2 : W1.cell? ⟨w.heap.size, 2, none⟩ = some (.slice a.ta s.tiers.length a.tc) := (hP.cell 2).trans rfl
 have q3 : W1.cell? ⟨w.heap.size, 3, none⟩ = some (.slice a.fa s.files.length a.fc) := (hP.cell 3).trans rfl
 have q4 : W1.cell? ⟨w.heap.size, 4, none⟩ = some (.slice a.ca s.copies.length a.cc) := (hP.cell 4).trans rfl
 have q5 : W1.cell? ⟨w.heap.size, 5, none⟩ = some (.slice a.ha s.held.length a.hc) := (hP.cell 5).trans rfl
 have q6 : W1.cell? ⟨w.heap.size, 6, none⟩ = some (.slice a.ba s.bin.length a.bc) := (hP.cell 6).trans rfl
 have HP := Lib.hid hP; have HB1 := Lib.hid hB1
 clear hW1 hP
 obtain ⟨W2, hW2, hX2, hz2, hB2⟩ := box W1 #[.string f.dig, .int .i64 f.size, .int .i64 f.kind, .string f.frm] 30
 rw [hz1] at hX2
 have HW2 := Lib.hid hW2
 have HV := Lib.hid (below_up HB1.out hB2)
 have HKA := Lib.hid (keptR_is s a f.dig W2 (HI1.out.keep hB2))
 have HKB := Lib.hid (keptR_is s a f.frm W2 (HI1.out.keep hB2))
 have HND : Hid (St.needed s f = if f.kind = 1 then St.kept s f.dig else if f.kind = 2 then St.kept s f.frm else false) := Lib.hid rfl
 obtain ⟨b0, b1, b2, b3⟩ := hX2.four
 obtain ⟨p0, p1, p2, p3, p4, p5, p6⟩ := (HP.out.keep hB2).seven
 clear hI hW2 hX2 hz2 hB2 q0 q1 q2 q3 q4 q5 q6
 go_enter Tryz.func116, Tryz.ntmps116
 go_upto_region 1 with fail
 rw [HW1.out, HW2.out]
 by_cases h1 : f.kind = 1
 ·have hk1 : (f.kind == 1) = true := by simpa using h1
  have HE := HND.out
  rw [if_pos h1] at HE
  have HE := Lib.hid HE
  clear h1
  go_wp2_with (go_at_call 120; (with_reducible refine HKA.out.mono ?_); rintro e w4 ⟨rfl, hB4⟩)
  go_ret
  exact ⟨ret_bool HE.out.symm, below_up HV.out hB4⟩
 ·have hk1 : (f.kind == 1) = false := by simpa using h1
  by_cases h2 : f.kind = 2
  ·have hk2 : (f.kind == 2) = true := by simpa using h2
   have HE := HND.out
   rw [if_neg h1, if_pos h2] at HE
   have HE := Lib.hid HE
   clear h1 h2
   go_wp2_with (go_at_call 120; (with_reducible refine HKB.out.mono ?_); rintro e w4 ⟨rfl, hB4⟩)
   go_ret
   exact ⟨ret_bool HE.out.symm, below_up HV.out hB4⟩
  ·have hk2 : (f.kind == 2) = false := by simpa using h2
   have HE := HND.out
   rw [if_neg h1, if_neg h2] at HE
   have HE := Lib.hid HE
   clear h1 h2
   go_wp2_with fail
   go_ret
   exact ⟨ret_bool HE.out.symm, HV.out⟩
theorem copyOf_is (s : Sto) (a : StA) (d t : ByteArray) (w : World) (hI : StIn w s a) :
  Calls Tryz.prog 80 #[.agg #[.int .i64 s.least, .int .i64 s.wait, .slice a.ta s.tiers.length a.tc, .slice a.fa s.files.length a.fc, .slice a.ca s.copies.length a.cc, .slice a.ha s.held.length a.hc, .slice a.ba s.bin.length a.bc], .string d, .string t] w fun e w' => e = .returned (.int .i64 (St.copyAt s d t)) ∧ Below w.heap.size w w' := by
 obtain ⟨W1, hW1, hP, hz1, hB1⟩ := box w #[.int .i64 s.least, .int .i64 s.wait, .slice a.ta s.tiers.length a.tc, .slice a.fa s.files.length a.fc, .slice a.ca s.copies.length a.cc, .slice a.ha s.held.length a.hc, .slice a.ba s.bin.length a.bc] 28
 have HW1 := Lib.hid hW1
 have HI1 := Lib.hid (hI.keep hB1)
 have q0 : W1.cell? ⟨w.heap.size, 0, none⟩ = some (.int .i64 s.least) := (hP.cell 0).trans rfl
 have q1 : W1.cell? ⟨w.heap.size, 1, none⟩ = some (.int .i64 s.wait) := (hP.cell 1).trans rfl
 have q2 : W1.cell? ⟨w.heap.size, 2, none⟩ = some (.slice a.ta s.tiers.length a.tc) := (hP.cell 2).trans rfl
 have q3 : W1.cell? ⟨w.heap.size, 3, none⟩ = some (.slice a.fa s.files.length a.fc) := (hP.cell 3).trans rfl
 have q4 : W1.cell? ⟨w.heap.size, 4, none⟩ = some (.slice a.ca s.copies.length a.cc) := (hP.cell 4).trans rfl
 have q5 : W1.cell? ⟨w.heap.size, 5, none⟩ = some (.slice a.ha s.held.length a.hc) := (hP.cell 5).trans rfl
 have q6 : W1.cell? ⟨w.heap.size, 6, none⟩ = some (.slice a.ba s.bin.length a.bc) := (hP.cell 6).trans rfl
 have HP := Lib.hid hP; have HB1 := Lib.hid hB1
 clear hW1 hP
 have hcl := hI.cl
 obtain ⟨q, hq⟩ : ∃ q, St.copyAt s d t = q := ⟨_, rfl⟩
 rw [hq]
 have HQ : Hid (St.idx (St.isCop d t) (s.copies.drop 0) 0 = q) := Lib.hid hq
 clear q0 q1 q2 q3 q5 q6 hI hq
 obtain ⟨n, hn⟩ : ∃ n, s.copies.length = n := ⟨_, rfl⟩
 have HN := Lib.hid hn
 rw [hn] at q4 hcl HW1 ⊢
 clear hn
 go_enter Tryz.func80, Tryz.ntmps80
 go_wp2_with fail
 rw [HW1.out]
 go_wp2_with fail
 go_loopg [12] n (fun gk i wr => ∃ j : Nat, j ≤ n ∧ gk = n - j ∧ i = .int .i64 j ∧ St.idx (St.isCop d t) (s.copies.drop j) j = q ∧ Below w.heap.size w wr ∧ Below W1.heap.size W1 wr)
 case atStart => exact ⟨0, by omega, rfl, rfl, HQ.out, HB1.out, Below.refl _ _⟩
 case round =>
  obtain ⟨j, hj, rfl, rfl, hs, hB, hBW⟩ := hrel
  have HS := Lib.hid hs; clear hs
  by_cases hlt : j < n
  ·obtain ⟨x, hx⟩ : ∃ x, s.copies[j]? = some x := ⟨_, List.getElem?_eq_getElem (by rw [HN.out]; exact hlt)⟩
   obtain ⟨b, off, ha, hb, hcell⟩ := ((HI1.out.keep hBW).co) (by rw [HN.out]; omega)
   have c0 : wr.cell? ⟨b, off + j * 4, none⟩ = some (.string x.dig) := hcell j x hx 0 (.string x.dig) rfl
   have c1 : wr.cell? ⟨b, off + j * 4 + 1, none⟩ = some (.string x.tier) := hcell j x hx 1 (.string x.tier) rfl
   have c2 : wr.cell? ⟨b, off + j * 4 + 2, none⟩ = some (.bool x.good) := hcell j x hx 2 (.bool x.good) rfl
   have c3 : wr.cell? ⟨b, off + j * 4 + 3, none⟩ = some (.int .i64 x.asked) := hcell j x hx 3 (.int .i64 x.asked) rfl
   clear hcell
   have HX := Lib.hid hx
   have HAL := Lib.hid (below_allocs hB (.cells #[.string x.dig, .string x.tier, .bool x.good, .int .i64 x.asked] 74))
   have HAW := Lib.hid (below_allocs hBW (.cells #[.string x.dig, .string x.tier, .bool x.good, .int .i64 x.asked] 74))
   have hj0 : (0 : Int) ≤ (j : Int) := by omega
   have hj1 : (j : Int) < (n : Int) := by omega
   obtain ⟨bq, hbq⟩ : ∃ bq, (x.dig.toList == d.toList) = bq := ⟨_, rfl⟩
   obtain ⟨br, hbr⟩ : ∃ br, (x.tier.toList == t.toList) = br := ⟨_, rfl⟩
   have HIS : Hid (St.isCop d t x = (bq && br)) := Lib.hid (by rw [← hbq, ← hbr]; rfl)
   rw [ha]
   cases bq
   ·have HE := Lib.hid (St.idx_next HS.out HX.out (by rw [HIS.out]; rfl))
    clear hx hB hBW
    go_wp2_with fail
    rw [← ha]
    go_roundg (n - (j + 1))
    case rel => exact ⟨j + 1, by omega, rfl, by go_num, HE.out, HAL.out, HAW.out⟩
    case measure => omega
   ·cases br
    ·have HE := Lib.hid (St.idx_next HS.out HX.out (by rw [HIS.out]; rfl))
     clear hx hB hBW
     go_wp2_with fail
     rw [← ha]
     go_roundg (n - (j + 1))
     case rel => exact ⟨j + 1, by omega, rfl, by go_num, HE.out, HAL.out, HAW.out⟩
     case measure => omega
    ·have HE := Lib.hid (St.idx_here HS.out HX.out (by rw [HIS.out]; rfl))
     clear hx hB hBW
     go_wp2_with fail
     go_ret
     exact ⟨ret_int HE.out, HAL.out⟩
  ·obtain rfl : j = n := by omega
   have HE := HS.out
   rw [← HN.out] at HE
   have HE2 := Lib.hid (St.idx_end HE)
   clear HE
   go_wp2_with fail
   go_ret
   exact ⟨ret_int HE2.out, hB⟩
theorem goodOf_is (s : Sto) (a : StA) (d : ByteArray) (w : World) (hI : StIn w s a) (y1 : s.tiers.length ≤ 8) (y3 : s.copies.length ≤ 4000) :
  Calls Tryz.prog 118 #[.agg #[.int .i64 s.least, .int .i64 s.wait, .slice a.ta s.tiers.length a.tc, .slice a.fa s.files.length a.fc, .slice a.ca s.copies.length a.cc, .slice a.ha s.held.length a.hc, .slice a.ba s.bin.length a.bc], .string d] w (TirPost w (St.goodL s d)) := by
 obtain ⟨W1, hW1, hP, hz1, hB1⟩ := box w #[.int .i64 s.least, .int .i64 s.wait, .slice a.ta s.tiers.length a.tc, .slice a.fa s.files.length a.fc, .slice a.ca s.copies.length a.cc, .slice a.ha s.held.length a.hc, .slice a.ba s.bin.length a.bc] 28
 have HW1 := Lib.hid hW1
 have HI1 := Lib.hid (hI.keep hB1)
 have q0 : W1.cell? ⟨w.heap.size, 0, none⟩ = some (.int .i64 s.least) := (hP.cell 0).trans rfl
 have q1 : W1.cell? ⟨w.heap.size, 1, none⟩ = some (.int .i64 s.wait) := (hP.cell 1).trans rfl
 have q2 : W1.cell? ⟨w.heap.size, 2, none⟩ = some (.slice a.ta s.tiers.length a.tc) := (hP.cell 2).trans rfl
 have q3 : W1.cell? ⟨w.heap.size, 3, none⟩ = some (.slice a.fa s.files.length a.fc) := (hP.cell 3).trans rfl
 have q4 : W1.cell? ⟨w.heap.size, 4, none⟩ = some (.slice a.ca s.copies.length a.cc) := (hP.cell 4).trans rfl
 have q5 : W1.cell? ⟨w.heap.size, 5, none⟩ = some (.slice a.ha s.held.length a.hc) := (hP.cell 5).trans rfl
 have q6 : W1.cell? ⟨w.heap.size, 6, none⟩ = some (.slice a.ba s.bin.length a.bc) := (hP.cell 6).trans rfl
 have HP := Lib.hid hP; have HB1 := Lib.hid hB1
 clear hW1 hP
 have HCO := Lib.hid (fun V (hV : Below w.heap.size w V) t => copyOf_is s a d t V (hI.keep hV))
 have HGI := Lib.hid (fun t => St.good_idx s d t)
 have htl := hI.tl; have hcl := hI.cl
 have HI := Lib.hid hI
 have HCL : Hid (∀ V, Below W1.heap.size W1 V → V.cell? ⟨w.heap.size, 0, none⟩ = some (.int .i64 s.least) ∧ V.cell? ⟨w.heap.size, 1, none⟩ = some (.int .i64 s.wait) ∧ V.cell? ⟨w.heap.size, 2, none⟩ = some (.slice a.ta s.tiers.length a.tc) ∧ V.cell? ⟨w.heap.size, 3, none⟩ = some (.slice a.fa s.files.length a.fc) ∧ V.cell? ⟨w.heap.size, 4, none⟩ = some (.slice a.ca s.copies.length a.cc) ∧ V.cell? ⟨w.heap.size, 5, none⟩ = some (.slice a.ha s.held.length a.hc) ∧ V.cell? ⟨w.heap.size, 6, none⟩ = some (.slice a.ba s.bin.length a.bc)) := Lib.hid fun V hv => (HP.out.keep hv).seven
 have HGL : Hid (St.goodL s d = s.tiers.filter (fun t => St.goodAt s d t.name)) := Lib.hid rfl
 have hlt1 : w.heap.size < W1.heap.size := by omega
 clear hI hz1 q0 q1 q3 q4 q5 q6
 obtain ⟨nt, hnt⟩ : ∃ nt, s.tiers.length = nt := ⟨_, rfl⟩
 obtain ⟨nc, hnc⟩ : ∃ nc, s.copies.length = nc := ⟨_, rfl⟩
 have HNT := Lib.hid hnt; have HNC := Lib.hid hnc
 rw [hnt] at htl y1 HCL q2 HW1 HCO ⊢
 rw [hnc] at hcl y3 HCL HW1 HCO ⊢
 clear hnt hnc
 go_enter Tryz.func118, Tryz.ntmps118
 go_wp2_with fail
 rw [HW1.out]
 go_wp2_with fail
 clear q2
 go_loopg [5, 12] nt (fun gk v i wr => ∃ j : Nat, j ≤ nt ∧ gk = nt - j ∧ i = .int .i64 j ∧ wr.ownsRow W1.heap.size 46 4 v ((s.tiers.take j).filter (fun t => St.goodAt s d t.name)).length (St.eT.flat ((s.tiers.take j).filter (fun t => St.goodAt s d t.name))) ∧ Below W1.heap.size W1 wr)
 case atStart => exact ⟨0, by omega, rfl, rfl, World.ownsRow_nil _ _ _ _, Below.refl _ _⟩
 case round =>
  obtain ⟨j, hj, rfl, rfl, hown, hB⟩ := hrel
  by_cases hlt : j < nt
  ·obtain ⟨x, hx⟩ : ∃ x, s.tiers[j]? = some x := ⟨_, List.getElem?_eq_getElem (by rw [HNT.out]; exact hlt)⟩
   obtain ⟨b, off, ha, hb, hcell⟩ := ((HI.out.keep (below_up HB1.out hB)).ti) (by rw [HNT.out]; omega)
   have c0 : wr.cell? ⟨b, off + j * 4, none⟩ = some (.string x.name) := hcell j x hx 0 (.string x.name) rfl
   have c1 : wr.cell? ⟨b, off + j * 4 + 1, none⟩ = some (.int .i64 x.room) := hcell j x hx 1 (.int .i64 x.room) rfl
   have c2 : wr.cell? ⟨b, off + j * 4 + 2, none⟩ = some (.int .i64 x.cost) := hcell j x hx 2 (.int .i64 x.cost) rfl
   have c3 : wr.cell? ⟨b, off + j * 4 + 3, none⟩ = some (.bool x.away) := hcell j x hx 3 (.bool x.away) rfl
   clear hcell
   have hft := St.filter_take (p := fun t => St.goodAt s d t.name) hx
   have hfl := St.filter_len (p := fun t => St.goodAt s d t.name) (L := s.tiers) j
   rw [HNT.out] at hfl
   obtain ⟨W3, hW3, hX3, hz3, hB3⟩ := box wr #[.string x.name, .int .i64 x.room, .int .i64 x.cost, .bool x.away] 46
   have HW3 := Lib.hid hW3
   have HAW := Lib.hid (below_up hB hB3)
   have hsz1 := hB.size
   have hsz3 := hB3.size
   have hown3 := own_keepE hown hB3
   have HX : Hid (∀ V, Below W3.heap.size W3 V → V.cell? ⟨wr.heap.size, 0, none⟩ = some (.string x.name) ∧ V.cell? ⟨wr.heap.size, 1, none⟩ = some (.int .i64 x.room) ∧ V.cell? ⟨wr.heap.size, 2, none⟩ = some (.int .i64 x.cost) ∧ V.cell? ⟨wr.heap.size, 3, none⟩ = some (.bool x.away)) := Lib.hid fun V hv => (hX3.keep hv).four
   have HCK := Lib.hid (fun V hV => HCO.out V hV x.name)
   obtain ⟨gp1, gp2⟩ := HGI.out x.name
   have hj0 : (0 : Int) ≤ (j : Int) := by omega
   have hj1 : (j : Int) < (nt : Int) := by omega
   have HFT := Lib.hid hft
   generalize ((s.tiers.take j).filter (fun t => St.goodAt s d t.name)) = G at *
   generalize St.goodAt s d x.name = gd at *
   obtain ⟨ci, hci⟩ : ∃ ci, St.copyAt s d x.name = ci := ⟨_, rfl⟩
   rw [hci] at HCK gp1 gp2
   clear hx hB hX3 hz3 hB3 hW3 hown hft hci
   have hv : Below W3.heap.size W3 W3 := Below.refl _ _
   obtain ⟨e0, e1, e2, e3⟩ := HX.out _ hv
   obtain ⟨n0, n1, n2, n3, n4, n5, n6⟩ := HCL.out _ HAW.out
   rw [ha] at HCK HCL n2 ⊢
   go_upto_region 5 with fail
   rw [HW3.out]
   clear c0 c1 c2 c3
   by_cases hneg : ci < 0
   ·have hgf := gp1 hneg
    subst hgf
    have hge : ¬ (0 ≤ ci) := by omega
    have hgd1 : decide (0 ≤ ci) = false := by simpa using hneg
    go_wp2_with (go_at_call 80; (with_reducible refine (HCK.out _ (below_up HB1.out (below_up HAW.out hv))).mono ?_); rintro e wp ⟨rfl, hq⟩; have hv := below_up hv hq)
    have hownp := own_keepE hown3 hv
    have hBp := below_up HAW.out hv
    rw [← ha]
    go_roundg (nt - (j + 1))
    case rel => exact ⟨j + 1, by omega, rfl, by go_num, by rw [HFT.out, if_neg (by decide), List.append_nil]; exact hownp, hBp⟩
    case measure => omega
   ·obtain ⟨ps, rfl⟩ : ∃ ps : Nat, ci = (ps : Int) := ⟨ci.toNat, by omega⟩
    obtain ⟨c, hc, _, hgc⟩ := gp2 ps rfl
    have hpc : ps < nc := by have := (List.getElem?_eq_some_iff.1 hc).1; rw [HNC.out] at this; exact this
    have hps0 : (0 : Int) ≤ (ps : Int) := by omega
    have hps1 : (ps : Int) < (nc : Int) := by omega
    have HC := Lib.hid hc
    clear gp1 gp2 hneg
    go_upto_region 6 with (go_at_call 80; (with_reducible refine (HCK.out _ (below_up HB1.out (below_up HAW.out hv))).mono ?_); rintro e wp ⟨rfl, hq⟩; have hv := below_up hv hq)
    obtain ⟨n0, n1, n2, n3, n4, n5, n6⟩ := HCL.out _ (below_up HAW.out hv)
    obtain ⟨e0, e1, e2, e3⟩ := HX.out _ hv
    obtain ⟨b2, o2, ha2, hb2, hcell2⟩ := (HI.out.keep (below_up HB1.out (below_up HAW.out hv))).co (by rw [HNC.out]; omega)
    have f0 : wp.cell? ⟨b2, o2 + ps * 4 + 2, none⟩ = some (.bool c.good) := hcell2 ps c HC.out 2 (.bool c.good) rfl
    clear hcell2 hc
    rw [ha2] at n4 ⊢
    have hownp := own_keepE hown3 hv
    have hBp := below_up HAW.out hv
    have hvs := hv.size
    rw [← hgc] at f0
    clear hgc
    cases gd
    ·go_wp2_with fail
     rw [← ha, ← ha2]
     go_roundg (nt - (j + 1))
     case rel => exact ⟨j + 1, by omega, rfl, by go_num, by rw [HFT.out, if_neg (by decide), List.append_nil]; exact hownp, hBp⟩
     case measure => omega
    ·obtain ⟨FL, hFL⟩ : ∃ FL, St.eT.flat G = FL := ⟨_, rfl⟩
     obtain ⟨m, hm⟩ : ∃ m, G.length = m := ⟨_, rfl⟩
     have HFL : Hid (St.eT.flat (G ++ [x]) = FL ++ [.string x.name, .int .i64 x.room, .int .i64 x.cost, .bool x.away]) := Lib.hid (by rw [Enc.flat_snoc, hFL]; rfl)
     have HM : Hid ((G ++ [x]).length = m + 1) := Lib.hid (by rw [List.length_append, hm]; rfl)
     rw [hFL, hm] at hownp
     rw [hm] at hfl
     clear hFL hm hown3
     go_wp2_with (at_builtin; refine list_appT rfl _ _ rfl _ _ m FL (by rfl) (by rfl) hownp (by omega) (by omega) (by rfl) (by simp [Value.oneCell']) ?_; intro g8 cap8 w8 hown8 hgrow8; have hB8 := below_grownE (below_allocs hBp _) (hownp.alloc _) hgrow8 (by simp; omega))
     rw [← ha, ← ha2]
     go_roundg (nt - (j + 1))
     case rel => exact ⟨j + 1, by omega, rfl, by go_num, by rw [HFT.out, if_pos (by first | rfl | trivial), HFL.out, HM.out]; exact hown8, hB8⟩
     case measure => omega
  ·obtain rfl : nt = j := by omega
   rw [← HNT.out, List.take_length, ← HGL.out] at hown
   have HO := Lib.hid ((OwnV.of_own hown).down (show w.heap.size ≤ W1.heap.size by omega))
   obtain ⟨g, cap, rfl⟩ := ownV_slice (OwnV.of_own hown)
   clear hown
   go_wp2_with fail
   go_ret
   exact ⟨g, cap, rfl, HO.out, below_up HB1.out hB⟩
end Go.Proofs.YthdiccdnggloiaaGreatDoor
