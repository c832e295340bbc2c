/- Parts of the proof, no condition: StRrL, Row2. -/
import Derived.Test.YtbbgebpgpadclaaGreatDoorSr18
import Derived.Test.YtbbgebpgpadclaaGreatDoorSr10
import Derived.Test.YtbbgebpgpadclaaGreatDoorSr4
set_option maxRecDepth 100000
set_option maxHeartbeats 8000000
set_option linter.unusedSimpArgs false
set_option linter.unusedVariables false
namespace Go.Proofs.YtbbgebpgpadclaaGreatDoor
open Go.RowKit Go.Sort Go.Shelf Go.Maps
theorem fillNw (w : World) (c cs : Array Value) (t : TypeId) : ∃ X, (w.alloc (.cells c t)).setRow w.heap.size cs = X ∧ Blk X w.heap.size cs t ∧ X.heap.size = w.heap.size + 1 ∧ Below w.heap.size w X :=
 ⟨_, rfl, Blk.setRowAt (Blk.new _ _ _) _, by simp, below_setRow ((Below.refl _ _).alloc (Nat.le_refl _) _) (Nat.le_refl _) _⟩
theorem rrBecameZ (a b : StA) (t : Sto) (q : Int) (hq : q ≠ 0) (w : World) (hA : StIn w Sto.zero a) : Calls Tryz.prog 7 #[.agg #[.int .i64 Sto.zero.least, .int .i64 Sto.zero.wait, .slice a.ta Sto.zero.tiers.length a.tc, .slice a.fa Sto.zero.files.length a.fc, .slice a.ca Sto.zero.copies.length a.cc, .slice a.ha Sto.zero.held.length a.hc, .slice a.ba Sto.zero.bin.length a.bc], .int .i64 q, .agg #[.int .i64 t.least, .int .i64 t.wait, .slice b.ta t.tiers.length b.tc, .slice b.fa t.files.length b.fc, .slice b.ca t.copies.length b.cc, .slice b.ha t.held.length b.hc, .slice b.ba t.bin.length b.bc], .int .i64 q] w fun e w' => e = .returned (.bool true) ∧ Below w.heap.size w w' := by
 obtain ⟨W1, hW1, hP, hz1, hB1⟩ := box w #[.int .i64 Sto.zero.least, .int .i64 Sto.zero.wait, .slice a.ta Sto.zero.tiers.length a.tc, .slice a.fa Sto.zero.files.length a.fc, .slice a.ca Sto.zero.copies.length a.cc, .slice a.ha Sto.zero.held.length a.hc, .slice a.ba Sto.zero.bin.length a.bc] 28
 obtain ⟨W2, hW2, hQ, hz2, hB2⟩ := box W1 #[.int .i64 0, .int .i64 0, .slice none 0 0, .slice none 0 0, .slice none 0 0, .slice none 0 0, .slice none 0 0] 28
 have HW1 := Lib.hid hW1; have HW2 := Lib.hid hW2
 have hBB := below_up hB1 hB2
 have hq1 : (q != 0) = true := by simpa using hq
 have hq2 : (q == q) = true := by simp
 obtain ⟨p0, p1, p2, p3, p4, p5, p6⟩ := hP.seven
 have HBB := Lib.hid hBB
 have HSS := Lib.hid (sameStore_is Sto.zero a StA.zero W2 (hA.keep hBB) (StIn.zero _))
 clear hA hW1 hW2 hP hQ hz2 hB1 hB2 hBB hq
 go_enter Tryz.func7, Tryz.ntmps7
 go_upto_region 1 with fail
 rw [HW1.out]
 go_wp2_with fail
 rw [HW2.out]
 go_at_call 21
 refine HSS.out.mono ?_
 rintro e wq ⟨rfl, hq⟩
 go_wp2_with fail
 go_ret
 exact ⟨rfl, below_up HBB.out hq⟩
theorem rrBecame (t : Sto) (a b : StA) (q : Int) (h : q = 0 ∨ t = Sto.zero) (w : World) (hA : StIn w t a) (hB : StIn w t b) : Calls Tryz.prog 7 #[.agg #[.int .i64 t.least, .int .i64 t.wait, .slice a.ta t.tiers.length a.tc, .slice a.fa t.files.length a.fc, .slice a.ca t.copies.length a.cc, .slice a.ha t.held.length a.hc, .slice a.ba t.bin.length a.bc], .int .i64 q, .agg #[.int .i64 t.least, .int .i64 t.wait, .slice b.ta t.tiers.length b.tc, .slice b.fa t.files.length b.fc, .slice b.ca t.copies.length b.cc, .slice b.ha t.held.length b.hc, .slice b.ba t.bin.length b.bc], .int .i64 q] w fun e w' => e = .returned (.bool true) ∧ Below w.heap.size w w' := by
 by_cases hq : q = 0
 ·subst hq; exact became_ok t a b w hA hB
 ·obtain rfl := h.resolve_left hq
  exact rrBecameZ a b Sto.zero q hq w hA
theorem St.readE_zero (x : List UInt8) : (St.readE x).1 = 0 ∨ (St.readE x).2 = Sto.zero := by
 unfold St.readE
 split
 ·exact .inr rfl
 ·split
  ·exact .inr rfl
  ·split
   ·exact .inl rfl
   ·exact .inr rfl
theorem readS_is (x : List UInt8) (w : World) (hm : Mx w) (hs : x.length ≤ 9223372036854775807) : Calls Tryz.prog 5 #[.string (Tx.mk x)] w (ReadPost w (St.readE x).1 (St.readE x).2) := by
 by_cases h : 1000000 < x.length
 ·have e : St.readE x = (4, Sto.zero) := by unfold St.readE; rw [if_pos h]; rfl
  rw [e]
  exact readS_long x w h hs
 ·exact readS_short x w hm (by omega)
theorem readR_is (x : List UInt8) (w : World) (hm : Mx w) (hs : x.length ≤ 9223372036854775807) : Calls Tryz.prog 6 #[.string (Tx.mk x)] w (ReadPost w (St.readE x).1 (St.readE x).2) := by
 by_cases h : 1000000 < x.length
 ·have e : St.readE x = (4, Sto.zero) := by unfold St.readE; rw [if_pos h]; rfl
  rw [e]
  exact readR_long x w h hs
 ·exact readR_short x w hm (by omega)
theorem storeTextReads_walk (x : List UInt8) (w : World) (hm : Mx w) (hs : x.length ≤ 9223372036854775807) :
  Calls Tryz.prog 3 #[.string (Tx.mk x)] w fun e w' => e = .returned (.bool true) ∧ Below w.heap.size w w' := by
 have hz := St.readE_zero x
 have HRS := Lib.hid (readS_is x w hm hs)
 have HRR := Lib.hid (fun V (hv : Below w.heap.size w V) => readR_is x V (hm.below hv) hs)
 unfold ReadPost at HRS HRR
 have HBE := Lib.hid (fun V a b => rrBecame (St.readE x).2 a b (St.readE x).1 hz V)
 generalize (St.readE x).1 = q at *
 generalize (St.readE x).2 = t at *
 clear hm hz
 go_enter Tryz.func3, Tryz.ntmps3
 go_upto_region 2 with (first
  | (go_at_call 5; (with_reducible refine HRS.out.mono ?_); rintro e w2 ⟨a, rfl, ha, hB2⟩)
  | (refine wpList_store_row rfl 28 _ _ rfl w2.heap.size #[.int .i64 t.least, .int .i64 t.wait, .slice a.ta t.tiers.length a.tc, .slice a.fa t.files.length a.fc, .slice a.ca t.copies.length a.cc, .slice a.ha t.held.length a.hc, .slice a.ba t.bin.length a.bc] rfl rfl 28 #[.int .i64 0, .int .i64 0, .slice none 0 0, .slice none 0 0, .slice none 0 0, .slice none 0 0, .slice none 0 0] (heap_alloc_new w2 _) infoSto rfl (by simp [Value.oneCell']) ?_))
 obtain ⟨X, hX, hXB, hXz, hXW⟩ := fillNw w2 #[.int .i64 0, .int .i64 0, .slice none 0 0, .slice none 0 0, .slice none 0 0, .slice none 0 0, .slice none 0 0] #[.int .i64 t.least, .int .i64 t.wait, .slice a.ta t.tiers.length a.tc, .slice a.fa t.files.length a.fc, .slice a.ca t.copies.length a.cc, .slice a.ha t.held.length a.hc, .slice a.ba t.bin.length a.bc] 28
 rw [hX]
 have HVX := Lib.hid (below_up hB2 hXW)
 have HA := Lib.hid (ha.keep hXW)
 have HXB := Lib.hid hXB
 clear hX hXB hXz hXW hB2 ha
 go_upto_region 3 with (first
  | (go_at_call 6; (with_reducible refine (HRR.out _ HVX.out).mono ?_); rintro e w3 ⟨b, rfl, hb, hB3⟩)
  | (refine wpList_store_row rfl 28 _ _ rfl w3.heap.size #[.int .i64 t.least, .int .i64 t.wait, .slice b.ta t.tiers.length b.tc, .slice b.fa t.files.length b.fc, .slice b.ca t.copies.length b.cc, .slice b.ha t.held.length b.hc, .slice b.ba t.bin.length b.bc] rfl rfl 28 #[.int .i64 0, .int .i64 0, .slice none 0 0, .slice none 0 0, .slice none 0 0, .slice none 0 0, .slice none 0 0] (heap_alloc_new w3 _) infoSto rfl (by simp [Value.oneCell']) ?_))
 obtain ⟨Y, hY, hYB, hYz, hYW⟩ := fillNw w3 #[.int .i64 0, .int .i64 0, .slice none 0 0, .slice none 0 0, .slice none 0 0, .slice none 0 0, .slice none 0 0] #[.int .i64 t.least, .int .i64 t.wait, .slice b.ta t.tiers.length b.tc, .slice b.fa t.files.length b.fc, .slice b.ca t.copies.length b.cc, .slice b.ha t.held.length b.hc, .slice b.ba t.bin.length b.bc] 28
 rw [hY]
 have h3Y := below_up hB3 hYW
 have HBZ := Lib.hid (below_up HVX.out h3Y)
 have HAY := Lib.hid (HA.out.keep h3Y)
 have HBY := Lib.hid (hb.keep hYW)
 obtain ⟨t0, t1, t2, t3, t4, t5, t6⟩ := (HXB.out.keep h3Y).seven
 obtain ⟨u0, u1, u2, u3, u4, u5, u6⟩ := hYB.seven
 clear hY hYB hYz hYW hB3 hb h3Y
 go_wp2_with (go_at_call 7; (with_reducible refine (HBE.out _ a b HAY.out HBY.out).mono ?_); rintro e wc ⟨rfl, hq⟩)
 go_ret
 exact ⟨rfl, below_up HBZ.out hq⟩
end Go.Proofs.YtbbgebpgpadclaaGreatDoor
namespace Go.Proofs.YtbbgebpgpadclaaGreatDoor
open Go.RowKit Go.Sort
def Row2 (w : World) (a : Option Addr) (len : Nat) (f g : Nat → Value) : Prop :=
 0 < len → ∃ b off, a = some ⟨b, off, none⟩ ∧ b < w.heap.size ∧ ∀ i, i < len → w.cell? ⟨b, off + i * 2, none⟩ = some (f i) ∧ w.cell? ⟨b, off + i * 2 + 1, none⟩ = some (g i)
theorem Row2.keep {w w' : World} {a : Option Addr} {len : Nat} {f g : Nat → Value} (h : Row2 w a len f g) (hb : Below w.heap.size w w') : Row2 w' a len f g := by
 intro hl
 obtain ⟨b, off, rfl, hlt, hc⟩ := h hl
 exact ⟨b, off, rfl, Nat.lt_of_lt_of_le hlt hb.size, fun i hi => ⟨(hb.cell (p := ⟨b, off + i * 2, none⟩) hlt).trans (hc i hi).1, (hb.cell (p := ⟨b, off + i * 2 + 1, none⟩) hlt).trans (hc i hi).2⟩⟩
end Go.Proofs.YtbbgebpgpadclaaGreatDoor
