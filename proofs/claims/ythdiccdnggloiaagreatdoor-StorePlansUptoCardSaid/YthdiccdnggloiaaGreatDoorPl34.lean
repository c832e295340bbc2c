/- Parts of the proof, no condition: StTnq. -/
import Derived.Test.YthdiccdnggloiaaGreatDoorPl31
import Derived.Test.YthdiccdnggloiaaGreatDoorPl32
import Derived.Test.YthdiccdnggloiaaGreatDoorPl13
import Derived.Test.YthdiccdnggloiaaGreatDoorPl33
import Derived.Test.YthdiccdnggloiaaGreatDoorPl9
import Derived.Test.YthdiccdnggloiaaGreatDoorPl11
set_option maxRecDepth 100000
set_option maxHeartbeats 16000000
set_option linter.unusedSimpArgs false
set_option linter.unusedVariables false
namespace Go.Proofs.YthdiccdnggloiaaGreatDoor
open Go.RowKit Go.Sort Go.Shelf Go.Maps
theorem St.doL_zero : ∀ (L : List Mov) (s : Sto) (i : Nat), ((St.doL s L i).2.2 = 0 → (St.doL s L i).2.1 = 0) ∧ ((St.doL s L i).2.2 = 0 ∨ (St.doL s L i).1 = Sto.zero)
 | [], s, i => ⟨fun _ => rfl, .inl rfl⟩
 | m :: L, s, i => by
   rw [St.doL]
   by_cases h : St.mvE s m = 0
   ·rw [if_pos h]; exact St.doL_zero L _ _
   ·rw [if_neg h]; exact ⟨fun e => absurd e h, .inr rfl⟩
def DoAny (w : World) (T : Sto) (i q : Int) (e : Ending) (w' : World) : Prop := ∃ a' : StA, e = .returned (.tuple #[.agg #[.int .i64 T.least, .int .i64 T.wait, .slice a'.ta T.tiers.length a'.tc, .slice a'.fa T.files.length a'.fc, .slice a'.ca T.copies.length a'.cc, .slice a'.ha T.held.length a'.hc, .slice a'.ba T.bin.length a'.bc], .int .i64 i, .int .i64 q]) ∧ StIn w' T a' ∧ Below w.heap.size w w'
theorem DoPost.any {w w' : World} {s : Sto} {L : List Mov} {e : Ending} (h : DoPost w (St.doL s L 0) e w') : DoAny w (St.doL s L 0).1 (St.doL s L 0).2.1 (St.doL s L 0).2.2 e w' := by
 obtain ⟨z1, z2⟩ := St.doL_zero L s 0
 rcases h with ⟨h0, rfl, hb⟩ | ⟨h0, a', rfl, hi, hb⟩
 ·rw [z2.resolve_left h0]
  exact ⟨StA.zero, rfl, StIn.zero _, hb⟩
 ·refine ⟨a', ?_, hi, hb⟩
  rw [h0, z1 h0]
  rfl
theorem plBecameZ (a b : StA) (t : Sto) (q : Int) (hq : q ≠ 0) (w : World) (hA : StIn w Sto.zero a) : Calls Tryz.prog 15 #[.agg #[.int .i64 Sto.zero.least, .int .i64 Sto.zero.wait, .slice a.ta Sto.zero.tiers.length a.tc, .slice a.fa Sto.zero.files.length a.fc, .slice a.ca Sto.zero.copies.length a.cc, .slice a.ha Sto.zero.held.length a.hc, .slice a.ba Sto.zero.bin.length a.bc], .int .i64 q, .agg #[.int .i64 t.least, .int .i64 t.wait, .slice b.ta t.tiers.length b.tc, .slice b.fa t.files.length b.fc, .slice b.ca t.copies.length b.cc, .slice b.ha t.held.length b.hc, .slice b.ba t.bin.length b.bc], .int .i64 q] w fun e w' => e = .returned (.bool true) ∧ Below w.heap.size w w' := by
 obtain ⟨W1, hW1, hP, hz1, hB1⟩ := box w #[.int .i64 Sto.zero.least, .int .i64 Sto.zero.wait, .slice a.ta Sto.zero.tiers.length a.tc, .slice a.fa Sto.zero.files.length a.fc, .slice a.ca Sto.zero.copies.length a.cc, .slice a.ha Sto.zero.held.length a.hc, .slice a.ba Sto.zero.bin.length a.bc] 28
 obtain ⟨W2, hW2, hQ, hz2, hB2⟩ := box W1 #[.int .i64 0, .int .i64 0, .slice none 0 0, .slice none 0 0, .slice none 0 0, .slice none 0 0, .slice none 0 0] 28
 have HW1 := Lib.hid hW1; have HW2 := Lib.hid hW2
 have hBB := below_up hB1 hB2
 have hq1 : (q != 0) = true := by simpa using hq
 have hq2 : (q == q) = true := by simp
 obtain ⟨p0, p1, p2, p3, p4, p5, p6⟩ := hP.seven
 have HBB := Lib.hid hBB
 have HSS := Lib.hid (sameStore_is Sto.zero a StA.zero W2 (hA.keep hBB) (StIn.zero _))
 clear hA hW1 hW2 hP hQ hz2 hB1 hB2 hBB hq
 go_enter Tryz.func15, Tryz.ntmps15
 go_upto_region 1 with fail
 rw [HW1.out]
 go_wp2_with fail
 rw [HW2.out]
 go_at_call 34
 refine HSS.out.mono ?_
 rintro e wq ⟨rfl, hq⟩
 go_wp2_with fail
 go_ret
 exact ⟨rfl, below_up HBB.out hq⟩
theorem plBecame (t : Sto) (a b : StA) (q : Int) (h : q = 0 ∨ t = Sto.zero) (w : World) (hA : StIn w t a) (hB : StIn w t b) : Calls Tryz.prog 15 #[.agg #[.int .i64 t.least, .int .i64 t.wait, .slice a.ta t.tiers.length a.tc, .slice a.fa t.files.length a.fc, .slice a.ca t.copies.length a.cc, .slice a.ha t.held.length a.hc, .slice a.ba t.bin.length a.bc], .int .i64 q, .agg #[.int .i64 t.least, .int .i64 t.wait, .slice b.ta t.tiers.length b.tc, .slice b.fa t.files.length b.fc, .slice b.ca t.copies.length b.cc, .slice b.ha t.held.length b.hc, .slice b.ba t.bin.length b.bc], .int .i64 q] w fun e w' => e = .returned (.bool true) ∧ Below w.heap.size w w' := by
 by_cases hq : q = 0
 ·subst hq; exact became_ok t a b w hA hB
 ·obtain rfl := h.resolve_left hq
  exact plBecameZ a b Sto.zero q hq w hA
theorem storePlans_err (s : Sto) (a : StA) (la : Option Addr) (n lc : Nat) (w : World) (hI : StIn w s a) (he : St.err s ≠ 0) :
  Calls Tryz.prog 6 #[.agg #[.int .i64 s.least, .int .i64 s.wait, .slice a.ta s.tiers.length a.tc, .slice a.fa s.files.length a.fc, .slice a.ca s.copies.length a.cc, .slice a.ha s.held.length a.hc, .slice a.ba s.bin.length a.bc], .slice la n lc] w fun e w' => e = .returned (.bool true) ∧ Below w.heap.size w w' := by
 obtain ⟨W1, hW1, hX1, hz1, hB1⟩ := box w #[.int .i64 s.least, .int .i64 s.wait, .slice a.ta s.tiers.length a.tc, .slice a.fa s.files.length a.fc, .slice a.ca s.copies.length a.cc, .slice a.ha s.held.length a.hc, .slice a.ba s.bin.length a.bc] 28
 have HW1 := Lib.hid hW1; have HB1 := Lib.hid hB1
 have HIA := Lib.hid (fun V (hv : Below W1.heap.size W1 V) => (hI.keep hB1).keep hv)
 have HSE := Lib.hid (fun V (hv : Below W1.heap.size W1 V) => storeError_is s a V (HIA.out V hv))
 have HX1 := Lib.hid hX1
 obtain ⟨q0, q1, q2, q3, q4, q5, q6⟩ := hX1.seven
 have hv : Below W1.heap.size W1 W1 := Below.refl _ _
 clear hW1 hX1 hz1 hI
 clear hB1
 have HPL := Lib.hid (fun V (hv : Below W1.heap.size W1 V) => planS_wrong s a V (HIA.out V hv) he)
 have HDO := Lib.hid (fun V (hv : Below W1.heap.size W1 V) => doS_wrong s a la n lc V (HIA.out V hv) he)
 have HBE : Hid (∀ V, Calls Tryz.prog 15 #[.agg #[.int .i64 0, .int .i64 0, .slice none 0 0, .slice none 0 0, .slice none 0 0, .slice none 0 0, .slice none 0 0], .int .i64 (St.err s), .agg #[.int .i64 0, .int .i64 0, .slice none 0 0, .slice none 0 0, .slice none 0 0, .slice none 0 0, .slice none 0 0], .int .i64 (St.err s)] V fun e w' => e = .returned (.bool true) ∧ Below V.heap.size V w') := Lib.hid fun V => became_err Sto.zero StA.zero _ he V
 have hq1 : (St.err s != 0) = true := by simpa using he
 generalize St.err s = q at *
 have hq2 : (q == q) = true := by simp
 clear he
 go_enter Tryz.func6, Tryz.ntmps6
 go_upto_region 1 with fail
 rw [HW1.out]
 go_upto_region 3 with (first
  | (go_at_call 44; (with_reducible refine (HPL.out _ hv).mono ?_); rintro e w2 ⟨rfl, hq⟩; have hv := below_up hv hq; obtain ⟨q0, q1, q2, q3, q4, q5, q6⟩ := (HX1.out.keep hv).seven)
  | (go_at_call 45; (with_reducible refine (HDO.out _ hv).mono ?_); rintro e w3 ⟨rfl, hq⟩; have hv := below_up hv hq; obtain ⟨q0, q1, q2, q3, q4, q5, q6⟩ := (HX1.out.keep hv).seven)
  | (refine wpList_store_row rfl 28 _ _ rfl w3.heap.size #[.int .i64 0, .int .i64 0, .slice none 0 0, .slice none 0 0, .slice none 0 0, .slice none 0 0, .slice none 0 0] rfl rfl 28 #[.int .i64 0, .int .i64 0, .slice none 0 0, .slice none 0 0, .slice none 0 0, .slice none 0 0, .slice none 0 0] (heap_alloc_new w3 _) infoSto rfl (by simp [Value.oneCell']) ?_))
 obtain ⟨X, hX, hXB, hXz, hXW⟩ := fillNew w3 #[.int .i64 0, .int .i64 0, .slice none 0 0, .slice none 0 0, .slice none 0 0, .slice none 0 0, .slice none 0 0] #[.int .i64 0, .int .i64 0, .slice none 0 0, .slice none 0 0, .slice none 0 0, .slice none 0 0, .slice none 0 0] 28
 rw [hX]
 have HVX := Lib.hid (below_up hv hXW)
 have HXB := Lib.hid hXB
 have hu : Below X.heap.size X X := Below.refl _ _
 clear q0 q1 q2 q3 q4 q5 q6 hX hXB hXz hXW hv hq
 obtain ⟨q0, q1, q2, q3, q4, q5, q6⟩ := (HX1.out.keep (below_up HVX.out hu)).seven
 obtain ⟨t0, t1, t2, t3, t4, t5, t6⟩ := HXB.out.seven
 have hz0 : ((0 : Int) == 0) = true := rfl
 go_wp2_with (first
  | (go_at_call 14; (with_reducible refine (HSE.out _ (below_up HVX.out hu)).mono ?_); rintro e w6 ⟨rfl, hq⟩; have hu := below_up hu hq; obtain ⟨q0, q1, q2, q3, q4, q5, q6⟩ := (HX1.out.keep (below_up HVX.out hu)).seven; obtain ⟨t0, t1, t2, t3, t4, t5, t6⟩ := (HXB.out.keep hu).seven)
  | (go_at_call 15; (with_reducible refine (HBE.out _).mono ?_); rintro e wq ⟨rfl, hq⟩; have hu := below_up hu hq))
 have HBZ := Lib.hid (below_up HB1.out (below_up HVX.out hu))
 go_ret
 exact ⟨ret_bool (by simp), HBZ.out⟩
theorem storePlans_gen (s : Sto) (a : StA) (la : Option Addr) (n lc : Nat) (w : World) (hI : StIn w s a) (r : St.Right s) (T : Sto) (i q : Int) (hT : q = 0 ∨ T = Sto.zero)
  (k1 : ∀ V, Below w.heap.size w V → Calls Tryz.prog 45 #[.agg #[.int .i64 s.least, .int .i64 s.wait, .slice a.ta s.tiers.length a.tc, .slice a.fa s.files.length a.fc, .slice a.ca s.copies.length a.cc, .slice a.ha s.held.length a.hc, .slice a.ba s.bin.length a.bc], .slice la n lc] V (DoAny V T i q))
  (k2 : ∀ V, Below w.heap.size w V → Calls Tryz.prog 47 #[.agg #[.int .i64 s.least, .int .i64 s.wait, .slice a.ta s.tiers.length a.tc, .slice a.fa s.files.length a.fc, .slice a.ca s.copies.length a.cc, .slice a.ha s.held.length a.hc, .slice a.ba s.bin.length a.bc], .slice la n lc] V (DoAny V T i q)) :
  Calls Tryz.prog 6 #[.agg #[.int .i64 s.least, .int .i64 s.wait, .slice a.ta s.tiers.length a.tc, .slice a.fa s.files.length a.fc, .slice a.ca s.copies.length a.cc, .slice a.ha s.held.length a.hc, .slice a.ba s.bin.length a.bc], .slice la n lc] w fun e w' => e = .returned (.bool true) ∧ Below w.heap.size w w' := by
 obtain ⟨W1, hW1, hX1, hz1, hB1⟩ := box w #[.int .i64 s.least, .int .i64 s.wait, .slice a.ta s.tiers.length a.tc, .slice a.fa s.files.length a.fc, .slice a.ca s.copies.length a.cc, .slice a.ha s.held.length a.hc, .slice a.ba s.bin.length a.bc] 28
 have HW1 := Lib.hid hW1; have HB1 := Lib.hid hB1
 have HIA := Lib.hid (fun V (hv : Below W1.heap.size W1 V) => (hI.keep hB1).keep hv)
 have HSE := Lib.hid (fun V (hv : Below W1.heap.size W1 V) => storeError_is s a V (HIA.out V hv))
 have HX1 := Lib.hid hX1
 obtain ⟨q0, q1, q2, q3, q4, q5, q6⟩ := hX1.seven
 have hv : Below W1.heap.size W1 W1 := Below.refl _ _
 clear hW1 hX1 hz1 hI
 rw [St.err_iff.2 r] at HSE
 have HPL := Lib.hid (fun V (hv : Below W1.heap.size W1 V) => planS_right s a V (HIA.out V hv) r)
 have HPN := Lib.hid (fun V (hv : Below W1.heap.size W1 V) => plannedR_is s a V (HIA.out V hv) r)
 have HDO := Lib.hid (fun V (hv : Below W1.heap.size W1 V) => k1 V (below_up HB1.out hv))
 have HDN := Lib.hid (fun V (hv : Below W1.heap.size W1 V) => k2 V (below_up HB1.out hv))
 unfold PlanPost at HPL
 unfold PlndPost at HPN
 unfold DoAny at HDO HDN
 have HBE := Lib.hid (fun V a b => plBecame T a b q hT V)
 generalize (St.plan s).2.1 = M at *
 generalize (St.plan s).2.2 = O at *
 have HEM := Lib.hid (fun V x y cx cy hx hy hn => eqM_same M x y cx cy V hx hy hn)
 have HEO := Lib.hid (fun V x y cx cy hx hy hn => eqS_same O x y cx cy V hx hy hn)
 obtain ⟨nm, hnm⟩ : ∃ nm, M.length = nm := ⟨_, rfl⟩
 obtain ⟨no, hno⟩ : ∃ no, O.length = no := ⟨_, rfl⟩
 rw [hnm] at HPL HPN HEM
 rw [hno] at HPL HPN HEO
 clear r k1 k2 hB1 hT hnm hno
 go_enter Tryz.func6, Tryz.ntmps6
 go_upto_region 1 with fail
 rw [HW1.out]
 go_upto_region 2 with (go_at_call 44; (with_reducible refine (HPL.out _ hv).mono ?_); rintro e w2 ⟨g1, n1, c1, g2, n2, c2, hn1, hn2, rfl, R1, l1, R2, l2, hq⟩; have hv := below_up hv hq; obtain ⟨q0, q1, q2, q3, q4, q5, q6⟩ := (HX1.out.keep hv).seven)
 subst hn1
 subst hn2
 have HR1 := Lib.hid R1; have HR2 := Lib.hid R2
 have hM63 : nm ≤ 9223372036854775807 := by omega
 have hO63 : no ≤ 9223372036854775807 := by omega
 clear R1 R2 l1 l2
 go_upto_region 3 with (first
  | (go_at_call 45; (with_reducible refine (HDO.out _ hv).mono ?_); rintro e w3 ⟨b, rfl, hb, hB3⟩)
  | (refine wpList_store_row rfl 28 _ _ rfl w3.heap.size #[.int .i64 T.least, .int .i64 T.wait, .slice b.ta T.tiers.length b.tc, .slice b.fa T.files.length b.fc, .slice b.ca T.copies.length b.cc, .slice b.ha T.held.length b.hc, .slice b.ba T.bin.length b.bc] rfl rfl 28 #[.int .i64 0, .int .i64 0, .slice none 0 0, .slice none 0 0, .slice none 0 0, .slice none 0 0, .slice none 0 0] (heap_alloc_new w3 _) infoSto rfl (by simp [Value.oneCell']) ?_))
 obtain ⟨X, hX, hXB, hXz, hXW⟩ := fillNew w3 #[.int .i64 0, .int .i64 0, .slice none 0 0, .slice none 0 0, .slice none 0 0, .slice none 0 0, .slice none 0 0] #[.int .i64 T.least, .int .i64 T.wait, .slice b.ta T.tiers.length b.tc, .slice b.fa T.files.length b.fc, .slice b.ca T.copies.length b.cc, .slice b.ha T.held.length b.hc, .slice b.ba T.bin.length b.bc] 28
 rw [hX]
 have h23 := below_up hB3 hXW
 have HVX := Lib.hid (below_up hv h23)
 have HXB := Lib.hid hXB
 have HBT := Lib.hid (hb.keep hXW)
 have HP1 := Lib.hid (HR1.out.keep h23); have HP2 := Lib.hid (HR2.out.keep h23)
 have hu : Below X.heap.size X X := Below.refl _ _
 clear q0 q1 q2 q3 q4 q5 q6 hX hXB hXz hXW hv hq hB3 hb h23
 obtain ⟨q0, q1, q2, q3, q4, q5, q6⟩ := (HX1.out.keep (below_up HVX.out hu)).seven
 obtain ⟨t0, t1, t2, t3, t4, t5, t6⟩ := HXB.out.seven
 go_upto_region 7 with (first
  | (go_at_call 14; (with_reducible refine (HSE.out _ (below_up HVX.out hu)).mono ?_); rintro e w6 ⟨rfl, hq⟩; have hu := below_up hu hq; obtain ⟨q0, q1, q2, q3, q4, q5, q6⟩ := (HX1.out.keep (below_up HVX.out hu)).seven; obtain ⟨t0, t1, t2, t3, t4, t5, t6⟩ := (HXB.out.keep hu).seven)
  | (go_at_call 46; (with_reducible refine (HPN.out _ (below_up HVX.out hu)).mono ?_); rintro e w7 ⟨g3, n3, c3, g4, n4, c4, hn3, hn4, rfl, R3, R4, hq⟩; have hu := below_up hu hq; obtain ⟨q0, q1, q2, q3, q4, q5, q6⟩ := (HX1.out.keep (below_up HVX.out hu)).seven; obtain ⟨t0, t1, t2, t3, t4, t5, t6⟩ := (HXB.out.keep hu).seven))
 subst hn3
 subst hn4
 have HR3 := Lib.hid R3; have HR4 := Lib.hid R4
 clear R3 R4
 go_upto_region 8 with (first
  | (go_at_call 47; (with_reducible refine (HDN.out _ (below_up HVX.out hu)).mono ?_); rintro e w8 ⟨c, rfl, hc, hB8⟩)
  | (refine wpList_store_row rfl 28 _ _ rfl w8.heap.size #[.int .i64 T.least, .int .i64 T.wait, .slice c.ta T.tiers.length c.tc, .slice c.fa T.files.length c.fc, .slice c.ca T.copies.length c.cc, .slice c.ha T.held.length c.hc, .slice c.ba T.bin.length c.bc] rfl rfl 28 #[.int .i64 0, .int .i64 0, .slice none 0 0, .slice none 0 0, .slice none 0 0, .slice none 0 0, .slice none 0 0] (heap_alloc_new w8 _) infoSto rfl (by simp [Value.oneCell']) ?_))
 obtain ⟨Y, hY, hYB, hYz, hYW⟩ := fillNew w8 #[.int .i64 0, .int .i64 0, .slice none 0 0, .slice none 0 0, .slice none 0 0, .slice none 0 0, .slice none 0 0] #[.int .i64 T.least, .int .i64 T.wait, .slice c.ta T.tiers.length c.tc, .slice c.fa T.files.length c.fc, .slice c.ca T.copies.length c.cc, .slice c.ha T.held.length c.hc, .slice c.ba T.bin.length c.bc] 28
 rw [hY]
 have h78 := below_up hB8 hYW
 have HUX := Lib.hid (below_up hu h78)
 have HYB := Lib.hid hYB
 have HCT := Lib.hid (hc.keep hYW)
 have HP3 := Lib.hid (HR3.out.keep h78); have HP4 := Lib.hid (HR4.out.keep h78)
 have HPA := Lib.hid (HP1.out.keep HUX.out); have HPB := Lib.hid (HP2.out.keep HUX.out)
 have HBY := Lib.hid (HBT.out.keep HUX.out)
 have HXY := Lib.hid (HXB.out.keep HUX.out)
 have hz : Below Y.heap.size Y Y := Below.refl _ _
 clear q0 q1 q2 q3 q4 q5 q6 t0 t1 t2 t3 t4 t5 t6 hY hYB hYz hYW hu hq hB8 hc h78
 obtain ⟨t0, t1, t2, t3, t4, t5, t6⟩ := HXY.out.seven
 obtain ⟨u0, u1, u2, u3, u4, u5, u6⟩ := HYB.out.seven
 have hi2 : (i == i) = true := by simp
 go_wp2_with (first
  | (go_at_call 24; (with_reducible refine (HEM.out _ g1 g3 c1 c3 (HPA.out.keep hz) (HP3.out.keep hz) hM63).mono ?_); rintro e wa ⟨rfl, hq⟩; have hz := below_up hz hq; obtain ⟨t0, t1, t2, t3, t4, t5, t6⟩ := (HXY.out.keep hz).seven; obtain ⟨u0, u1, u2, u3, u4, u5, u6⟩ := (HYB.out.keep hz).seven)
  | (go_at_call 37; (with_reducible refine (HEO.out _ g2 g4 c2 c4 (HPB.out.keep hz) (HP4.out.keep hz) hO63).mono ?_); rintro e wb ⟨rfl, hq⟩; have hz := below_up hz hq; obtain ⟨t0, t1, t2, t3, t4, t5, t6⟩ := (HXY.out.keep hz).seven; obtain ⟨u0, u1, u2, u3, u4, u5, u6⟩ := (HYB.out.keep hz).seven)
  | (go_at_call 15; (with_reducible refine (HBE.out _ b c (HBY.out.keep hz) (HCT.out.keep hz)).mono ?_); rintro e wc ⟨rfl, hq⟩; have hz := below_up hz hq))
 have HBZ := Lib.hid (below_up HB1.out (below_up HVX.out (below_up HUX.out hz)))
 go_ret
 exact ⟨ret_bool (by simp), HBZ.out⟩
theorem storePlans_walk (s : Sto) (a : StA) (L : List Mov) (la : Option Addr) (lc : Nat) (w : World) (hI : StIn w s a) (hL : RowE St.eM w la L) (hlc : L.length ≤ lc ∧ lc ≤ 9223372036854775807) (hz : ∀ m ∈ L, m.dig.size ≤ 1048576 ∧ m.frm.size ≤ 1048576 ∧ m.dst.size ≤ 1048576) :
  Calls Tryz.prog 6 #[.agg #[.int .i64 s.least, .int .i64 s.wait, .slice a.ta s.tiers.length a.tc, .slice a.fa s.files.length a.fc, .slice a.ca s.copies.length a.cc, .slice a.ha s.held.length a.hc, .slice a.ba s.bin.length a.bc], .slice la L.length lc] w fun e w' => e = .returned (.bool true) ∧ Below w.heap.size w w' := by
 by_cases he : St.err s = 0
 ·have r := St.err_iff.1 he
  exact storePlans_gen s a la L.length lc w hI r _ _ _ (St.doL_zero L s 0).2 (fun V hv => (doS_right s a L la lc V (hI.keep hv) r (hL.keep hv) hlc hz).mono fun e w' h => h.any) (fun V hv => (doneR_is s a L la lc V (hI.keep hv) r (hL.keep hv) hlc).mono fun e w' h => h.any)
 ·exact storePlans_err s a la L.length lc w hI he
end Go.Proofs.YthdiccdnggloiaaGreatDoor
