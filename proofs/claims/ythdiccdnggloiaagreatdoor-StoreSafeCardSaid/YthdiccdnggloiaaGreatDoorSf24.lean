/- Parts of the proof, no condition: StTnm. -/
import Derived.Test.YthdiccdnggloiaaGreatDoorSf23
set_option maxRecDepth 100000
set_option maxHeartbeats 16000000
set_option linter.unusedSimpArgs false
set_option linter.unusedVariables false
namespace Go.Proofs.YthdiccdnggloiaaGreatDoor
open Go.RowKit Go.Sort Go.Shelf Go.Maps
namespace St
theorem acc_size : ∀ {l : List Mov} {s : Sto}, Right s → Acc s l → ∀ m ∈ l, m.dig.size ≤ 1048576 ∧ m.frm.size ≤ 1048576 ∧ m.dst.size ≤ 1048576
 | [], s, r, _, m, hm => by cases hm
 | x :: l, s, r, h, m, hm => by
   obtain ⟨h1, h2⟩ := h
   rcases List.mem_cons.1 hm with rfl | hm
   ·obtain ⟨g1, g2, g3⟩ := mv_ways r h1
    obtain ⟨t, ht, hn⟩ := copy_tier r g1
    have h40 := name40 (tier_good r ht).1
    rw [hn] at h40
    refine ⟨by omega, by omega, ?_⟩
    rcases g3 with ⟨hk, _, _⟩ | ⟨_, _, g4, _⟩
    ·unfold mvE at h1
     rw [if_neg (by rintro ⟨_, h⟩; exact h hk), g1, if_neg (by decide), if_pos hk] at h1
     cases e : eq m.dst ⟨#[]⟩ with
     | false => rw [e, if_pos rfl] at h1; cases h1
     | true => rw [eq_iff.1 e]; decide
    ·obtain ⟨u, hu, hun⟩ := hasTier_mem g4
     have h41 := name40 (tier_good r hu).1
     rw [hun] at h41
     omega
   ·exact acc_size (right_mv r h1) h2 m hm
theorem shortC_dig (s : Sto) : (shortC s).map (·.dig) = (neededL s).filter (short s) := by
 unfold shortC
 rw [List.map_map]
 exact List.map_id _
end St
theorem doS_acc (s : Sto) (a : StA) (L : List Mov) (la : Option Addr) (n lc : Nat) (hn : L.length = n) (w : World) (hI : StIn w s a) (r : St.Right s) (hA : St.Acc s L) (hL : RowE St.eM w la L) (hlc : n ≤ lc ∧ lc ≤ 9223372036854775807) :
  Calls Tryz.prog 45 #[.agg #[.int .i64 s.least, .int .i64 s.wait, .slice a.ta s.tiers.length a.tc, .slice a.fa s.files.length a.fc, .slice a.ca s.copies.length a.cc, .slice a.ha s.held.length a.hc, .slice a.ba s.bin.length a.bc], .slice la n lc] w fun e w' => ∃ a' : StA, e = .returned (.tuple #[.agg #[.int .i64 (St.mvs s L).least, .int .i64 (St.mvs s L).wait, .slice a'.ta (St.mvs s L).tiers.length a'.tc, .slice a'.fa (St.mvs s L).files.length a'.fc, .slice a'.ca (St.mvs s L).copies.length a'.cc, .slice a'.ha (St.mvs s L).held.length a'.hc, .slice a'.ba (St.mvs s L).bin.length a'.bc], .int .i64 0, .int .i64 0]) ∧ StIn w' (St.mvs s L) a' ∧ Below w.heap.size w w' := by
 subst hn
 refine (doS_right s a L la lc w hI r hL hlc (St.acc_size r hA)).mono fun e w' h => ?_
 rw [St.acc_do hA] at h
 rcases h with h | h
 ·exact absurd rfl h.1
 ·exact h.2
theorem storeSafe_err (s : Sto) (a : StA) (w : World) (hI : StIn w s a) (hDB : Hx.DB w) (he : St.err s ≠ 0) :
  Calls Tryz.prog 9 #[.agg #[.int .i64 s.least, .int .i64 s.wait, .slice a.ta s.tiers.length a.tc, .slice a.fa s.files.length a.fc, .slice a.ca s.copies.length a.cc, .slice a.ha s.held.length a.hc, .slice a.ba s.bin.length a.bc]] w fun e w' => e = .returned (.bool true) ∧ Below w.heap.size w w' := by
 obtain ⟨W1, hW1, hX1, hz1, hB1⟩ := box w #[.int .i64 s.least, .int .i64 s.wait, .slice a.ta s.tiers.length a.tc, .slice a.fa s.files.length a.fc, .slice a.ca s.copies.length a.cc, .slice a.ha s.held.length a.hc, .slice a.ba s.bin.length a.bc] 28
 have HW1 := Lib.hid hW1; have HB1 := Lib.hid hB1
 have HIA := Lib.hid (fun V (hv : Below W1.heap.size W1 V) => (hI.keep hB1).keep hv)
 have HAW := Lib.hid (awake_is W1 (Hx.db_below hDB hB1))
 have HX1 := Lib.hid hX1
 obtain ⟨q0, q1, q2, q3, q4, q5, q6⟩ := hX1.seven
 clear hW1 hX1 hz1 hB1 hI hDB
 have HPL := Lib.hid (fun V (hv : Below W1.heap.size W1 V) => planS_wrong s a V (HIA.out V hv) he)
 have hq1 : (St.err s != 0) = true := by simpa using he
 generalize St.err s = q at *
 clear he
 go_enter Tryz.func9, Tryz.ntmps9
 go_upto_region 1 with fail
 rw [HW1.out]
 go_wp2_with (first
  | (go_at_call 48; (with_reducible refine HAW.out.mono ?_); rintro e w2 ⟨rfl, hv⟩; obtain ⟨q0, q1, q2, q3, q4, q5, q6⟩ := (HX1.out.keep hv).seven)
  | (go_at_call 44; (with_reducible refine (HPL.out _ hv).mono ?_); rintro e w3 ⟨rfl, hB3⟩))
 have HBZ := Lib.hid (below_up HB1.out (below_up hv hB3))
 go_ret
 exact ⟨ret_bool (by simp), HBZ.out⟩
theorem storeSafe_ok (s : Sto) (a : StA) (w : World) (hI : StIn w s a) (hDB : Hx.DB w) (r : St.Right s) :
  Calls Tryz.prog 9 #[.agg #[.int .i64 s.least, .int .i64 s.wait, .slice a.ta s.tiers.length a.tc, .slice a.fa s.files.length a.fc, .slice a.ca s.copies.length a.cc, .slice a.ha s.held.length a.hc, .slice a.ba s.bin.length a.bc]] w fun e w' => e = .returned (.bool true) ∧ Below w.heap.size w w' := by
 obtain ⟨W1, hW1, hX1, hz1, hB1⟩ := box w #[.int .i64 s.least, .int .i64 s.wait, .slice a.ta s.tiers.length a.tc, .slice a.fa s.files.length a.fc, .slice a.ca s.copies.length a.cc, .slice a.ha s.held.length a.hc, .slice a.ba s.bin.length a.bc] 28
 have HW1 := Lib.hid hW1; have HB1 := Lib.hid hB1
 have HIA := Lib.hid (fun V (hv : Below W1.heap.size W1 V) => (hI.keep hB1).keep hv)
 have HAW := Lib.hid (awake_is W1 (Hx.db_below hDB hB1))
 have HX1 := Lib.hid hX1
 obtain ⟨q0, q1, q2, q3, q4, q5, q6⟩ := hX1.seven
 clear hW1 hX1 hz1 hB1 hI hDB
 obtain ⟨hA, hmv, rt, hgl, hso, hpl⟩ := St.plan_safe r
 have hlo : St.lostL (St.plan s).1 = St.lostL s := by
  have h := (St.do_ok (l := (St.plan s).2.1) r (i := 0) (by rw [St.acc_do hA])).2
  rw [St.acc_do hA, hmv] at h
  exact h
 have HPL := Lib.hid (fun V (hv : Below W1.heap.size W1 V) => planS_right s a V (HIA.out V hv) r)
 unfold PlanPost at HPL
 have HPT := Lib.hid (fun V b (hb : StIn V (St.plan s).1 b) => planS_right (St.plan s).1 b V hb rt)
 unfold PlanPost at HPT
 rw [hpl] at HPT
 have HDO := Lib.hid (fun V (hv : Below W1.heap.size W1 V) la n lc (hn : (St.plan s).2.1.length = n) (hL : RowE St.eM V la (St.plan s).2.1) hlc => doS_acc s a (St.plan s).2.1 la n lc hn V (HIA.out V hv) r hA hL hlc)
 rw [hmv] at HDO
 have HSH := Lib.hid (fun V b (hb : StIn V (St.plan s).1 b) => shortS_ok (St.plan s).1 b V hb rt)
 have HL1 := Lib.hid (fun V (hv : Below W1.heap.size W1 V) => lostS_ok s a V (HIA.out V hv) r)
 have HL2 := Lib.hid (fun V b (hb : StIn V (St.plan s).1 b) => lostS_ok (St.plan s).1 b V hb rt)
 have HGB := Lib.hid (fun V b (hb : StIn V (St.plan s).1 b) => garbS_ok (St.plan s).1 b V hb rt)
 rw [hlo] at HL2
 rw [hgl] at HGB
 have hsd := St.shortC_dig (St.plan s).1
 rw [hso] at hsd
 unfold TlOk at HSH HL1 HL2 HGB
 generalize St.lostL s = Q at *
 generalize St.shortC (St.plan s).1 = SC at *
 have HIT : Hid (∀ V b, StIn V (St.plan s).1 b → ∀ V', Below V.heap.size V V' → StIn V' (St.plan s).1 b) := Lib.hid fun V b h V' h' => h.keep h'
 clear hA hmv rt hgl hso hpl hlo
 generalize (St.plan s).1 = t at *
 generalize (St.plan s).2.1 = M at *
 generalize (St.plan s).2.2 = O at *
 have hsl : SC.length = O.length := by rw [← hsd, List.length_map]
 obtain ⟨no, hno⟩ : ∃ no, O.length = no := ⟨_, rfl⟩
 rw [hsl, hno] at HSH
 rw [hno] at HPL HPT hsl
 have HSD := Lib.hid hsd; have HNO := Lib.hid hno; have HSL := Lib.hid hsl
 have HEQ := Lib.hid (fun V x y cx cy hx hy hn => eqS_same Q x y cx cy V hx hy hn)
 have HEO := Lib.hid (fun V x y cx cy hx hy hn => eqS_same O x y cx cy V hx hy hn)
 rw [hno] at HEO
 obtain ⟨nq, hnq⟩ : ∃ nq, Q.length = nq := ⟨_, rfl⟩
 rw [hnq] at HEQ HL1 HL2
 clear r hsd hno hsl hnq
 go_enter Tryz.func9, Tryz.ntmps9
 go_upto_region 1 with fail
 rw [HW1.out]
 go_upto_region 6 with (first
  | (go_at_call 48; (with_reducible refine HAW.out.mono ?_); rintro e w2 ⟨rfl, hv⟩; obtain ⟨q0, q1, q2, q3, q4, q5, q6⟩ := (HX1.out.keep hv).seven)
  | (go_at_call 44; (with_reducible refine (HPL.out _ hv).mono ?_); rintro e w3 ⟨g1, n1, c1, g2, n2, c2, hn1, hn2, rfl, R1, l1, R2, l2, hq⟩; have hv := below_up hv hq; obtain ⟨q0, q1, q2, q3, q4, q5, q6⟩ := (HX1.out.keep hv).seven))
 subst hn2
 have HR2 := Lib.hid R2
 have HL22 := Lib.hid l2
 have HD3 := Lib.hid (HDO.out _ hv g1 n1 c1 hn1 R1 l1)
 clear R1 l1 R2 l2 hn1 hq
 go_upto_region 7 with (first
  | (go_at_call 45; (with_reducible refine HD3.out.mono ?_); rintro e w4 ⟨b, rfl, hb, hB4⟩)
  | (refine wpList_store_row rfl 28 _ _ rfl w4.heap.size #[.int .i64 t.least, .int .i64 t.wait, .slice b.ta t.tiers.length b.tc, .slice b.fa t.files.length b.fc, .slice b.ca t.copies.length b.cc, .slice b.ha t.held.length b.hc, .slice b.ba t.bin.length b.bc] rfl rfl 28 #[.int .i64 0, .int .i64 0, .slice none 0 0, .slice none 0 0, .slice none 0 0, .slice none 0 0, .slice none 0 0] (heap_alloc_new w4 _) infoSto rfl (by simp [Value.oneCell']) ?_))
 obtain ⟨X, hX, hXB, hXz, hXW⟩ := fillNew w4 #[.int .i64 0, .int .i64 0, .slice none 0 0, .slice none 0 0, .slice none 0 0, .slice none 0 0, .slice none 0 0] #[.int .i64 t.least, .int .i64 t.wait, .slice b.ta t.tiers.length b.tc, .slice b.fa t.files.length b.fc, .slice b.ca t.copies.length b.cc, .slice b.ha t.held.length b.hc, .slice b.ba t.bin.length b.bc] 28
 rw [hX]
 have hv4 := below_up hB4 hXW
 have hv := below_up hv hv4
 have HRO := Lib.hid (HR2.out.keep hv4)
 have HXB := Lib.hid hXB
 have HBT := Lib.hid (hb.keep hXW)
 have hu : Below X.heap.size X X := Below.refl _ _
 have HVX := Lib.hid hv
 clear q0 q1 q2 q3 q4 q5 q6 hX hXB hXz hXW hB4 hb hv hv4
 obtain ⟨q0, q1, q2, q3, q4, q5, q6⟩ := (HX1.out.keep (below_up HVX.out hu)).seven
 obtain ⟨t0, t1, t2, t3, t4, t5, t6⟩ := HXB.out.seven
 go_upto_region 10 with (go_at_call 27; (with_reducible refine (HSH.out _ b (HBT.out.keep hu)).mono ?_); rintro e w5 ⟨g5, c5, rfl, R5, k51, k52, hq⟩; have hu := below_up hu hq; obtain ⟨q0, q1, q2, q3, q4, q5, q6⟩ := (HX1.out.keep (below_up HVX.out hu)).seven; obtain ⟨t0, t1, t2, t3, t4, t5, t6⟩ := (HXB.out.keep hu).seven)
 have HR5 := Lib.hid R5
 have hz5 : Below w5.heap.size w5 w5 := Below.refl _ _
 clear R5 hq
 go_upto_region 11 with (go_at_call 28; (with_reducible refine (HL1.out _ (below_up HVX.out hu)).mono ?_); rintro e w6 ⟨g6, c6, rfl, R6, k61, k62, hq⟩; have hz5 := below_up hz5 hq; have hu := below_up hu hq; obtain ⟨q0, q1, q2, q3, q4, q5, q6⟩ := (HX1.out.keep (below_up HVX.out hu)).seven; obtain ⟨t0, t1, t2, t3, t4, t5, t6⟩ := (HXB.out.keep hu).seven)
 have HR6 := Lib.hid R6
 have hz6 : Below w6.heap.size w6 w6 := Below.refl _ _
 clear R6 hq
 go_upto_region 12 with (go_at_call 28; (with_reducible refine (HL2.out _ b (HBT.out.keep hu)).mono ?_); rintro e w7 ⟨g7, c7, rfl, R7, k71, k72, hq⟩; have hz5 := below_up hz5 hq; have hz6 := below_up hz6 hq; have hu := below_up hu hq; obtain ⟨q0, q1, q2, q3, q4, q5, q6⟩ := (HX1.out.keep (below_up HVX.out hu)).seven; obtain ⟨t0, t1, t2, t3, t4, t5, t6⟩ := (HXB.out.keep hu).seven)
 have HR7 := Lib.hid R7
 have hz7 : Below w7.heap.size w7 w7 := Below.refl _ _
 clear R7 hq
 go_upto_region 13 with (go_at_call 29; (with_reducible refine (HGB.out _ b (HBT.out.keep hu)).mono ?_); rintro e w8 ⟨g8, c8, rfl, R8, k81, k82, hq⟩; have hz5 := below_up hz5 hq; have hz6 := below_up hz6 hq; have hz7 := below_up hz7 hq; have hu := below_up hu hq; obtain ⟨q0, q1, q2, q3, q4, q5, q6⟩ := (HX1.out.keep (below_up HVX.out hu)).seven; obtain ⟨t0, t1, t2, t3, t4, t5, t6⟩ := (HXB.out.keep hu).seven)
 clear R8 hq
 go_upto_region 14 with (go_at_call 44; (with_reducible refine (HPT.out _ b (HBT.out.keep hu)).mono ?_); rintro e w9 ⟨g9, n9, c9, gz, nz, cz, hn9, hnz, rfl, R9, l9, RZ, lz, hq⟩; have hz5 := below_up hz5 hq; have hz6 := below_up hz6 hq; have hz7 := below_up hz7 hq; have hu := below_up hu hq; obtain ⟨q0, q1, q2, q3, q4, q5, q6⟩ := (HX1.out.keep (below_up HVX.out hu)).seven; obtain ⟨t0, t1, t2, t3, t4, t5, t6⟩ := (HXB.out.keep hu).seven)
 subst hn9
 subst hnz
 have HRZ := Lib.hid RZ
 have hzz : Below w9.heap.size w9 w9 := Below.refl _ _
 have hc71 : nq ≤ 9223372036854775807 := by omega
 have hcz1 : no ≤ 9223372036854775807 := by have := HL22.out; omega
 have HUX := Lib.hid hu
 clear R9 RZ hq l9 q0 q1 q2 q3 q4 q5 q6 t0 t1 t2 t3 t4 t5 t6 hu
 have HE1 := Lib.hid (fun V (hv : Below w9.heap.size w9 V) => HEQ.out V g6 g7 c6 c7 (HR6.out.keep (below_up hz6 hv)) (HR7.out.keep (below_up hz7 hv)) hc71)
 have HE2 := Lib.hid (fun V (hv : Below w9.heap.size w9 V) => HEO.out V gz g2 cz c2 (HRZ.out.keep hv) (HRO.out.keep (below_up HUX.out hv)) hcz1)
 go_upto_region 16 with (first
  | (go_at_call 37; (with_reducible refine (HE1.out _ hzz).mono ?_); rintro e we ⟨rfl, hq⟩; have hzz := below_up hzz hq)
  | (go_at_call 37; (with_reducible refine (HE2.out _ hzz).mono ?_); rintro e wf ⟨rfl, hq⟩; have hzz := below_up hzz hq))
 have HR5Z := Lib.hid (HR5.out.keep (below_up hz5 hzz))
 have HROZ := Lib.hid (HRO.out.keep (below_up HUX.out hzz))
 have HBZ := Lib.hid (below_up HB1.out (below_up HVX.out (below_up HUX.out hzz)))
 obtain ⟨k1, k2⟩ := HL22.out
 clear hz5 hz6 hz7 HE1 HE2
 go_wp2_with fail
 go_loopg [125] no (fun gk i wr => ∃ j : Nat, j ≤ no ∧ gk = no - j ∧ i = .int .i64 j ∧ Below wf.heap.size wf wr)
 case atStart => exact ⟨0, by omega, rfl, rfl, Below.refl _ _⟩
 case round =>
  obtain ⟨j, hj, rfl, rfl, hB⟩ := hrel
  by_cases hlt : j < no
  ·obtain ⟨x, hx⟩ : ∃ x, SC[j]? = some x := ⟨_, List.getElem?_eq_getElem (by have := HSL.out; omega)⟩
   have hd : O[j]? = some x.dig := by rw [← HSD.out, List.getElem?_map, hx]; rfl
   obtain ⟨b1, off, ha, hb, hcell⟩ := (HR5Z.out.keep hB) (by have := HSL.out; omega)
   have c0 : wr.cell? ⟨b1, off + j * 3, none⟩ = some (.string x.dig) := hcell j x hx 0 (.string x.dig) rfl
   have c1 : wr.cell? ⟨b1, off + j * 3 + 1, none⟩ = some (.int .i64 x.cop) := hcell j x hx 1 (.int .i64 x.cop) rfl
   have c2 : wr.cell? ⟨b1, off + j * 3 + 2, none⟩ = some (.int .i64 x.awy) := hcell j x hx 2 (.int .i64 x.awy) rfl
   obtain ⟨W3, hW3, hX3, hz3, hB3⟩ := box wr #[.string x.dig, .int .i64 x.cop, .int .i64 x.awy] 70
   have HW3 := Lib.hid hW3
   obtain ⟨b2, off2, ha2, hb2, hcell2⟩ := (HROZ.out.keep (below_up hB hB3)) (by rw [HNO.out]; omega)
   have d0 : W3.cell? ⟨b2, off2 + j, none⟩ = some (.string x.dig) := by have := hcell2 j x.dig hd 0 (.string x.dig) rfl; rw [show off2 + j * St.eS.k + 0 = off2 + j by simp [St.eS]] at this; exact this
   obtain ⟨e0, e1, e2⟩ := hX3.three
   have hj0 : (0 : Int) ≤ (j : Int) := by omega
   have hj1 : (j : Int) < (no : Int) := by omega
   have HAW := Lib.hid (below_up hB hB3)
   have hbq : (x.dig.toList != x.dig.toList) = false := by simp
   clear hx hd hcell hb hcell2 hb2 hW3 hX3 hz3 hB3 hB
   rw [ha, ha2]
   go_upto_region 19 with fail
   rw [HW3.out]
   clear c0 c1 c2
   go_wp2_with fail
   go_quiet (fail)
   have hbz := below_up HAW.out (below_drewN (Below.refl _ _) nq)
   have HBN := Lib.hid hbz
   generalize W3.drewN nq = W4 at *
   clear hbz d0 e0 e1 e2
   go_wp2_with fail
   rw [← ha, ← ha2]
   go_roundg (no - (j + 1))
   case rel => exact ⟨j + 1, by omega, rfl, by go_num, HBN.out⟩
   case measure => omega
  ·obtain rfl : no = j := by omega
   go_wp2_with fail
   go_ret
   exact ⟨rfl, below_up HBZ.out hB⟩
theorem storeSafe_walk (s : Sto) (a : StA) (w : World) (hI : StIn w s a) (hDB : Hx.DB w) :
  Calls Tryz.prog 9 #[.agg #[.int .i64 s.least, .int .i64 s.wait, .slice a.ta s.tiers.length a.tc, .slice a.fa s.files.length a.fc, .slice a.ca s.copies.length a.cc, .slice a.ha s.held.length a.hc, .slice a.ba s.bin.length a.bc]] w fun e w' => e = .returned (.bool true) ∧ Below w.heap.size w w' := by
 by_cases he : St.err s = 0
 ·exact storeSafe_ok s a w hI hDB (St.err_iff.1 he)
 ·exact storeSafe_err s a w hI hDB he
end Go.Proofs.YthdiccdnggloiaaGreatDoor
