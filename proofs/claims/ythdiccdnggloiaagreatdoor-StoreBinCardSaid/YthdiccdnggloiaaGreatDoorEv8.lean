/- Parts of the proof, no condition: StGarR. -/
import Derived.Test.YthdiccdnggloiaaGreatDoorEv6
import Derived.Test.YthdiccdnggloiaaGreatDoorEv7
set_option maxRecDepth 100000
set_option maxHeartbeats 16000000
set_option linter.unusedSimpArgs false
set_option linter.unusedVariables false
namespace Go.Proofs.YthdiccdnggloiaaGreatDoor
open Go.RowKit Go.Sort Go.Shelf Go.Maps
theorem garbageR_is (s : Sto) (a : StA) (w : World) (hI : StIn w s a) (r : St.Right s) :
  Calls Tryz.prog 43 #[.agg #[.int .i64 s.least, .int .i64 s.wait, .slice a.ta s.tiers.length a.tc, .slice a.fa s.files.length a.fc, .slice a.ca s.copies.length a.cc, .slice a.ha s.held.length a.hc, .slice a.ba s.bin.length a.bc]] w (CopPost w (St.garbageL s)) := by
 obtain ⟨W1, hW1, hP, hz1, hB1⟩ := box w #[.int .i64 s.least, .int .i64 s.wait, .slice a.ta s.tiers.length a.tc, .slice a.fa s.files.length a.fc, .slice a.ca s.copies.length a.cc, .slice a.ha s.held.length a.hc, .slice a.ba s.bin.length a.bc] 28
 have HW1 := Lib.hid hW1
 have HI1 := Lib.hid (hI.keep hB1)
 have q0 : W1.cell? ⟨w.heap.size, 0, none⟩ = some (.int .i64 s.least) := (hP.cell 0).trans rfl
 have q1 : W1.cell? ⟨w.heap.size, 1, none⟩ = some (.int .i64 s.wait) := (hP.cell 1).trans rfl
 have q2 : W1.cell? ⟨w.heap.size, 2, none⟩ = some (.slice a.ta s.tiers.length a.tc) := (hP.cell 2).trans rfl
 have q3 : W1.cell? ⟨w.heap.size, 3, none⟩ = some (.slice a.fa s.files.length a.fc) := (hP.cell 3).trans rfl
 have q4 : W1.cell? ⟨w.heap.size, 4, none⟩ = some (.slice a.ca s.copies.length a.cc) := (hP.cell 4).trans rfl
 have q5 : W1.cell? ⟨w.heap.size, 5, none⟩ = some (.slice a.ha s.held.length a.hc) := (hP.cell 5).trans rfl
 have q6 : W1.cell? ⟨w.heap.size, 6, none⟩ = some (.slice a.ba s.bin.length a.bc) := (hP.cell 6).trans rfl
 have HP := Lib.hid hP; have HB1 := Lib.hid hB1
 clear hW1 hP
 obtain ⟨_, y1, y2, y3, y4, y5⟩ := St.sizes_iff.1 r.sizes
 have HFO := Lib.hid (fun (d : ByteArray) V (hv : Below W1.heap.size W1 V) => fileOf_is s a d V (HI1.out.keep hv))
 have HGOA := Lib.hid (fun (d : ByteArray) V (hv : Below W1.heap.size W1 V) => goodOf_is s a d V (HI1.out.keep hv) y1 y3)
 unfold TirPost at HGOA
 have HNDA := Lib.hid (fun f V (hv : Below W1.heap.size W1 V) => neededR_is s a f V (HI1.out.keep hv))
 have HKPA := Lib.hid (fun (d : ByteArray) V (hv : Below W1.heap.size W1 V) => keptR_is s a d V (HI1.out.keep hv))
 have HCL : Hid (∀ W, Below W1.heap.size W1 W → W.cell? ⟨w.heap.size, 0, none⟩ = some (.int .i64 s.least) ∧ W.cell? ⟨w.heap.size, 1, none⟩ = some (.int .i64 s.wait) ∧ W.cell? ⟨w.heap.size, 2, none⟩ = some (.slice a.ta s.tiers.length a.tc) ∧ W.cell? ⟨w.heap.size, 3, none⟩ = some (.slice a.fa s.files.length a.fc) ∧ W.cell? ⟨w.heap.size, 4, none⟩ = some (.slice a.ca s.copies.length a.cc) ∧ W.cell? ⟨w.heap.size, 5, none⟩ = some (.slice a.ha s.held.length a.hc) ∧ W.cell? ⟨w.heap.size, 6, none⟩ = some (.slice a.ba s.bin.length a.bc)) := Lib.hid fun W hb => (HP.out.keep hb).seven
 have hcl := hI.cl
 have HGL : Hid (St.garbageL s = s.copies.filter (St.garbage s)) := Lib.hid rfl
 have HGS := Lib.hid (fun c => St.garbage_same r c)
 have HS1 := Lib.hid hz1
 obtain ⟨nc, hnc⟩ : ∃ nc, s.copies.length = nc := ⟨_, rfl⟩
 have HNC := Lib.hid hnc
 rw [hnc] at hcl y3 q4 HCL HW1 HFO HGOA HNDA HKPA ⊢
 clear hI r hz1 hnc
 go_enter Tryz.func43, Tryz.ntmps43
 go_wp2_with fail
 rw [HW1.out]
 go_wp2_with fail
 clear q0 q1 q2 q3 q4 q5 q6
 go_loopg [3, 13] nc (fun gk v i wr => ∃ j : Nat, j ≤ nc ∧ gk = nc - j ∧ i = .int .i64 j ∧ wr.ownsRow W1.heap.size 74 4 v ((s.copies.take j).filter (St.garbage s)).length (St.eC.flat ((s.copies.take j).filter (St.garbage s))) ∧ Below W1.heap.size W1 wr)
 case atStart => exact ⟨0, by omega, rfl, rfl, World.ownsRow_nil _ _ _ _, Below.refl _ _⟩
 case round =>
  obtain ⟨j, hj, rfl, rfl, hown, hB⟩ := hrel
  by_cases hlt : j < nc
  ·obtain ⟨x, hx⟩ : ∃ x, s.copies[j]? = some x := ⟨_, List.getElem?_eq_getElem (by rw [HNC.out]; exact hlt)⟩
   obtain ⟨b, off, ha, hb, hcell⟩ := ((HI1.out.keep hB).co) (by rw [HNC.out]; omega)
   have c0 : wr.cell? ⟨b, off + j * 4, none⟩ = some (.string x.dig) := hcell j x hx 0 (.string x.dig) rfl
   have c1 : wr.cell? ⟨b, off + j * 4 + 1, none⟩ = some (.string x.tier) := hcell j x hx 1 (.string x.tier) rfl
   have c2 : wr.cell? ⟨b, off + j * 4 + 2, none⟩ = some (.bool x.good) := hcell j x hx 2 (.bool x.good) rfl
   have c3 : wr.cell? ⟨b, off + j * 4 + 3, none⟩ = some (.int .i64 x.asked) := hcell j x hx 3 (.int .i64 x.asked) rfl
   clear hcell
   have hft := St.filter_take (p := St.garbage s) hx
   have hfl := St.filter_len (p := St.garbage s) (L := s.copies) j
   rw [HNC.out] at hfl
   obtain ⟨W3, hW3, hX3, hz3, hB3⟩ := box wr #[.string x.dig, .string x.tier, .bool x.good, .int .i64 x.asked] 74
   have HW3 := Lib.hid hW3
   have HAL := Lib.hid (below_up hB hB3)
   have HX : Hid (∀ V, Below W3.heap.size W3 V → V.cell? ⟨wr.heap.size, 0, none⟩ = some (.string x.dig) ∧ V.cell? ⟨wr.heap.size, 1, none⟩ = some (.string x.tier) ∧ V.cell? ⟨wr.heap.size, 2, none⟩ = some (.bool x.good) ∧ V.cell? ⟨wr.heap.size, 3, none⟩ = some (.int .i64 x.asked)) := Lib.hid fun V hv => (hX3.keep hv).four
   have HFF := Lib.hid (HFO.out x.dig _ HAL.out)
   obtain ⟨f, hf⟩ : ∃ f, St.filD s.files x.dig = f := ⟨_, rfl⟩
   obtain ⟨fb, hfb⟩ : ∃ fb, (St.fileOf s.files x.dig).isSome = fb := ⟨_, rfl⟩
   have hgs := HGS.out x
   unfold St.garbageR St.neededD at hgs
   rw [hf] at hgs
   rw [hf, hfb] at HFF
   unfold St.fval at HFF
   have hj0 : (0 : Int) ≤ (j : Int) := by omega
   have hj1 : (j : Int) < (nc : Int) := by omega
   have HFT := Lib.hid hft
   have HGS2 := Lib.hid hgs
   have hown3 := own_keepE hown hB3
   generalize ((s.copies.take j).filter (St.garbage s)) = G at *
   generalize St.garbage s x = gd at *
   obtain ⟨e0, e1, e2, e3⟩ := HX.out _ (Below.refl _ _)
   obtain ⟨n0, n1, n2, n3, n4, n5, n6⟩ := HCL.out _ HAL.out
   clear hx hB hX3 hz3 hB3 hW3 hf hfb hft hgs hown
   rw [ha] at HFF HCL n4 HGOA HNDA HKPA ⊢
   go_upto_region 5 with fail
   rw [HW3.out]
   clear c0 c1 c2 c3
   go_upto_region 6 with (go_at_call 76; (with_reducible refine HFF.out.mono ?_); rintro e w4 ⟨rfl, hB4⟩)
   obtain ⟨W5, hW5, hX5, hz5, hB5⟩ := box w4 #[.string f.dig, .int .i64 f.size, .int .i64 f.kind, .string f.frm] 30
   have HW5 := Lib.hid hW5
   have HB5 := Lib.hid (below_up hB4 hB5)
   have HAW := Lib.hid (below_up HAL.out HB5.out)
   have HY : Hid (∀ V, Below W5.heap.size W5 V → V.cell? ⟨w4.heap.size, 0, none⟩ = some (.string f.dig) ∧ V.cell? ⟨w4.heap.size, 1, none⟩ = some (.int .i64 f.size) ∧ V.cell? ⟨w4.heap.size, 2, none⟩ = some (.int .i64 f.kind) ∧ V.cell? ⟨w4.heap.size, 3, none⟩ = some (.string f.frm)) := Lib.hid fun V hv => (hX5.keep hv).four
   rw [HW5.out]
   have HOW := Lib.hid (own_keepE hown3 HB5.out)
   have HGO := Lib.hid (fun V (hv : Below W5.heap.size W5 V) => HGOA.out x.dig V (below_up HAW.out hv))
   have HND := Lib.hid (fun V (hv : Below W5.heap.size W5 V) => HNDA.out f V (below_up HAW.out hv))
   have HKP := Lib.hid (fun V (hv : Below W5.heap.size W5 V) => HKPA.out f.frm V (below_up HAW.out hv))
   obtain ⟨FL, hFL⟩ : ∃ FL, St.eC.flat G = FL := ⟨_, rfl⟩
   obtain ⟨m, hm⟩ : ∃ m, G.length = m := ⟨_, rfl⟩
   have HFL : Hid (St.eC.flat (G ++ [x]) = FL ++ [.string x.dig, .string x.tier, .bool x.good, .int .i64 x.asked]) := Lib.hid (by rw [Enc.flat_snoc, hFL]; rfl)
   have HM : Hid ((G ++ [x]).length = m + 1) := Lib.hid (by rw [List.length_append, hm]; rfl)
   have HMF := Lib.hid (And.intro hm hFL)
   have HOX := HOW
   rw [hFL, hm] at HOX
   rw [hm] at hfl
   obtain ⟨mg, hmg⟩ : ∃ mg, (St.goodL s x.dig).length = mg := ⟨_, rfl⟩
   obtain ⟨mq, hmq⟩ : ∃ mq, decide (0 < mg) = mq := ⟨_, rfl⟩
   have hmi : decide ((0 : Int) < (mg : Int)) = mq := by rw [← hmq]; simp
   obtain ⟨cg, hcg⟩ : ∃ cg, x.good = cg := ⟨_, rfl⟩
   obtain ⟨kb, hkb⟩ : ∃ kb, (f.kind == 3) = kb := ⟨_, rfl⟩
   have hkd : decide (f.kind = 3) = kb := hkb
   obtain ⟨nd, hnd⟩ : ∃ nd, St.needed s f = nd := ⟨_, rfl⟩
   obtain ⟨kp, hkp⟩ : ∃ kp, St.kept s f.frm = kp := ⟨_, rfl⟩
   have hgd := HGS2.out
   rw [hmg, hmq, hkd, hnd, hkp, hcg] at hgd
   rw [hmg] at HGO
   rw [hnd] at HND
   rw [hkp] at HKP
   rw [hcg] at HX e2 HFL
   have HGD := Lib.hid hgd
   have hv : Below W5.heap.size W5 W5 := Below.refl _ _
   clear e0 e1 e2 e3 n0 n1 n2 n3 n4 n5 n6
   obtain ⟨e0, e1, e2, e3⟩ := HX.out _ (below_up HB5.out hv)
   obtain ⟨u0, u1, u2, u3⟩ := HY.out _ hv
   obtain ⟨n0, n1, n2, n3, n4, n5, n6⟩ := HCL.out _ (below_up HAW.out hv)
   clear hW5 hX5 hz5 hB5 hB4 hown3 HOW hm hFL hmg hgd hnd hkp hcg hkd
   cases cg
   ·cases nd
    ·cases kb
     ·cases mq
      ·go_wp2_with (first | (go_at_call 118; (with_reducible refine (HGO.out _ hv).mono ?_); rintro e w6 ⟨g6, cap6, rfl, ho6, hq⟩; have hv := below_up hv hq; obtain ⟨e0, e1, e2, e3⟩ := HX.out _ (below_up HB5.out hv); obtain ⟨u0, u1, u2, u3⟩ := HY.out _ hv; obtain ⟨n0, n1, n2, n3, n4, n5, n6⟩ := HCL.out _ (below_up HAW.out hv); have hown := own_keepE HOX.out hv; have hBp := below_up HAW.out hv; have hvs := hBp.size) | (go_at_call 116; (with_reducible refine (HND.out _ hv).mono ?_); rintro e w6 ⟨rfl, hq⟩; have hv := below_up hv hq; obtain ⟨e0, e1, e2, e3⟩ := HX.out _ (below_up HB5.out hv); obtain ⟨u0, u1, u2, u3⟩ := HY.out _ hv; obtain ⟨n0, n1, n2, n3, n4, n5, n6⟩ := HCL.out _ (below_up HAW.out hv); have hown := own_keepE HOX.out hv; have hBp := below_up HAW.out hv; have hvs := hBp.size) | (go_at_call 120; (with_reducible refine (HKP.out _ hv).mono ?_); rintro e w6 ⟨rfl, hq⟩; have hv := below_up hv hq; obtain ⟨e0, e1, e2, e3⟩ := HX.out _ (below_up HB5.out hv); obtain ⟨u0, u1, u2, u3⟩ := HY.out _ hv; obtain ⟨n0, n1, n2, n3, n4, n5, n6⟩ := HCL.out _ (below_up HAW.out hv); have hown := own_keepE HOX.out hv; have hBp := below_up HAW.out hv; have hvs := hBp.size) | (at_builtin; refine list_appC rfl _ _ rfl _ _ m FL (by rfl) (by rfl) hown (by omega) (by omega) (by rfl) (by simp [Value.oneCell']) ?_; intro g8 cap8 w8 hown8 hgrow8; have hB8 := below_grownE (below_allocs hBp _) (hown.alloc _) hgrow8 (by simp; omega)))
       rw [← ha]
       go_roundg (nc - (j + 1))
       case rel => first
        | exact ⟨j + 1, by omega, rfl, by go_num, by rw [HFT.out, HGD.out, if_neg (by simp), List.append_nil, HMF.out.1, HMF.out.2]; exact hown, hBp⟩
        | exact ⟨j + 1, by omega, rfl, by go_num, by rw [HFT.out, HGD.out, if_pos (by simp), HFL.out, HM.out]; exact hown8, hB8⟩
       case measure => omega
      ·go_wp2_with (first | (go_at_call 118; (with_reducible refine (HGO.out _ hv).mono ?_); rintro e w6 ⟨g6, cap6, rfl, ho6, hq⟩; have hv := below_up hv hq; obtain ⟨e0, e1, e2, e3⟩ := HX.out _ (below_up HB5.out hv); obtain ⟨u0, u1, u2, u3⟩ := HY.out _ hv; obtain ⟨n0, n1, n2, n3, n4, n5, n6⟩ := HCL.out _ (below_up HAW.out hv); have hown := own_keepE HOX.out hv; have hBp := below_up HAW.out hv; have hvs := hBp.size) | (go_at_call 116; (with_reducible refine (HND.out _ hv).mono ?_); rintro e w6 ⟨rfl, hq⟩; have hv := below_up hv hq; obtain ⟨e0, e1, e2, e3⟩ := HX.out _ (below_up HB5.out hv); obtain ⟨u0, u1, u2, u3⟩ := HY.out _ hv; obtain ⟨n0, n1, n2, n3, n4, n5, n6⟩ := HCL.out _ (below_up HAW.out hv); have hown := own_keepE HOX.out hv; have hBp := below_up HAW.out hv; have hvs := hBp.size) | (go_at_call 120; (with_reducible refine (HKP.out _ hv).mono ?_); rintro e w6 ⟨rfl, hq⟩; have hv := below_up hv hq; obtain ⟨e0, e1, e2, e3⟩ := HX.out _ (below_up HB5.out hv); obtain ⟨u0, u1, u2, u3⟩ := HY.out _ hv; obtain ⟨n0, n1, n2, n3, n4, n5, n6⟩ := HCL.out _ (below_up HAW.out hv); have hown := own_keepE HOX.out hv; have hBp := below_up HAW.out hv; have hvs := hBp.size) | (at_builtin; refine list_appC rfl _ _ rfl _ _ m FL (by rfl) (by rfl) hown (by omega) (by omega) (by rfl) (by simp [Value.oneCell']) ?_; intro g8 cap8 w8 hown8 hgrow8; have hB8 := below_grownE (below_allocs hBp _) (hown.alloc _) hgrow8 (by simp; omega)))
       rw [← ha]
       go_roundg (nc - (j + 1))
       case rel => first
        | exact ⟨j + 1, by omega, rfl, by go_num, by rw [HFT.out, HGD.out, if_neg (by simp), List.append_nil, HMF.out.1, HMF.out.2]; exact hown, hBp⟩
        | exact ⟨j + 1, by omega, rfl, by go_num, by rw [HFT.out, HGD.out, if_pos (by simp), HFL.out, HM.out]; exact hown8, hB8⟩
       case measure => omega
     ·cases kp
      ·cases mq
       ·go_wp2_with (first | (go_at_call 118; (with_reducible refine (HGO.out _ hv).mono ?_); rintro e w6 ⟨g6, cap6, rfl, ho6, hq⟩; have hv := below_up hv hq; obtain ⟨e0, e1, e2, e3⟩ := HX.out _ (below_up HB5.out hv); obtain ⟨u0, u1, u2, u3⟩ := HY.out _ hv; obtain ⟨n0, n1, n2, n3, n4, n5, n6⟩ := HCL.out _ (below_up HAW.out hv); have hown := own_keepE HOX.out hv; have hBp := below_up HAW.out hv; have hvs := hBp.size) | (go_at_call 116; (with_reducible refine (HND.out _ hv).mono ?_); rintro e w6 ⟨rfl, hq⟩; have hv := below_up hv hq; obtain ⟨e0, e1, e2, e3⟩ := HX.out _ (below_up HB5.out hv); obtain ⟨u0, u1, u2, u3⟩ := HY.out _ hv; obtain ⟨n0, n1, n2, n3, n4, n5, n6⟩ := HCL.out _ (below_up HAW.out hv); have hown := own_keepE HOX.out hv; have hBp := below_up HAW.out hv; have hvs := hBp.size) | (go_at_call 120; (with_reducible refine (HKP.out _ hv).mono ?_); rintro e w6 ⟨rfl, hq⟩; have hv := below_up hv hq; obtain ⟨e0, e1, e2, e3⟩ := HX.out _ (below_up HB5.out hv); obtain ⟨u0, u1, u2, u3⟩ := HY.out _ hv; obtain ⟨n0, n1, n2, n3, n4, n5, n6⟩ := HCL.out _ (below_up HAW.out hv); have hown := own_keepE HOX.out hv; have hBp := below_up HAW.out hv; have hvs := hBp.size) | (at_builtin; refine list_appC rfl _ _ rfl _ _ m FL (by rfl) (by rfl) hown (by omega) (by omega) (by rfl) (by simp [Value.oneCell']) ?_; intro g8 cap8 w8 hown8 hgrow8; have hB8 := below_grownE (below_allocs hBp _) (hown.alloc _) hgrow8 (by simp; omega)))
        rw [← ha]
        go_roundg (nc - (j + 1))
        case rel => first
         | exact ⟨j + 1, by omega, rfl, by go_num, by rw [HFT.out, HGD.out, if_neg (by simp), List.append_nil, HMF.out.1, HMF.out.2]; exact hown, hBp⟩
         | exact ⟨j + 1, by omega, rfl, by go_num, by rw [HFT.out, HGD.out, if_pos (by simp), HFL.out, HM.out]; exact hown8, hB8⟩
        case measure => omega
       ·go_wp2_with (first | (go_at_call 118; (with_reducible refine (HGO.out _ hv).mono ?_); rintro e w6 ⟨g6, cap6, rfl, ho6, hq⟩; have hv := below_up hv hq; obtain ⟨e0, e1, e2, e3⟩ := HX.out _ (below_up HB5.out hv); obtain ⟨u0, u1, u2, u3⟩ := HY.out _ hv; obtain ⟨n0, n1, n2, n3, n4, n5, n6⟩ := HCL.out _ (below_up HAW.out hv); have hown := own_keepE HOX.out hv; have hBp := below_up HAW.out hv; have hvs := hBp.size) | (go_at_call 116; (with_reducible refine (HND.out _ hv).mono ?_); rintro e w6 ⟨rfl, hq⟩; have hv := below_up hv hq; obtain ⟨e0, e1, e2, e3⟩ := HX.out _ (below_up HB5.out hv); obtain ⟨u0, u1, u2, u3⟩ := HY.out _ hv; obtain ⟨n0, n1, n2, n3, n4, n5, n6⟩ := HCL.out _ (below_up HAW.out hv); have hown := own_keepE HOX.out hv; have hBp := below_up HAW.out hv; have hvs := hBp.size) | (go_at_call 120; (with_reducible refine (HKP.out _ hv).mono ?_); rintro e w6 ⟨rfl, hq⟩; have hv := below_up hv hq; obtain ⟨e0, e1, e2, e3⟩ := HX.out _ (below_up HB5.out hv); obtain ⟨u0, u1, u2, u3⟩ := HY.out _ hv; obtain ⟨n0, n1, n2, n3, n4, n5, n6⟩ := HCL.out _ (below_up HAW.out hv); have hown := own_keepE HOX.out hv; have hBp := below_up HAW.out hv; have hvs := hBp.size) | (at_builtin; refine list_appC rfl _ _ rfl _ _ m FL (by rfl) (by rfl) hown (by omega) (by omega) (by rfl) (by simp [Value.oneCell']) ?_; intro g8 cap8 w8 hown8 hgrow8; have hB8 := below_grownE (below_allocs hBp _) (hown.alloc _) hgrow8 (by simp; omega)))
        rw [← ha]
        go_roundg (nc - (j + 1))
        case rel => first
         | exact ⟨j + 1, by omega, rfl, by go_num, by rw [HFT.out, HGD.out, if_neg (by simp), List.append_nil, HMF.out.1, HMF.out.2]; exact hown, hBp⟩
         | exact ⟨j + 1, by omega, rfl, by go_num, by rw [HFT.out, HGD.out, if_pos (by simp), HFL.out, HM.out]; exact hown8, hB8⟩
        case measure => omega
      ·cases mq
       ·go_wp2_with (first | (go_at_call 118; (with_reducible refine (HGO.out _ hv).mono ?_); rintro e w6 ⟨g6, cap6, rfl, ho6, hq⟩; have hv := below_up hv hq; obtain ⟨e0, e1, e2, e3⟩ := HX.out _ (below_up HB5.out hv); obtain ⟨u0, u1, u2, u3⟩ := HY.out _ hv; obtain ⟨n0, n1, n2, n3, n4, n5, n6⟩ := HCL.out _ (below_up HAW.out hv); have hown := own_keepE HOX.out hv; have hBp := below_up HAW.out hv; have hvs := hBp.size) | (go_at_call 116; (with_reducible refine (HND.out _ hv).mono ?_); rintro e w6 ⟨rfl, hq⟩; have hv := below_up hv hq; obtain ⟨e0, e1, e2, e3⟩ := HX.out _ (below_up HB5.out hv); obtain ⟨u0, u1, u2, u3⟩ := HY.out _ hv; obtain ⟨n0, n1, n2, n3, n4, n5, n6⟩ := HCL.out _ (below_up HAW.out hv); have hown := own_keepE HOX.out hv; have hBp := below_up HAW.out hv; have hvs := hBp.size) | (go_at_call 120; (with_reducible refine (HKP.out _ hv).mono ?_); rintro e w6 ⟨rfl, hq⟩; have hv := below_up hv hq; obtain ⟨e0, e1, e2, e3⟩ := HX.out _ (below_up HB5.out hv); obtain ⟨u0, u1, u2, u3⟩ := HY.out _ hv; obtain ⟨n0, n1, n2, n3, n4, n5, n6⟩ := HCL.out _ (below_up HAW.out hv); have hown := own_keepE HOX.out hv; have hBp := below_up HAW.out hv; have hvs := hBp.size) | (at_builtin; refine list_appC rfl _ _ rfl _ _ m FL (by rfl) (by rfl) hown (by omega) (by omega) (by rfl) (by simp [Value.oneCell']) ?_; intro g8 cap8 w8 hown8 hgrow8; have hB8 := below_grownE (below_allocs hBp _) (hown.alloc _) hgrow8 (by simp; omega)))
        rw [← ha]
        go_roundg (nc - (j + 1))
        case rel => first
         | exact ⟨j + 1, by omega, rfl, by go_num, by rw [HFT.out, HGD.out, if_neg (by simp), List.append_nil, HMF.out.1, HMF.out.2]; exact hown, hBp⟩
         | exact ⟨j + 1, by omega, rfl, by go_num, by rw [HFT.out, HGD.out, if_pos (by simp), HFL.out, HM.out]; exact hown8, hB8⟩
        case measure => omega
       ·go_wp2_with (first | (go_at_call 118; (with_reducible refine (HGO.out _ hv).mono ?_); rintro e w6 ⟨g6, cap6, rfl, ho6, hq⟩; have hv := below_up hv hq; obtain ⟨e0, e1, e2, e3⟩ := HX.out _ (below_up HB5.out hv); obtain ⟨u0, u1, u2, u3⟩ := HY.out _ hv; obtain ⟨n0, n1, n2, n3, n4, n5, n6⟩ := HCL.out _ (below_up HAW.out hv); have hown := own_keepE HOX.out hv; have hBp := below_up HAW.out hv; have hvs := hBp.size) | (go_at_call 116; (with_reducible refine (HND.out _ hv).mono ?_); rintro e w6 ⟨rfl, hq⟩; have hv := below_up hv hq; obtain ⟨e0, e1, e2, e3⟩ := HX.out _ (below_up HB5.out hv); obtain ⟨u0, u1, u2, u3⟩ := HY.out _ hv; obtain ⟨n0, n1, n2, n3, n4, n5, n6⟩ := HCL.out _ (below_up HAW.out hv); have hown := own_keepE HOX.out hv; have hBp := below_up HAW.out hv; have hvs := hBp.size) | (go_at_call 120; (with_reducible refine (HKP.out _ hv).mono ?_); rintro e w6 ⟨rfl, hq⟩; have hv := below_up hv hq; obtain ⟨e0, e1, e2, e3⟩ := HX.out _ (below_up HB5.out hv); obtain ⟨u0, u1, u2, u3⟩ := HY.out _ hv; obtain ⟨n0, n1, n2, n3, n4, n5, n6⟩ := HCL.out _ (below_up HAW.out hv); have hown := own_keepE HOX.out hv; have hBp := below_up HAW.out hv; have hvs := hBp.size) | (at_builtin; refine list_appC rfl _ _ rfl _ _ m FL (by rfl) (by rfl) hown (by omega) (by omega) (by rfl) (by simp [Value.oneCell']) ?_; intro g8 cap8 w8 hown8 hgrow8; have hB8 := below_grownE (below_allocs hBp _) (hown.alloc _) hgrow8 (by simp; omega)))
        rw [← ha]
        go_roundg (nc - (j + 1))
        case rel => first
         | exact ⟨j + 1, by omega, rfl, by go_num, by rw [HFT.out, HGD.out, if_neg (by simp), List.append_nil, HMF.out.1, HMF.out.2]; exact hown, hBp⟩
         | exact ⟨j + 1, by omega, rfl, by go_num, by rw [HFT.out, HGD.out, if_pos (by simp), HFL.out, HM.out]; exact hown8, hB8⟩
        case measure => omega
    ·cases mq
     ·go_wp2_with (first | (go_at_call 118; (with_reducible refine (HGO.out _ hv).mono ?_); rintro e w6 ⟨g6, cap6, rfl, ho6, hq⟩; have hv := below_up hv hq; obtain ⟨e0, e1, e2, e3⟩ := HX.out _ (below_up HB5.out hv); obtain ⟨u0, u1, u2, u3⟩ := HY.out _ hv; obtain ⟨n0, n1, n2, n3, n4, n5, n6⟩ := HCL.out _ (below_up HAW.out hv); have hown := own_keepE HOX.out hv; have hBp := below_up HAW.out hv; have hvs := hBp.size) | (go_at_call 116; (with_reducible refine (HND.out _ hv).mono ?_); rintro e w6 ⟨rfl, hq⟩; have hv := below_up hv hq; obtain ⟨e0, e1, e2, e3⟩ := HX.out _ (below_up HB5.out hv); obtain ⟨u0, u1, u2, u3⟩ := HY.out _ hv; obtain ⟨n0, n1, n2, n3, n4, n5, n6⟩ := HCL.out _ (below_up HAW.out hv); have hown := own_keepE HOX.out hv; have hBp := below_up HAW.out hv; have hvs := hBp.size) | (go_at_call 120; (with_reducible refine (HKP.out _ hv).mono ?_); rintro e w6 ⟨rfl, hq⟩; have hv := below_up hv hq; obtain ⟨e0, e1, e2, e3⟩ := HX.out _ (below_up HB5.out hv); obtain ⟨u0, u1, u2, u3⟩ := HY.out _ hv; obtain ⟨n0, n1, n2, n3, n4, n5, n6⟩ := HCL.out _ (below_up HAW.out hv); have hown := own_keepE HOX.out hv; have hBp := below_up HAW.out hv; have hvs := hBp.size) | (at_builtin; refine list_appC rfl _ _ rfl _ _ m FL (by rfl) (by rfl) hown (by omega) (by omega) (by rfl) (by simp [Value.oneCell']) ?_; intro g8 cap8 w8 hown8 hgrow8; have hB8 := below_grownE (below_allocs hBp _) (hown.alloc _) hgrow8 (by simp; omega)))
      rw [← ha]
      go_roundg (nc - (j + 1))
      case rel => first
       | exact ⟨j + 1, by omega, rfl, by go_num, by rw [HFT.out, HGD.out, if_neg (by simp), List.append_nil, HMF.out.1, HMF.out.2]; exact hown, hBp⟩
       | exact ⟨j + 1, by omega, rfl, by go_num, by rw [HFT.out, HGD.out, if_pos (by simp), HFL.out, HM.out]; exact hown8, hB8⟩
      case measure => omega
     ·go_wp2_with (first | (go_at_call 118; (with_reducible refine (HGO.out _ hv).mono ?_); rintro e w6 ⟨g6, cap6, rfl, ho6, hq⟩; have hv := below_up hv hq; obtain ⟨e0, e1, e2, e3⟩ := HX.out _ (below_up HB5.out hv); obtain ⟨u0, u1, u2, u3⟩ := HY.out _ hv; obtain ⟨n0, n1, n2, n3, n4, n5, n6⟩ := HCL.out _ (below_up HAW.out hv); have hown := own_keepE HOX.out hv; have hBp := below_up HAW.out hv; have hvs := hBp.size) | (go_at_call 116; (with_reducible refine (HND.out _ hv).mono ?_); rintro e w6 ⟨rfl, hq⟩; have hv := below_up hv hq; obtain ⟨e0, e1, e2, e3⟩ := HX.out _ (below_up HB5.out hv); obtain ⟨u0, u1, u2, u3⟩ := HY.out _ hv; obtain ⟨n0, n1, n2, n3, n4, n5, n6⟩ := HCL.out _ (below_up HAW.out hv); have hown := own_keepE HOX.out hv; have hBp := below_up HAW.out hv; have hvs := hBp.size) | (go_at_call 120; (with_reducible refine (HKP.out _ hv).mono ?_); rintro e w6 ⟨rfl, hq⟩; have hv := below_up hv hq; obtain ⟨e0, e1, e2, e3⟩ := HX.out _ (below_up HB5.out hv); obtain ⟨u0, u1, u2, u3⟩ := HY.out _ hv; obtain ⟨n0, n1, n2, n3, n4, n5, n6⟩ := HCL.out _ (below_up HAW.out hv); have hown := own_keepE HOX.out hv; have hBp := below_up HAW.out hv; have hvs := hBp.size) | (at_builtin; refine list_appC rfl _ _ rfl _ _ m FL (by rfl) (by rfl) hown (by omega) (by omega) (by rfl) (by simp [Value.oneCell']) ?_; intro g8 cap8 w8 hown8 hgrow8; have hB8 := below_grownE (below_allocs hBp _) (hown.alloc _) hgrow8 (by simp; omega)))
      rw [← ha]
      go_roundg (nc - (j + 1))
      case rel => first
       | exact ⟨j + 1, by omega, rfl, by go_num, by rw [HFT.out, HGD.out, if_neg (by simp), List.append_nil, HMF.out.1, HMF.out.2]; exact hown, hBp⟩
       | exact ⟨j + 1, by omega, rfl, by go_num, by rw [HFT.out, HGD.out, if_pos (by simp), HFL.out, HM.out]; exact hown8, hB8⟩
      case measure => omega
   ·cases nd
    ·cases kb
     ·go_wp2_with (first | (go_at_call 118; (with_reducible refine (HGO.out _ hv).mono ?_); rintro e w6 ⟨g6, cap6, rfl, ho6, hq⟩; have hv := below_up hv hq; obtain ⟨e0, e1, e2, e3⟩ := HX.out _ (below_up HB5.out hv); obtain ⟨u0, u1, u2, u3⟩ := HY.out _ hv; obtain ⟨n0, n1, n2, n3, n4, n5, n6⟩ := HCL.out _ (below_up HAW.out hv); have hown := own_keepE HOX.out hv; have hBp := below_up HAW.out hv; have hvs := hBp.size) | (go_at_call 116; (with_reducible refine (HND.out _ hv).mono ?_); rintro e w6 ⟨rfl, hq⟩; have hv := below_up hv hq; obtain ⟨e0, e1, e2, e3⟩ := HX.out _ (below_up HB5.out hv); obtain ⟨u0, u1, u2, u3⟩ := HY.out _ hv; obtain ⟨n0, n1, n2, n3, n4, n5, n6⟩ := HCL.out _ (below_up HAW.out hv); have hown := own_keepE HOX.out hv; have hBp := below_up HAW.out hv; have hvs := hBp.size) | (go_at_call 120; (with_reducible refine (HKP.out _ hv).mono ?_); rintro e w6 ⟨rfl, hq⟩; have hv := below_up hv hq; obtain ⟨e0, e1, e2, e3⟩ := HX.out _ (below_up HB5.out hv); obtain ⟨u0, u1, u2, u3⟩ := HY.out _ hv; obtain ⟨n0, n1, n2, n3, n4, n5, n6⟩ := HCL.out _ (below_up HAW.out hv); have hown := own_keepE HOX.out hv; have hBp := below_up HAW.out hv; have hvs := hBp.size) | (at_builtin; refine list_appC rfl _ _ rfl _ _ m FL (by rfl) (by rfl) hown (by omega) (by omega) (by rfl) (by simp [Value.oneCell']) ?_; intro g8 cap8 w8 hown8 hgrow8; have hB8 := below_grownE (below_allocs hBp _) (hown.alloc _) hgrow8 (by simp; omega)))
      rw [← ha]
      go_roundg (nc - (j + 1))
      case rel => first
       | exact ⟨j + 1, by omega, rfl, by go_num, by rw [HFT.out, HGD.out, if_neg (by simp), List.append_nil, HMF.out.1, HMF.out.2]; exact hown, hBp⟩
       | exact ⟨j + 1, by omega, rfl, by go_num, by rw [HFT.out, HGD.out, if_pos (by simp), HFL.out, HM.out]; exact hown8, hB8⟩
      case measure => omega
     ·cases kp
      ·go_wp2_with (first | (go_at_call 118; (with_reducible refine (HGO.out _ hv).mono ?_); rintro e w6 ⟨g6, cap6, rfl, ho6, hq⟩; have hv := below_up hv hq; obtain ⟨e0, e1, e2, e3⟩ := HX.out _ (below_up HB5.out hv); obtain ⟨u0, u1, u2, u3⟩ := HY.out _ hv; obtain ⟨n0, n1, n2, n3, n4, n5, n6⟩ := HCL.out _ (below_up HAW.out hv); have hown := own_keepE HOX.out hv; have hBp := below_up HAW.out hv; have hvs := hBp.size) | (go_at_call 116; (with_reducible refine (HND.out _ hv).mono ?_); rintro e w6 ⟨rfl, hq⟩; have hv := below_up hv hq; obtain ⟨e0, e1, e2, e3⟩ := HX.out _ (below_up HB5.out hv); obtain ⟨u0, u1, u2, u3⟩ := HY.out _ hv; obtain ⟨n0, n1, n2, n3, n4, n5, n6⟩ := HCL.out _ (below_up HAW.out hv); have hown := own_keepE HOX.out hv; have hBp := below_up HAW.out hv; have hvs := hBp.size) | (go_at_call 120; (with_reducible refine (HKP.out _ hv).mono ?_); rintro e w6 ⟨rfl, hq⟩; have hv := below_up hv hq; obtain ⟨e0, e1, e2, e3⟩ := HX.out _ (below_up HB5.out hv); obtain ⟨u0, u1, u2, u3⟩ := HY.out _ hv; obtain ⟨n0, n1, n2, n3, n4, n5, n6⟩ := HCL.out _ (below_up HAW.out hv); have hown := own_keepE HOX.out hv; have hBp := below_up HAW.out hv; have hvs := hBp.size) | (at_builtin; refine list_appC rfl _ _ rfl _ _ m FL (by rfl) (by rfl) hown (by omega) (by omega) (by rfl) (by simp [Value.oneCell']) ?_; intro g8 cap8 w8 hown8 hgrow8; have hB8 := below_grownE (below_allocs hBp _) (hown.alloc _) hgrow8 (by simp; omega)))
       rw [← ha]
       go_roundg (nc - (j + 1))
       case rel => first
        | exact ⟨j + 1, by omega, rfl, by go_num, by rw [HFT.out, HGD.out, if_neg (by simp), List.append_nil, HMF.out.1, HMF.out.2]; exact hown, hBp⟩
        | exact ⟨j + 1, by omega, rfl, by go_num, by rw [HFT.out, HGD.out, if_pos (by simp), HFL.out, HM.out]; exact hown8, hB8⟩
       case measure => omega
      ·go_wp2_with (first | (go_at_call 118; (with_reducible refine (HGO.out _ hv).mono ?_); rintro e w6 ⟨g6, cap6, rfl, ho6, hq⟩; have hv := below_up hv hq; obtain ⟨e0, e1, e2, e3⟩ := HX.out _ (below_up HB5.out hv); obtain ⟨u0, u1, u2, u3⟩ := HY.out _ hv; obtain ⟨n0, n1, n2, n3, n4, n5, n6⟩ := HCL.out _ (below_up HAW.out hv); have hown := own_keepE HOX.out hv; have hBp := below_up HAW.out hv; have hvs := hBp.size) | (go_at_call 116; (with_reducible refine (HND.out _ hv).mono ?_); rintro e w6 ⟨rfl, hq⟩; have hv := below_up hv hq; obtain ⟨e0, e1, e2, e3⟩ := HX.out _ (below_up HB5.out hv); obtain ⟨u0, u1, u2, u3⟩ := HY.out _ hv; obtain ⟨n0, n1, n2, n3, n4, n5, n6⟩ := HCL.out _ (below_up HAW.out hv); have hown := own_keepE HOX.out hv; have hBp := below_up HAW.out hv; have hvs := hBp.size) | (go_at_call 120; (with_reducible refine (HKP.out _ hv).mono ?_); rintro e w6 ⟨rfl, hq⟩; have hv := below_up hv hq; obtain ⟨e0, e1, e2, e3⟩ := HX.out _ (below_up HB5.out hv); obtain ⟨u0, u1, u2, u3⟩ := HY.out _ hv; obtain ⟨n0, n1, n2, n3, n4, n5, n6⟩ := HCL.out _ (below_up HAW.out hv); have hown := own_keepE HOX.out hv; have hBp := below_up HAW.out hv; have hvs := hBp.size) | (at_builtin; refine list_appC rfl _ _ rfl _ _ m FL (by rfl) (by rfl) hown (by omega) (by omega) (by rfl) (by simp [Value.oneCell']) ?_; intro g8 cap8 w8 hown8 hgrow8; have hB8 := below_grownE (below_allocs hBp _) (hown.alloc _) hgrow8 (by simp; omega)))
       rw [← ha]
       go_roundg (nc - (j + 1))
       case rel => first
        | exact ⟨j + 1, by omega, rfl, by go_num, by rw [HFT.out, HGD.out, if_neg (by simp), List.append_nil, HMF.out.1, HMF.out.2]; exact hown, hBp⟩
        | exact ⟨j + 1, by omega, rfl, by go_num, by rw [HFT.out, HGD.out, if_pos (by simp), HFL.out, HM.out]; exact hown8, hB8⟩
       case measure => omega
    ·go_wp2_with (first | (go_at_call 118; (with_reducible refine (HGO.out _ hv).mono ?_); rintro e w6 ⟨g6, cap6, rfl, ho6, hq⟩; have hv := below_up hv hq; obtain ⟨e0, e1, e2, e3⟩ := HX.out _ (below_up HB5.out hv); obtain ⟨u0, u1, u2, u3⟩ := HY.out _ hv; obtain ⟨n0, n1, n2, n3, n4, n5, n6⟩ := HCL.out _ (below_up HAW.out hv); have hown := own_keepE HOX.out hv; have hBp := below_up HAW.out hv; have hvs := hBp.size) | (go_at_call 116; (with_reducible refine (HND.out _ hv).mono ?_); rintro e w6 ⟨rfl, hq⟩; have hv := below_up hv hq; obtain ⟨e0, e1, e2, e3⟩ := HX.out _ (below_up HB5.out hv); obtain ⟨u0, u1, u2, u3⟩ := HY.out _ hv; obtain ⟨n0, n1, n2, n3, n4, n5, n6⟩ := HCL.out _ (below_up HAW.out hv); have hown := own_keepE HOX.out hv; have hBp := below_up HAW.out hv; have hvs := hBp.size) | (go_at_call 120; (with_reducible refine (HKP.out _ hv).mono ?_); rintro e w6 ⟨rfl, hq⟩; have hv := below_up hv hq; obtain ⟨e0, e1, e2, e3⟩ := HX.out _ (below_up HB5.out hv); obtain ⟨u0, u1, u2, u3⟩ := HY.out _ hv; obtain ⟨n0, n1, n2, n3, n4, n5, n6⟩ := HCL.out _ (below_up HAW.out hv); have hown := own_keepE HOX.out hv; have hBp := below_up HAW.out hv; have hvs := hBp.size) | (at_builtin; refine list_appC rfl _ _ rfl _ _ m FL (by rfl) (by rfl) hown (by omega) (by omega) (by rfl) (by simp [Value.oneCell']) ?_; intro g8 cap8 w8 hown8 hgrow8; have hB8 := below_grownE (below_allocs hBp _) (hown.alloc _) hgrow8 (by simp; omega)))
     rw [← ha]
     go_roundg (nc - (j + 1))
     case rel => first
      | exact ⟨j + 1, by omega, rfl, by go_num, by rw [HFT.out, HGD.out, if_neg (by simp), List.append_nil, HMF.out.1, HMF.out.2]; exact hown, hBp⟩
      | exact ⟨j + 1, by omega, rfl, by go_num, by rw [HFT.out, HGD.out, if_pos (by simp), HFL.out, HM.out]; exact hown8, hB8⟩
     case measure => omega
  ·obtain rfl : nc = j := by omega
   rw [← HNC.out, List.take_length, ← HGL.out] at hown
   have HO := Lib.hid ((OwnV.of_own hown).down (show w.heap.size ≤ W1.heap.size by have := HS1.out; omega))
   obtain ⟨g, cap, rfl⟩ := ownV_slice (OwnV.of_own hown)
   clear hown
   go_wp2_with fail
   go_ret
   exact ⟨g, cap, rfl, HO.out, below_up HB1.out hB⟩
end Go.Proofs.YthdiccdnggloiaaGreatDoor
