/- Parts of the proof, no condition: StIpR, StGarR, StTlW, StRef3, StRef5. -/
import Derived.Test.YthdiccdnggloiaaGreatDoorPl11
import Derived.Test.YthdiccdnggloiaaGreatDoorPl9
import Derived.Test.YthdiccdnggloiaaGreatDoorPl10
import Derived.Lib.QuietBelow
set_option maxRecDepth 100000
set_option maxHeartbeats 16000000
set_option linter.unusedSimpArgs false
set_option linter.unusedVariables false
namespace Go.Proofs.YthdiccdnggloiaaGreatDoor
open Go.RowKit Go.Sort Go.Shelf Go.Maps
theorem infoFilS : (Tryz.prog.info? 30).map (·.size) = some 4 := by kernel_rfl
theorem garbageR_is (s : Sto) (a : StA) (w : World) (hI : StIn w s a) (r : St.Right s) :
  Calls Tryz.prog 43 #[.agg #[.int .i64 s.least, .int .i64 s.wait, .slice a.ta s.tiers.length a.tc, .slice a.fa s.files.length a.fc, .slice a.ca s.copies.length a.cc, .slice a.ha s.held.length a.hc, .slice a.ba s.bin.length a.bc]] w (CopPost w (St.garbageL s)) := by
 obtain ⟨W1, hW1, hP, hz1, hB1⟩ := box w #[.int .i64 s.least, .int .i64 s.wait, .slice a.ta s.tiers.length a.tc, .slice a.fa s.files.length a.fc, .slice a.ca s.copies.length a.cc, .slice a.ha s.held.length a.hc, .slice a.ba s.bin.length a.bc] 28
 have HW1 := Lib.hid hW1
 have HI1 := Lib.hid (hI.keep hB1)
 obtain ⟨q0, q1, q2, q3, q4, q5, q6⟩ := hP.sv7
 have HP := Lib.hid hP; have HB1 := Lib.hid hB1
 clear hW1 hP
 obtain ⟨_, y1, y2, y3, y4, y5⟩ := St.sizes_iff.1 r.sizes
 have HFO := Lib.hid (fun (d : ByteArray) V (hv : Below W1.heap.size W1 V) => fileOf_is s a d V (HI1.out.keep hv))
 have HGOA := Lib.hid (fun (d : ByteArray) V (hv : Below W1.heap.size W1 V) => goodOf_is s a d V (HI1.out.keep hv) y1 y3)
 unfold TirPost at HGOA
 have HNDA := Lib.hid (fun f V (hv : Below W1.heap.size W1 V) => neededR_is s a f V (HI1.out.keep hv))
 have HKPA := Lib.hid (fun (d : ByteArray) V (hv : Below W1.heap.size W1 V) => keptR_is s a d V (HI1.out.keep hv))
 have HCL := Lib.hid (fun W (hb : Below W1.heap.size W1 W) => (HP.out.keep hb).sv7)
 have hcl := hI.cl
 have HGL : Hid (St.garbageL s = s.copies.filter (St.garbage s)) := Lib.hid rfl
 have HGS := Lib.hid (fun c => St.garbage_same r c)
 have HS1 := Lib.hid hz1
 obtain ⟨nc, hnc⟩ : ∃ nc, s.copies.length = nc := ⟨_, rfl⟩
 have HNC := Lib.hid hnc
 rw [hnc] at hcl y3 q4 HCL HW1 HFO HGOA HNDA HKPA ⊢
 clear hI r hz1 hnc
 go_enter Tryz.func43, Tryz.ntmps43
 go_wp2_with fail
 rw [HW1.out]
 go_wp2_with fail
 clear q0 q1 q2 q3 q4 q5 q6
 go_loopg [3, 13] nc (fun gk v i wr => ∃ j : Nat, j ≤ nc ∧ gk = nc - j ∧ i = .int .i64 j ∧ wr.ownsRow W1.heap.size 74 4 v ((s.copies.take j).filter (St.garbage s)).length (St.eC.flat ((s.copies.take j).filter (St.garbage s))) ∧ Below W1.heap.size W1 wr)
 case atStart => exact ⟨0, by omega, rfl, rfl, World.ownsRow_nil _ _ _ _, Below.refl _ _⟩
 case round =>
  obtain ⟨j, hj, rfl, rfl, hown, hB⟩ := hrel
  by_cases hlt : j < nc
  ·obtain ⟨x, hx⟩ : ∃ x, s.copies[j]? = some x := ⟨_, List.getElem?_eq_getElem (by rw [HNC.out]; exact hlt)⟩
   obtain ⟨b, off, ha, hb, hcell⟩ := ((HI1.out.keep hB).co) (by rw [HNC.out]; omega)
   have c0 : wr.cell? ⟨b, off + j * 4, none⟩ = some (.string x.dig) := hcell j x hx 0 (.string x.dig) rfl
   have c1 : wr.cell? ⟨b, off + j * 4 + 1, none⟩ = some (.string x.tier) := hcell j x hx 1 (.string x.tier) rfl
   have c2 : wr.cell? ⟨b, off + j * 4 + 2, none⟩ = some (.bool x.good) := hcell j x hx 2 (.bool x.good) rfl
   have c3 : wr.cell? ⟨b, off + j * 4 + 3, none⟩ = some (.int .i64 x.asked) := hcell j x hx 3 (.int .i64 x.asked) rfl
   clear hcell
   have hft := St.filter_take (p := St.garbage s) hx
   have hfl := St.filter_len (p := St.garbage s) (L := s.copies) j
   rw [HNC.out] at hfl
   obtain ⟨W3, hW3, hX3, hz3, hB3⟩ := box wr #[.string x.dig, .string x.tier, .bool x.good, .int .i64 x.asked] 74
   have HW3 := Lib.hid hW3
   have HAL := Lib.hid (below_up hB hB3)
   have HX : Hid (∀ V, Below W3.heap.size W3 V → V.cell? ⟨wr.heap.size, 0, none⟩ = some (.string x.dig) ∧ V.cell? ⟨wr.heap.size, 1, none⟩ = some (.string x.tier) ∧ V.cell? ⟨wr.heap.size, 2, none⟩ = some (.bool x.good) ∧ V.cell? ⟨wr.heap.size, 3, none⟩ = some (.int .i64 x.asked)) := Lib.hid fun V hv => (hX3.keep hv).four
   have HFF := Lib.hid (HFO.out x.dig _ HAL.out)
   obtain ⟨f, hf⟩ : ∃ f, St.filD s.files x.dig = f := ⟨_, rfl⟩
   obtain ⟨fb, hfb⟩ : ∃ fb, (St.fileOf s.files x.dig).isSome = fb := ⟨_, rfl⟩
   have hgs := HGS.out x
   unfold St.garbageR St.neededD at hgs
   rw [hf] at hgs
   rw [hf, hfb] at HFF
   unfold St.fval at HFF
   have hj0 : (0 : Int) ≤ (j : Int) := by omega
   have hj1 : (j : Int) < (nc : Int) := by omega
   have HFT := Lib.hid hft
   have HGS2 := Lib.hid hgs
   have hown3 := own_keepE hown hB3
   generalize ((s.copies.take j).filter (St.garbage s)) = G at *
   generalize St.garbage s x = gd at *
   obtain ⟨e0, e1, e2, e3⟩ := HX.out _ (Below.refl _ _)
   obtain ⟨n0, n1, n2, n3, n4, n5, n6⟩ := HCL.out _ HAL.out
   clear hx hB hX3 hz3 hB3 hW3 hf hfb hft hgs hown
   rw [ha] at HFF HCL n4 HGOA HNDA HKPA ⊢
   go_upto_region 5 with fail
   rw [HW3.out]
   clear c0 c1 c2 c3
   go_upto_region 6 with (go_at_call 76; (with_reducible refine HFF.out.mono ?_); rintro e w4 ⟨rfl, hB4⟩)
   obtain ⟨W5, hW5, hX5, hz5, hB5⟩ := box w4 #[.string f.dig, .int .i64 f.size, .int .i64 f.kind, .string f.frm] 30
   have HW5 := Lib.hid hW5
   have HB5 := Lib.hid (below_up hB4 hB5)
   have HAW := Lib.hid (below_up HAL.out HB5.out)
   have HY : Hid (∀ V, Below W5.heap.size W5 V → V.cell? ⟨w4.heap.size, 0, none⟩ = some (.string f.dig) ∧ V.cell? ⟨w4.heap.size, 1, none⟩ = some (.int .i64 f.size) ∧ V.cell? ⟨w4.heap.size, 2, none⟩ = some (.int .i64 f.kind) ∧ V.cell? ⟨w4.heap.size, 3, none⟩ = some (.string f.frm)) := Lib.hid fun V hv => (hX5.keep hv).four
   rw [HW5.out]
   have HOW := Lib.hid (own_keepE hown3 HB5.out)
   have HGO := Lib.hid (fun V (hv : Below W5.heap.size W5 V) => HGOA.out x.dig V (below_up HAW.out hv))
   have HND := Lib.hid (fun V (hv : Below W5.heap.size W5 V) => HNDA.out f V (below_up HAW.out hv))
   have HKP := Lib.hid (fun V (hv : Below W5.heap.size W5 V) => HKPA.out f.frm V (below_up HAW.out hv))
   obtain ⟨FL, hFL⟩ : ∃ FL, St.eC.flat G = FL := ⟨_, rfl⟩
   obtain ⟨m, hm⟩ : ∃ m, G.length = m := ⟨_, rfl⟩
   have HFL : Hid (St.eC.flat (G ++ [x]) = FL ++ [.string x.dig, .string x.tier, .bool x.good, .int .i64 x.asked]) := Lib.hid (by rw [Enc.flat_snoc, hFL]; rfl)
   have HM : Hid ((G ++ [x]).length = m + 1) := Lib.hid (by rw [List.length_append, hm]; rfl)
   have HMF := Lib.hid (And.intro hm hFL)
   have HOX := HOW
   rw [hFL, hm] at HOX
   rw [hm] at hfl
   obtain ⟨mg, hmg⟩ : ∃ mg, (St.goodL s x.dig).length = mg := ⟨_, rfl⟩
   obtain ⟨mq, hmq⟩ : ∃ mq, decide (0 < mg) = mq := ⟨_, rfl⟩
   have hmi : decide ((0 : Int) < (mg : Int)) = mq := by rw [← hmq]; simp
   obtain ⟨cg, hcg⟩ : ∃ cg, x.good = cg := ⟨_, rfl⟩
   obtain ⟨kb, hkb⟩ : ∃ kb, (f.kind == 3) = kb := ⟨_, rfl⟩
   have hkd : decide (f.kind = 3) = kb := hkb
   obtain ⟨nd, hnd⟩ : ∃ nd, St.needed s f = nd := ⟨_, rfl⟩
   obtain ⟨kp, hkp⟩ : ∃ kp, St.kept s f.frm = kp := ⟨_, rfl⟩
   have hgd := HGS2.out
   rw [hmg, hmq, hkd, hnd, hkp, hcg] at hgd
   rw [hmg] at HGO
   rw [hnd] at HND
   rw [hkp] at HKP
   rw [hcg] at HX e2 HFL
   have HGD := Lib.hid hgd
   have hv : Below W5.heap.size W5 W5 := Below.refl _ _
   clear e0 e1 e2 e3 n0 n1 n2 n3 n4 n5 n6
   obtain ⟨e0, e1, e2, e3⟩ := HX.out _ (below_up HB5.out hv)
   obtain ⟨u0, u1, u2, u3⟩ := HY.out _ hv
   obtain ⟨n0, n1, n2, n3, n4, n5, n6⟩ := HCL.out _ (below_up HAW.out hv)
   clear hW5 hX5 hz5 hB5 hB4 hown3 HOW hm hFL hmg hgd hnd hkp hcg hkd
   cases cg
   ·cases nd
    ·cases kb
     ·cases mq
      ·go_wp2_with (first | (go_at_call 118; (with_reducible refine (HGO.out _ hv).mono ?_); rintro e w6 ⟨g6, cap6, rfl, ho6, hq⟩; have hv := below_up hv hq; obtain ⟨e0, e1, e2, e3⟩ := HX.out _ (below_up HB5.out hv); obtain ⟨u0, u1, u2, u3⟩ := HY.out _ hv; obtain ⟨n0, n1, n2, n3, n4, n5, n6⟩ := HCL.out _ (below_up HAW.out hv); have hown := own_keepE HOX.out hv; have hBp := below_up HAW.out hv; have hvs := hBp.size) | (go_at_call 116; (with_reducible refine (HND.out _ hv).mono ?_); rintro e w6 ⟨rfl, hq⟩; have hv := below_up hv hq; obtain ⟨e0, e1, e2, e3⟩ := HX.out _ (below_up HB5.out hv); obtain ⟨u0, u1, u2, u3⟩ := HY.out _ hv; obtain ⟨n0, n1, n2, n3, n4, n5, n6⟩ := HCL.out _ (below_up HAW.out hv); have hown := own_keepE HOX.out hv; have hBp := below_up HAW.out hv; have hvs := hBp.size) | (go_at_call 120; (with_reducible refine (HKP.out _ hv).mono ?_); rintro e w6 ⟨rfl, hq⟩; have hv := below_up hv hq; obtain ⟨e0, e1, e2, e3⟩ := HX.out _ (below_up HB5.out hv); obtain ⟨u0, u1, u2, u3⟩ := HY.out _ hv; obtain ⟨n0, n1, n2, n3, n4, n5, n6⟩ := HCL.out _ (below_up HAW.out hv); have hown := own_keepE HOX.out hv; have hBp := below_up HAW.out hv; have hvs := hBp.size) | (at_builtin; refine list_appC rfl _ _ rfl _ _ m FL (by rfl) (by rfl) hown (by omega) (by omega) (by rfl) (by simp [Value.oneCell']) ?_; intro g8 cap8 w8 hown8 hgrow8; have hB8 := below_grownE (below_allocs hBp _) (hown.alloc _) hgrow8 (by simp; omega)))
       rw [← ha]
       go_roundg (nc - (j + 1))
       case rel => first
        | exact ⟨j + 1, by omega, rfl, by go_num, by rw [HFT.out, HGD.out, if_neg (by simp), List.append_nil, HMF.out.1, HMF.out.2]; exact hown, hBp⟩
        | exact ⟨j + 1, by omega, rfl, by go_num, by rw [HFT.out, HGD.out, if_pos (by simp), HFL.out, HM.out]; exact hown8, hB8⟩
       case measure => omega
      ·go_wp2_with (first | (go_at_call 118; (with_reducible refine (HGO.out _ hv).mono ?_); rintro e w6 ⟨g6, cap6, rfl, ho6, hq⟩; have hv := below_up hv hq; obtain ⟨e0, e1, e2, e3⟩ := HX.out _ (below_up HB5.out hv); obtain ⟨u0, u1, u2, u3⟩ := HY.out _ hv; obtain ⟨n0, n1, n2, n3, n4, n5, n6⟩ := HCL.out _ (below_up HAW.out hv); have hown := own_keepE HOX.out hv; have hBp := below_up HAW.out hv; have hvs := hBp.size) | (go_at_call 116; (with_reducible refine (HND.out _ hv).mono ?_); rintro e w6 ⟨rfl, hq⟩; have hv := below_up hv hq; obtain ⟨e0, e1, e2, e3⟩ := HX.out _ (below_up HB5.out hv); obtain ⟨u0, u1, u2, u3⟩ := HY.out _ hv; obtain ⟨n0, n1, n2, n3, n4, n5, n6⟩ := HCL.out _ (below_up HAW.out hv); have hown := own_keepE HOX.out hv; have hBp := below_up HAW.out hv; have hvs := hBp.size) | (go_at_call 120; (with_reducible refine (HKP.out _ hv).mono ?_); rintro e w6 ⟨rfl, hq⟩; have hv := below_up hv hq; obtain ⟨e0, e1, e2, e3⟩ := HX.out _ (below_up HB5.out hv); obtain ⟨u0, u1, u2, u3⟩ := HY.out _ hv; obtain ⟨n0, n1, n2, n3, n4, n5, n6⟩ := HCL.out _ (below_up HAW.out hv); have hown := own_keepE HOX.out hv; have hBp := below_up HAW.out hv; have hvs := hBp.size) | (at_builtin; refine list_appC rfl _ _ rfl _ _ m FL (by rfl) (by rfl) hown (by omega) (by omega) (by rfl) (by simp [Value.oneCell']) ?_; intro g8 cap8 w8 hown8 hgrow8; have hB8 := below_grownE (below_allocs hBp _) (hown.alloc _) hgrow8 (by simp; omega)))
       rw [← ha]
       go_roundg (nc - (j + 1))
       case rel => first
        | exact ⟨j + 1, by omega, rfl, by go_num, by rw [HFT.out, HGD.out, if_neg (by simp), List.append_nil, HMF.out.1, HMF.out.2]; exact hown, hBp⟩
        | exact ⟨j + 1, by omega, rfl, by go_num, by rw [HFT.out, HGD.out, if_pos (by simp), HFL.out, HM.out]; exact hown8, hB8⟩
       case measure => omega
     ·cases kp
      ·cases mq
       ·go_wp2_with (first | (go_at_call 118; (with_reducible refine (HGO.out _ hv).mono ?_); rintro e w6 ⟨g6, cap6, rfl, ho6, hq⟩; have hv := below_up hv hq; obtain ⟨e0, e1, e2, e3⟩ := HX.out _ (below_up HB5.out hv); obtain ⟨u0, u1, u2, u3⟩ := HY.out _ hv; obtain ⟨n0, n1, n2, n3, n4, n5, n6⟩ := HCL.out _ (below_up HAW.out hv); have hown := own_keepE HOX.out hv; have hBp := below_up HAW.out hv; have hvs := hBp.size) | (go_at_call 116; (with_reducible refine (HND.out _ hv).mono ?_); rintro e w6 ⟨rfl, hq⟩; have hv := below_up hv hq; obtain ⟨e0, e1, e2, e3⟩ := HX.out _ (below_up HB5.out hv); obtain ⟨u0, u1, u2, u3⟩ := HY.out _ hv; obtain ⟨n0, n1, n2, n3, n4, n5, n6⟩ := HCL.out _ (below_up HAW.out hv); have hown := own_keepE HOX.out hv; have hBp := below_up HAW.out hv; have hvs := hBp.size) | (go_at_call 120; (with_reducible refine (HKP.out _ hv).mono ?_); rintro e w6 ⟨rfl, hq⟩; have hv := below_up hv hq; obtain ⟨e0, e1, e2, e3⟩ := HX.out _ (below_up HB5.out hv); obtain ⟨u0, u1, u2, u3⟩ := HY.out _ hv; obtain ⟨n0, n1, n2, n3, n4, n5, n6⟩ := HCL.out _ (below_up HAW.out hv); have hown := own_keepE HOX.out hv; have hBp := below_up HAW.out hv; have hvs := hBp.size) | (at_builtin; refine list_appC rfl _ _ rfl _ _ m FL (by rfl) (by rfl) hown (by omega) (by omega) (by rfl) (by simp [Value.oneCell']) ?_; intro g8 cap8 w8 hown8 hgrow8; have hB8 := below_grownE (below_allocs hBp _) (hown.alloc _) hgrow8 (by simp; omega)))
        rw [← ha]
        go_roundg (nc - (j + 1))
        case rel => first
         | exact ⟨j + 1, by omega, rfl, by go_num, by rw [HFT.out, HGD.out, if_neg (by simp), List.append_nil, HMF.out.1, HMF.out.2]; exact hown, hBp⟩
         | exact ⟨j + 1, by omega, rfl, by go_num, by rw [HFT.out, HGD.out, if_pos (by simp), HFL.out, HM.out]; exact hown8, hB8⟩
        case measure => omega
       ·go_wp2_with (first | (go_at_call 118; (with_reducible refine (HGO.out _ hv).mono ?_); rintro e w6 ⟨g6, cap6, rfl, ho6, hq⟩; have hv := below_up hv hq; obtain ⟨e0, e1, e2, e3⟩ := HX.out _ (below_up HB5.out hv); obtain ⟨u0, u1, u2, u3⟩ := HY.out _ hv; obtain ⟨n0, n1, n2, n3, n4, n5, n6⟩ := HCL.out _ (below_up HAW.out hv); have hown := own_keepE HOX.out hv; have hBp := below_up HAW.out hv; have hvs := hBp.size) | (go_at_call 116; (with_reducible refine (HND.out _ hv).mono ?_); rintro e w6 ⟨rfl, hq⟩; have hv := below_up hv hq; obtain ⟨e0, e1, e2, e3⟩ := HX.out _ (below_up HB5.out hv); obtain ⟨u0, u1, u2, u3⟩ := HY.out _ hv; obtain ⟨n0, n1, n2, n3, n4, n5, n6⟩ := HCL.out _ (below_up HAW.out hv); have hown := own_keepE HOX.out hv; have hBp := below_up HAW.out hv; have hvs := hBp.size) | (go_at_call 120; (with_reducible refine (HKP.out _ hv).mono ?_); rintro e w6 ⟨rfl, hq⟩; have hv := below_up hv hq; obtain ⟨e0, e1, e2, e3⟩ := HX.out _ (below_up HB5.out hv); obtain ⟨u0, u1, u2, u3⟩ := HY.out _ hv; obtain ⟨n0, n1, n2, n3, n4, n5, n6⟩ := HCL.out _ (below_up HAW.out hv); have hown := own_keepE HOX.out hv; have hBp := below_up HAW.out hv; have hvs := hBp.size) | (at_builtin; refine list_appC rfl _ _ rfl _ _ m FL (by rfl) (by rfl) hown (by omega) (by omega) (by rfl) (by simp [Value.oneCell']) ?_; intro g8 cap8 w8 hown8 hgrow8; have hB8 := below_grownE (below_allocs hBp _) (hown.alloc _) hgrow8 (by simp; omega)))
        rw [← ha]
        go_roundg (nc - (j + 1))
        case rel => first
         | exact ⟨j + 1, by omega, rfl, by go_num, by rw [HFT.out, HGD.out, if_neg (by simp), List.append_nil, HMF.out.1, HMF.out.2]; exact hown, hBp⟩
         | exact ⟨j + 1, by omega, rfl, by go_num, by rw [HFT.out, HGD.out, if_pos (by simp), HFL.out, HM.out]; exact hown8, hB8⟩
        case measure => omega
      ·cases mq
       ·go_wp2_with (first | (go_at_call 118; (with_reducible refine (HGO.out _ hv).mono ?_); rintro e w6 ⟨g6, cap6, rfl, ho6, hq⟩; have hv := below_up hv hq; obtain ⟨e0, e1, e2, e3⟩ := HX.out _ (below_up HB5.out hv); obtain ⟨u0, u1, u2, u3⟩ := HY.out _ hv; obtain ⟨n0, n1, n2, n3, n4, n5, n6⟩ := HCL.out _ (below_up HAW.out hv); have hown := own_keepE HOX.out hv; have hBp := below_up HAW.out hv; have hvs := hBp.size) | (go_at_call 116; (with_reducible refine (HND.out _ hv).mono ?_); rintro e w6 ⟨rfl, hq⟩; have hv := below_up hv hq; obtain ⟨e0, e1, e2, e3⟩ := HX.out _ (below_up HB5.out hv); obtain ⟨u0, u1, u2, u3⟩ := HY.out _ hv; obtain ⟨n0, n1, n2, n3, n4, n5, n6⟩ := HCL.out _ (below_up HAW.out hv); have hown := own_keepE HOX.out hv; have hBp := below_up HAW.out hv; have hvs := hBp.size) | (go_at_call 120; (with_reducible refine (HKP.out _ hv).mono ?_); rintro e w6 ⟨rfl, hq⟩; have hv := below_up hv hq; obtain ⟨e0, e1, e2, e3⟩ := HX.out _ (below_up HB5.out hv); obtain ⟨u0, u1, u2, u3⟩ := HY.out _ hv; obtain ⟨n0, n1, n2, n3, n4, n5, n6⟩ := HCL.out _ (below_up HAW.out hv); have hown := own_keepE HOX.out hv; have hBp := below_up HAW.out hv; have hvs := hBp.size) | (at_builtin; refine list_appC rfl _ _ rfl _ _ m FL (by rfl) (by rfl) hown (by omega) (by omega) (by rfl) (by simp [Value.oneCell']) ?_; intro g8 cap8 w8 hown8 hgrow8; have hB8 := below_grownE (below_allocs hBp _) (hown.alloc _) hgrow8 (by simp; omega)))
        rw [← ha]
        go_roundg (nc - (j + 1))
        case rel => first
         | exact ⟨j + 1, by omega, rfl, by go_num, by rw [HFT.out, HGD.out, if_neg (by simp), List.append_nil, HMF.out.1, HMF.out.2]; exact hown, hBp⟩
         | exact ⟨j + 1, by omega, rfl, by go_num, by rw [HFT.out, HGD.out, if_pos (by simp), HFL.out, HM.out]; exact hown8, hB8⟩
        case measure => omega
       ·go_wp2_with (first | (go_at_call 118; (with_reducible refine (HGO.out _ hv).mono ?_); rintro e w6 ⟨g6, cap6, rfl, ho6, hq⟩; have hv := below_up hv hq; obtain ⟨e0, e1, e2, e3⟩ := HX.out _ (below_up HB5.out hv); obtain ⟨u0, u1, u2, u3⟩ := HY.out _ hv; obtain ⟨n0, n1, n2, n3, n4, n5, n6⟩ := HCL.out _ (below_up HAW.out hv); have hown := own_keepE HOX.out hv; have hBp := below_up HAW.out hv; have hvs := hBp.size) | (go_at_call 116; (with_reducible refine (HND.out _ hv).mono ?_); rintro e w6 ⟨rfl, hq⟩; have hv := below_up hv hq; obtain ⟨e0, e1, e2, e3⟩ := HX.out _ (below_up HB5.out hv); obtain ⟨u0, u1, u2, u3⟩ := HY.out _ hv; obtain ⟨n0, n1, n2, n3, n4, n5, n6⟩ := HCL.out _ (below_up HAW.out hv); have hown := own_keepE HOX.out hv; have hBp := below_up HAW.out hv; have hvs := hBp.size) | (go_at_call 120; (with_reducible refine (HKP.out _ hv).mono ?_); rintro e w6 ⟨rfl, hq⟩; have hv := below_up hv hq; obtain ⟨e0, e1, e2, e3⟩ := HX.out _ (below_up HB5.out hv); obtain ⟨u0, u1, u2, u3⟩ := HY.out _ hv; obtain ⟨n0, n1, n2, n3, n4, n5, n6⟩ := HCL.out _ (below_up HAW.out hv); have hown := own_keepE HOX.out hv; have hBp := below_up HAW.out hv; have hvs := hBp.size) | (at_builtin; refine list_appC rfl _ _ rfl _ _ m FL (by rfl) (by rfl) hown (by omega) (by omega) (by rfl) (by simp [Value.oneCell']) ?_; intro g8 cap8 w8 hown8 hgrow8; have hB8 := below_grownE (below_allocs hBp _) (hown.alloc _) hgrow8 (by simp; omega)))
        rw [← ha]
        go_roundg (nc - (j + 1))
        case rel => first
         | exact ⟨j + 1, by omega, rfl, by go_num, by rw [HFT.out, HGD.out, if_neg (by simp), List.append_nil, HMF.out.1, HMF.out.2]; exact hown, hBp⟩
         | exact ⟨j + 1, by omega, rfl, by go_num, by rw [HFT.out, HGD.out, if_pos (by simp), HFL.out, HM.out]; exact hown8, hB8⟩
        case measure => omega
    ·cases mq
     ·go_wp2_with (first | (go_at_call 118; (with_reducible refine (HGO.out _ hv).mono ?_); rintro e w6 ⟨g6, cap6, rfl, ho6, hq⟩; have hv := below_up hv hq; obtain ⟨e0, e1, e2, e3⟩ := HX.out _ (below_up HB5.out hv); obtain ⟨u0, u1, u2, u3⟩ := HY.out _ hv; obtain ⟨n0, n1, n2, n3, n4, n5, n6⟩ := HCL.out _ (below_up HAW.out hv); have hown := own_keepE HOX.out hv; have hBp := below_up HAW.out hv; have hvs := hBp.size) | (go_at_call 116; (with_reducible refine (HND.out _ hv).mono ?_); rintro e w6 ⟨rfl, hq⟩; have hv := below_up hv hq; obtain ⟨e0, e1, e2, e3⟩ := HX.out _ (below_up HB5.out hv); obtain ⟨u0, u1, u2, u3⟩ := HY.out _ hv; obtain ⟨n0, n1, n2, n3, n4, n5, n6⟩ := HCL.out _ (below_up HAW.out hv); have hown := own_keepE HOX.out hv; have hBp := below_up HAW.out hv; have hvs := hBp.size) | (go_at_call 120; (with_reducible refine (HKP.out _ hv).mono ?_); rintro e w6 ⟨rfl, hq⟩; have hv := below_up hv hq; obtain ⟨e0, e1, e2, e3⟩ := HX.out _ (below_up HB5.out hv); obtain ⟨u0, u1, u2, u3⟩ := HY.out _ hv; obtain ⟨n0, n1, n2, n3, n4, n5, n6⟩ := HCL.out _ (below_up HAW.out hv); have hown := own_keepE HOX.out hv; have hBp := below_up HAW.out hv; have hvs := hBp.size) | (at_builtin; refine list_appC rfl _ _ rfl _ _ m FL (by rfl) (by rfl) hown (by omega) (by omega) (by rfl) (by simp [Value.oneCell']) ?_; intro g8 cap8 w8 hown8 hgrow8; have hB8 := below_grownE (below_allocs hBp _) (hown.alloc _) hgrow8 (by simp; omega)))
      rw [← ha]
      go_roundg (nc - (j + 1))
      case rel => first
       | exact ⟨j + 1, by omega, rfl, by go_num, by rw [HFT.out, HGD.out, if_neg (by simp), List.append_nil, HMF.out.1, HMF.out.2]; exact hown, hBp⟩
       | exact ⟨j + 1, by omega, rfl, by go_num, by rw [HFT.out, HGD.out, if_pos (by simp), HFL.out, HM.out]; exact hown8, hB8⟩
      case measure => omega
     ·go_wp2_with (first | (go_at_call 118; (with_reducible refine (HGO.out _ hv).mono ?_); rintro e w6 ⟨g6, cap6, rfl, ho6, hq⟩; have hv := below_up hv hq; obtain ⟨e0, e1, e2, e3⟩ := HX.out _ (below_up HB5.out hv); obtain ⟨u0, u1, u2, u3⟩ := HY.out _ hv; obtain ⟨n0, n1, n2, n3, n4, n5, n6⟩ := HCL.out _ (below_up HAW.out hv); have hown := own_keepE HOX.out hv; have hBp := below_up HAW.out hv; have hvs := hBp.size) | (go_at_call 116; (with_reducible refine (HND.out _ hv).mono ?_); rintro e w6 ⟨rfl, hq⟩; have hv := below_up hv hq; obtain ⟨e0, e1, e2, e3⟩ := HX.out _ (below_up HB5.out hv); obtain ⟨u0, u1, u2, u3⟩ := HY.out _ hv; obtain ⟨n0, n1, n2, n3, n4, n5, n6⟩ := HCL.out _ (below_up HAW.out hv); have hown := own_keepE HOX.out hv; have hBp := below_up HAW.out hv; have hvs := hBp.size) | (go_at_call 120; (with_reducible refine (HKP.out _ hv).mono ?_); rintro e w6 ⟨rfl, hq⟩; have hv := below_up hv hq; obtain ⟨e0, e1, e2, e3⟩ := HX.out _ (below_up HB5.out hv); obtain ⟨u0, u1, u2, u3⟩ := HY.out _ hv; obtain ⟨n0, n1, n2, n3, n4, n5, n6⟩ := HCL.out _ (below_up HAW.out hv); have hown := own_keepE HOX.out hv; have hBp := below_up HAW.out hv; have hvs := hBp.size) | (at_builtin; refine list_appC rfl _ _ rfl _ _ m FL (by rfl) (by rfl) hown (by omega) (by omega) (by rfl) (by simp [Value.oneCell']) ?_; intro g8 cap8 w8 hown8 hgrow8; have hB8 := below_grownE (below_allocs hBp _) (hown.alloc _) hgrow8 (by simp; omega)))
      rw [← ha]
      go_roundg (nc - (j + 1))
      case rel => first
       | exact ⟨j + 1, by omega, rfl, by go_num, by rw [HFT.out, HGD.out, if_neg (by simp), List.append_nil, HMF.out.1, HMF.out.2]; exact hown, hBp⟩
       | exact ⟨j + 1, by omega, rfl, by go_num, by rw [HFT.out, HGD.out, if_pos (by simp), HFL.out, HM.out]; exact hown8, hB8⟩
      case measure => omega
   ·cases nd
    ·cases kb
     ·go_wp2_with (first | (go_at_call 118; (with_reducible refine (HGO.out _ hv).mono ?_); rintro e w6 ⟨g6, cap6, rfl, ho6, hq⟩; have hv := below_up hv hq; obtain ⟨e0, e1, e2, e3⟩ := HX.out _ (below_up HB5.out hv); obtain ⟨u0, u1, u2, u3⟩ := HY.out _ hv; obtain ⟨n0, n1, n2, n3, n4, n5, n6⟩ := HCL.out _ (below_up HAW.out hv); have hown := own_keepE HOX.out hv; have hBp := below_up HAW.out hv; have hvs := hBp.size) | (go_at_call 116; (with_reducible refine (HND.out _ hv).mono ?_); rintro e w6 ⟨rfl, hq⟩; have hv := below_up hv hq; obtain ⟨e0, e1, e2, e3⟩ := HX.out _ (below_up HB5.out hv); obtain ⟨u0, u1, u2, u3⟩ := HY.out _ hv; obtain ⟨n0, n1, n2, n3, n4, n5, n6⟩ := HCL.out _ (below_up HAW.out hv); have hown := own_keepE HOX.out hv; have hBp := below_up HAW.out hv; have hvs := hBp.size) | (go_at_call 120; (with_reducible refine (HKP.out _ hv).mono ?_); rintro e w6 ⟨rfl, hq⟩; have hv := below_up hv hq; obtain ⟨e0, e1, e2, e3⟩ := HX.out _ (below_up HB5.out hv); obtain ⟨u0, u1, u2, u3⟩ := HY.out _ hv; obtain ⟨n0, n1, n2, n3, n4, n5, n6⟩ := HCL.out _ (below_up HAW.out hv); have hown := own_keepE HOX.out hv; have hBp := below_up HAW.out hv; have hvs := hBp.size) | (at_builtin; refine list_appC rfl _ _ rfl _ _ m FL (by rfl) (by rfl) hown (by omega) (by omega) (by rfl) (by simp [Value.oneCell']) ?_; intro g8 cap8 w8 hown8 hgrow8; have hB8 := below_grownE (below_allocs hBp _) (hown.alloc _) hgrow8 (by simp; omega)))
      rw [← ha]
      go_roundg (nc - (j + 1))
      case rel => first
       | exact ⟨j + 1, by omega, rfl, by go_num, by rw [HFT.out, HGD.out, if_neg (by simp), List.append_nil, HMF.out.1, HMF.out.2]; exact hown, hBp⟩
       | exact ⟨j + 1, by omega, rfl, by go_num, by rw [HFT.out, HGD.out, if_pos (by simp), HFL.out, HM.out]; exact hown8, hB8⟩
      case measure => omega
     ·cases kp
      ·go_wp2_with (first | (go_at_call 118; (with_reducible refine (HGO.out _ hv).mono ?_); rintro e w6 ⟨g6, cap6, rfl, ho6, hq⟩; have hv := below_up hv hq; obtain ⟨e0, e1, e2, e3⟩ := HX.out _ (below_up HB5.out hv); obtain ⟨u0, u1, u2, u3⟩ := HY.out _ hv; obtain ⟨n0, n1, n2, n3, n4, n5, n6⟩ := HCL.out _ (below_up HAW.out hv); have hown := own_keepE HOX.out hv; have hBp := below_up HAW.out hv; have hvs := hBp.size) | (go_at_call 116; (with_reducible refine (HND.out _ hv).mono ?_); rintro e w6 ⟨rfl, hq⟩; have hv := below_up hv hq; obtain ⟨e0, e1, e2, e3⟩ := HX.out _ (below_up HB5.out hv); obtain ⟨u0, u1, u2, u3⟩ := HY.out _ hv; obtain ⟨n0, n1, n2, n3, n4, n5, n6⟩ := HCL.out _ (below_up HAW.out hv); have hown := own_keepE HOX.out hv; have hBp := below_up HAW.out hv; have hvs := hBp.size) | (go_at_call 120; (with_reducible refine (HKP.out _ hv).mono ?_); rintro e w6 ⟨rfl, hq⟩; have hv := below_up hv hq; obtain ⟨e0, e1, e2, e3⟩ := HX.out _ (below_up HB5.out hv); obtain ⟨u0, u1, u2, u3⟩ := HY.out _ hv; obtain ⟨n0, n1, n2, n3, n4, n5, n6⟩ := HCL.out _ (below_up HAW.out hv); have hown := own_keepE HOX.out hv; have hBp := below_up HAW.out hv; have hvs := hBp.size) | (at_builtin; refine list_appC rfl _ _ rfl _ _ m FL (by rfl) (by rfl) hown (by omega) (by omega) (by rfl) (by simp [Value.oneCell']) ?_; intro g8 cap8 w8 hown8 hgrow8; have hB8 := below_grownE (below_allocs hBp _) (hown.alloc _) hgrow8 (by simp; omega)))
       rw [← ha]
       go_roundg (nc - (j + 1))
       case rel => first
        | exact ⟨j + 1, by omega, rfl, by go_num, by rw [HFT.out, HGD.out, if_neg (by simp), List.append_nil, HMF.out.1, HMF.out.2]; exact hown, hBp⟩
        | exact ⟨j + 1, by omega, rfl, by go_num, by rw [HFT.out, HGD.out, if_pos (by simp), HFL.out, HM.out]; exact hown8, hB8⟩
       case measure => omega
      ·go_wp2_with (first | (go_at_call 118; (with_reducible refine (HGO.out _ hv).mono ?_); rintro e w6 ⟨g6, cap6, rfl, ho6, hq⟩; have hv := below_up hv hq; obtain ⟨e0, e1, e2, e3⟩ := HX.out _ (below_up HB5.out hv); obtain ⟨u0, u1, u2, u3⟩ := HY.out _ hv; obtain ⟨n0, n1, n2, n3, n4, n5, n6⟩ := HCL.out _ (below_up HAW.out hv); have hown := own_keepE HOX.out hv; have hBp := below_up HAW.out hv; have hvs := hBp.size) | (go_at_call 116; (with_reducible refine (HND.out _ hv).mono ?_); rintro e w6 ⟨rfl, hq⟩; have hv := below_up hv hq; obtain ⟨e0, e1, e2, e3⟩ := HX.out _ (below_up HB5.out hv); obtain ⟨u0, u1, u2, u3⟩ := HY.out _ hv; obtain ⟨n0, n1, n2, n3, n4, n5, n6⟩ := HCL.out _ (below_up HAW.out hv); have hown := own_keepE HOX.out hv; have hBp := below_up HAW.out hv; have hvs := hBp.size) | (go_at_call 120; (with_reducible refine (HKP.out _ hv).mono ?_); rintro e w6 ⟨rfl, hq⟩; have hv := below_up hv hq; obtain ⟨e0, e1, e2, e3⟩ := HX.out _ (below_up HB5.out hv); obtain ⟨u0, u1, u2, u3⟩ := HY.out _ hv; obtain ⟨n0, n1, n2, n3, n4, n5, n6⟩ := HCL.out _ (below_up HAW.out hv); have hown := own_keepE HOX.out hv; have hBp := below_up HAW.out hv; have hvs := hBp.size) | (at_builtin; refine list_appC rfl _ _ rfl _ _ m FL (by rfl) (by rfl) hown (by omega) (by omega) (by rfl) (by simp [Value.oneCell']) ?_; intro g8 cap8 w8 hown8 hgrow8; have hB8 := below_grownE (below_allocs hBp _) (hown.alloc _) hgrow8 (by simp; omega)))
       rw [← ha]
       go_roundg (nc - (j + 1))
       case rel => first
        | exact ⟨j + 1, by omega, rfl, by go_num, by rw [HFT.out, HGD.out, if_neg (by simp), List.append_nil, HMF.out.1, HMF.out.2]; exact hown, hBp⟩
        | exact ⟨j + 1, by omega, rfl, by go_num, by rw [HFT.out, HGD.out, if_pos (by simp), HFL.out, HM.out]; exact hown8, hB8⟩
       case measure => omega
    ·go_wp2_with (first | (go_at_call 118; (with_reducible refine (HGO.out _ hv).mono ?_); rintro e w6 ⟨g6, cap6, rfl, ho6, hq⟩; have hv := below_up hv hq; obtain ⟨e0, e1, e2, e3⟩ := HX.out _ (below_up HB5.out hv); obtain ⟨u0, u1, u2, u3⟩ := HY.out _ hv; obtain ⟨n0, n1, n2, n3, n4, n5, n6⟩ := HCL.out _ (below_up HAW.out hv); have hown := own_keepE HOX.out hv; have hBp := below_up HAW.out hv; have hvs := hBp.size) | (go_at_call 116; (with_reducible refine (HND.out _ hv).mono ?_); rintro e w6 ⟨rfl, hq⟩; have hv := below_up hv hq; obtain ⟨e0, e1, e2, e3⟩ := HX.out _ (below_up HB5.out hv); obtain ⟨u0, u1, u2, u3⟩ := HY.out _ hv; obtain ⟨n0, n1, n2, n3, n4, n5, n6⟩ := HCL.out _ (below_up HAW.out hv); have hown := own_keepE HOX.out hv; have hBp := below_up HAW.out hv; have hvs := hBp.size) | (go_at_call 120; (with_reducible refine (HKP.out _ hv).mono ?_); rintro e w6 ⟨rfl, hq⟩; have hv := below_up hv hq; obtain ⟨e0, e1, e2, e3⟩ := HX.out _ (below_up HB5.out hv); obtain ⟨u0, u1, u2, u3⟩ := HY.out _ hv; obtain ⟨n0, n1, n2, n3, n4, n5, n6⟩ := HCL.out _ (below_up HAW.out hv); have hown := own_keepE HOX.out hv; have hBp := below_up HAW.out hv; have hvs := hBp.size) | (at_builtin; refine list_appC rfl _ _ rfl _ _ m FL (by rfl) (by rfl) hown (by omega) (by omega) (by rfl) (by simp [Value.oneCell']) ?_; intro g8 cap8 w8 hown8 hgrow8; have hB8 := below_grownE (below_allocs hBp _) (hown.alloc _) hgrow8 (by simp; omega)))
     rw [← ha]
     go_roundg (nc - (j + 1))
     case rel => first
      | exact ⟨j + 1, by omega, rfl, by go_num, by rw [HFT.out, HGD.out, if_neg (by simp), List.append_nil, HMF.out.1, HMF.out.2]; exact hown, hBp⟩
      | exact ⟨j + 1, by omega, rfl, by go_num, by rw [HFT.out, HGD.out, if_pos (by simp), HFL.out, HM.out]; exact hown8, hB8⟩
     case measure => omega
  ·obtain rfl : nc = j := by omega
   rw [← HNC.out, List.take_length, ← HGL.out] at hown
   have HO := Lib.hid ((OwnV.of_own hown).down (show w.heap.size ≤ W1.heap.size by have := HS1.out; omega))
   obtain ⟨g, cap, rfl⟩ := ownV_slice (OwnV.of_own hown)
   clear hown
   go_wp2_with fail
   go_ret
   exact ⟨g, cap, rfl, HO.out, below_up HB1.out hB⟩
theorem awayR_is (L : List Tir) (sa : Option Addr) (sc : Nat) (w : World) (hr : RowE St.eT w sa L) (hl : L.length ≤ 1000000) : Calls Tryz.prog 119 #[.slice sa L.length sc] w fun e w' => e = .returned (.int .i64 (St.awayN L : Nat)) ∧ Below w.heap.size w w' := by
 have HR := Lib.hid hr
 obtain ⟨q, hq⟩ : ∃ q, St.awayN L = q := ⟨_, rfl⟩
 have HQ := Lib.hid hq
 obtain ⟨n, hn⟩ : ∃ n, L.length = n := ⟨_, rfl⟩
 have HN := Lib.hid hn
 rw [hn] at hl ⊢
 rw [hq]
 clear hr hn hq
 go_enter Tryz.func119, Tryz.ntmps119
 go_wp2_with fail
 go_loopg [3, 8] n (fun gk c i wr => ∃ j k : Nat, j ≤ n ∧ gk = n - j ∧ i = .int .i64 j ∧ c = .int .i64 (k : Int) ∧ k = St.awayN (L.take j) ∧ Below w.heap.size w wr)
 case atStart => exact ⟨0, 0, by omega, rfl, rfl, rfl, rfl, Below.refl _ _⟩
 case round =>
  obtain ⟨j, k, hj, rfl, rfl, rfl, hk, hB⟩ := hrel
  have HK := Lib.hid hk
  have hk2 : k ≤ 1000000 := by
   have h1 := St.awayN_le (L.take j)
   rw [List.length_take] at h1; omega
  clear hk
  by_cases hlt : j < n
  ·obtain ⟨x, hx⟩ : ∃ x, L[j]? = some x := ⟨_, List.getElem?_eq_getElem (by rw [HN.out]; exact hlt)⟩
   obtain ⟨b, off, ha, hb, hcell⟩ := (HR.out.keep hB) (by rw [HN.out]; omega)
   have c0 : wr.cell? ⟨b, off + j * 4, none⟩ = some (.string x.name) := hcell j x hx 0 (.string x.name) rfl
   have c1 : wr.cell? ⟨b, off + j * 4 + 1, none⟩ = some (.int .i64 x.room) := hcell j x hx 1 (.int .i64 x.room) rfl
   have c2 : wr.cell? ⟨b, off + j * 4 + 2, none⟩ = some (.int .i64 x.cost) := hcell j x hx 2 (.int .i64 x.cost) rfl
   have c3 : wr.cell? ⟨b, off + j * 4 + 3, none⟩ = some (.bool x.away) := hcell j x hx 3 (.bool x.away) rfl
   clear hcell
   have HNX := Lib.hid (St.awayN_next hx)
   obtain ⟨W3, hW3, hX3, hz3, hB3⟩ := box wr #[.string x.name, .int .i64 x.room, .int .i64 x.cost, .bool x.away] 46
   have HW3 := Lib.hid hW3
   have HAW := Lib.hid (below_up hB hB3)
   obtain ⟨e0, e1, e2, e3⟩ := hX3.four
   have hj0 : (0 : Int) ≤ (j : Int) := by omega
   have hj1 : (j : Int) < (n : Int) := by omega
   obtain ⟨bq, hbq⟩ : ∃ bq, x.away = bq := ⟨_, rfl⟩
   rw [hbq] at HNX e3
   rw [hbq] at c3 HW3
   clear hx hX3 hW3 hz3 hB3 hB
   rw [ha]
   cases bq
   ·go_upto_region 5 with fail
    rw [HW3.out]
    go_wp2_with fail
    rw [← ha]
    go_roundg (n - (j + 1))
    case rel => exact ⟨j + 1, k, by omega, rfl, by go_num, rfl, by rw [HNX.out, HK.out]; simp, HAW.out⟩
    case measure => omega
   ·go_upto_region 5 with fail
    rw [HW3.out]
    go_wp2_with fail
    rw [← ha]
    go_roundg (n - (j + 1))
    case rel => exact ⟨j + 1, k + 1, by omega, rfl, by go_num, by go_num, by rw [HNX.out, HK.out]; simp, HAW.out⟩
    case measure => omega
  ·obtain rfl : j = n := by omega
   go_wp2_with fail
   go_ret
   exact ⟨ret_int (by rw [HK.out, ← HQ.out, ← HN.out, List.take_length]), hB⟩
theorem neededOfR_own (s : Sto) (a : StA) (w : World) (hI : StIn w s a) (y2 : s.files.length ≤ 500) : Calls Tryz.prog 38 #[.agg #[.int .i64 s.least, .int .i64 s.wait, .slice a.ta s.tiers.length a.tc, .slice a.fa s.files.length a.fc, .slice a.ca s.copies.length a.cc, .slice a.ha s.held.length a.hc, .slice a.ba s.bin.length a.bc]] w (DigPost w (St.neededL s)) := by
 obtain ⟨W1, hW1, hP, hz1, hB1⟩ := box w #[.int .i64 s.least, .int .i64 s.wait, .slice a.ta s.tiers.length a.tc, .slice a.fa s.files.length a.fc, .slice a.ca s.copies.length a.cc, .slice a.ha s.held.length a.hc, .slice a.ba s.bin.length a.bc] 28
 have HW1 := Lib.hid hW1
 have HI1 := Lib.hid (hI.keep hB1)
 obtain ⟨q0, q1, q2, q3, q4, q5, q6⟩ := hP.sv7
 have HP := Lib.hid hP; have HB1 := Lib.hid hB1
 clear hW1 hP
 have HNDA := Lib.hid (fun f V (hv : Below W1.heap.size W1 V) => neededR_is s a f V (HI1.out.keep hv))
 have HCL := Lib.hid (fun W (hb : Below W1.heap.size W1 W) => (HP.out.keep hb).sv7)
 have hfl0 := hI.fl
 have HGL : Hid (St.neededL s = (s.files.filter (St.needed s)).map (·.dig)) := Lib.hid rfl
 have HS1 := Lib.hid hz1
 obtain ⟨nf, hnf⟩ : ∃ nf, s.files.length = nf := ⟨_, rfl⟩
 have HNF := Lib.hid hnf
 rw [hnf] at hfl0 y2 q3 HCL HW1 HNDA ⊢
 clear hI hz1 hnf
 go_enter Tryz.func38, Tryz.ntmps38
 go_wp2_with fail
 rw [HW1.out]
 go_wp2_with fail
 clear q0 q1 q2 q3 q4 q5 q6
 go_loopg [3, 9] nf (fun gk v i wr => ∃ j : Nat, j ≤ nf ∧ gk = nf - j ∧ i = .int .i64 j ∧ wr.ownsRow W1.heap.size 9 1 v (((s.files.take j).filter (St.needed s)).map (·.dig)).length (St.eS.flat (((s.files.take j).filter (St.needed s)).map (·.dig))) ∧ Below W1.heap.size W1 wr)
 case atStart => exact ⟨0, by omega, rfl, rfl, World.ownsRow_nil _ _ _ _, Below.refl _ _⟩
 case round =>
  obtain ⟨j, hj, rfl, rfl, hown, hB⟩ := hrel
  by_cases hlt : j < nf
  ·obtain ⟨x, hx⟩ : ∃ x, s.files[j]? = some x := ⟨_, List.getElem?_eq_getElem (by rw [HNF.out]; exact hlt)⟩
   obtain ⟨b, off, ha, hb, hcell⟩ := ((HI1.out.keep hB).fi) (by rw [HNF.out]; omega)
   have c0 : wr.cell? ⟨b, off + j * 4, none⟩ = some (.string x.dig) := hcell j x hx 0 (.string x.dig) rfl
   have c1 : wr.cell? ⟨b, off + j * 4 + 1, none⟩ = some (.int .i64 x.size) := hcell j x hx 1 (.int .i64 x.size) rfl
   have c2 : wr.cell? ⟨b, off + j * 4 + 2, none⟩ = some (.int .i64 x.kind) := hcell j x hx 2 (.int .i64 x.kind) rfl
   have c3 : wr.cell? ⟨b, off + j * 4 + 3, none⟩ = some (.string x.frm) := hcell j x hx 3 (.string x.frm) rfl
   clear hcell
   have hft := St.filtmap_take (p := St.needed s) (f := fun f : Fil => f.dig) hx
   have hfl : (((s.files.take j).filter (St.needed s)).map (·.dig)).length ≤ s.files.length := by rw [List.length_map]; exact St.filter_len (p := St.needed s) (L := s.files) j
   rw [HNF.out] at hfl
   obtain ⟨W3, hW3, hX3, hz3, hB3⟩ := box wr #[.string x.dig, .int .i64 x.size, .int .i64 x.kind, .string x.frm] 30
   have HW3 := Lib.hid hW3
   have HAL := Lib.hid (below_up hB hB3)
   have HX : Hid (∀ V, Below W3.heap.size W3 V → V.cell? ⟨wr.heap.size, 0, none⟩ = some (.string x.dig) ∧ V.cell? ⟨wr.heap.size, 1, none⟩ = some (.int .i64 x.size) ∧ V.cell? ⟨wr.heap.size, 2, none⟩ = some (.int .i64 x.kind) ∧ V.cell? ⟨wr.heap.size, 3, none⟩ = some (.string x.frm)) := Lib.hid fun V hv => (hX3.keep hv).four
   have HND := Lib.hid (HNDA.out x _ HAL.out)
   have hj0 : (0 : Int) ≤ (j : Int) := by omega
   have hj1 : (j : Int) < (nf : Int) := by omega
   have HFT := Lib.hid hft
   have hown3 := own_keepE hown hB3
   generalize (((s.files.take j).filter (St.needed s)).map (·.dig)) = G at *
   obtain ⟨nd, hnd⟩ : ∃ nd, St.needed s x = nd := ⟨_, rfl⟩
   rw [hnd] at HND HFT
   obtain ⟨FL, hFL⟩ : ∃ FL, St.eS.flat G = FL := ⟨_, rfl⟩
   obtain ⟨m, hm⟩ : ∃ m, G.length = m := ⟨_, rfl⟩
   have HFL : Hid (St.eS.flat (G ++ [x.dig]) = FL ++ [.string x.dig]) := Lib.hid (by rw [Enc.flat_snoc, hFL]; rfl)
   have HM : Hid ((G ++ [x.dig]).length = m + 1) := Lib.hid (by rw [List.length_append, hm]; rfl)
   have HMF := Lib.hid (And.intro hm hFL)
   have HOX := Lib.hid hown3
   rw [hFL, hm] at HOX
   rw [hm] at hfl
   obtain ⟨e0, e1, e2, e3⟩ := HX.out _ (Below.refl _ _)
   obtain ⟨n0, n1, n2, n3, n4, n5, n6⟩ := HCL.out _ HAL.out
   clear hx hB hX3 hz3 hB3 hW3 hft hown hown3 hm hFL hnd
   rw [ha] at HND HCL n3 ⊢
   go_upto_region 5 with fail
   rw [HW3.out]
   clear c0 c1 c2 c3
   cases nd
   ·go_wp2_with (go_at_call 116; (with_reducible refine HND.out.mono ?_); rintro e w6 ⟨rfl, hq⟩)
    rw [← ha]
    go_roundg (nf - (j + 1))
    case rel => exact ⟨j + 1, by omega, rfl, by go_num, by rw [HFT.out, if_neg (by decide), List.append_nil, HMF.out.1, HMF.out.2]; exact own_keepE HOX.out hq, below_up HAL.out hq⟩
    case measure => omega
   ·go_wp2_with (first
     | (go_at_call 116; (with_reducible refine HND.out.mono ?_); rintro e w6 ⟨rfl, hq⟩; obtain ⟨e0, e1, e2, e3⟩ := HX.out _ hq; have hown6 := own_keepE HOX.out hq; have hB6 := below_up HAL.out hq; have hs6 := hB6.size)
     | (at_builtin; refine list_appS rfl _ _ rfl _ _ m FL (by rfl) (by rfl) hown6 (by omega) (by omega) (by rfl) (by simp [Value.oneCell']) ?_; intro g8 cap8 w8 hown8 hgrow8; have hB8 := below_grownE (below_allocs hB6 _) (hown6.alloc _) hgrow8 (by simp; omega)))
    rw [← ha]
    go_roundg (nf - (j + 1))
    case rel => exact ⟨j + 1, by omega, rfl, by go_num, by rw [HFT.out, if_pos (by first | rfl | trivial), HFL.out, HM.out]; exact hown8, hB8⟩
    case measure => omega
  ·obtain rfl : nf = j := by omega
   rw [← HNF.out, List.take_length, ← HGL.out] at hown
   have HO := Lib.hid (OwnV.of_own hown)
   obtain ⟨g, cap, rfl⟩ := ownV_slice (OwnV.of_own hown)
   have HRE := Lib.hid (RowE.ofV (E := St.eS) (ca := cap) HO.out)
   clear hown
   go_wp2_with fail
   go_ret
   exact ⟨g, cap, rfl, HO.out.down (by have := HS1.out; omega), below_up HB1.out hB⟩
theorem lacksR_is (s : Sto) (a : StA) (d : ByteArray) (w : World) (hI : StIn w s a) (y1 : s.tiers.length ≤ 8) (y3 : s.copies.length ≤ 4000) : Calls Tryz.prog 117 #[.agg #[.int .i64 s.least, .int .i64 s.wait, .slice a.ta s.tiers.length a.tc, .slice a.fa s.files.length a.fc, .slice a.ca s.copies.length a.cc, .slice a.ha s.held.length a.hc, .slice a.ba s.bin.length a.bc], .string d] w fun e w' => e = .returned (.bool (St.short s d)) ∧ Below w.heap.size w w' := by
 obtain ⟨W1, hW1, hP, hz1, hB1⟩ := box w #[.int .i64 s.least, .int .i64 s.wait, .slice a.ta s.tiers.length a.tc, .slice a.fa s.files.length a.fc, .slice a.ca s.copies.length a.cc, .slice a.ha s.held.length a.hc, .slice a.ba s.bin.length a.bc] 28
 have HW1 := Lib.hid hW1
 have HI1 := Lib.hid (hI.keep hB1)
 obtain ⟨q0, q1, q2, q3, q4, q5, q6⟩ := hP.sv7
 have HP := Lib.hid hP; have HB1 := Lib.hid hB1
 clear hW1 hP
 have HCL := Lib.hid (fun W (hb : Below W1.heap.size W1 W) => (HP.out.keep hb).sv7)
 have HGO := Lib.hid (goodOf_is s a d W1 HI1.out y1 y3)
 unfold TirPost at HGO
 have HAT := Lib.hid (fun V (hv : Below W1.heap.size W1 V) => awayR_is s.tiers a.ta a.tc V (HI1.out.keep hv).ti (by omega))
 have hgl := St.goodL_len s d
 have hSH : St.short s d = (decide (((St.goodL s d).length : Int) < s.least) || (decide (St.awayN (St.goodL s d) = 0) && decide (0 < St.awayN s.tiers))) := rfl
 obtain ⟨mt, hmt⟩ : ∃ mt, St.awayN s.tiers = mt := ⟨_, rfl⟩
 obtain ⟨GL, hGL⟩ : ∃ GL, St.goodL s d = GL := ⟨_, rfl⟩
 rw [hGL] at HGO hSH hgl
 rw [hmt] at HAT hSH
 obtain ⟨mg, hmg⟩ : ∃ mg, GL.length = mg := ⟨_, rfl⟩
 have HMG := Lib.hid hmg
 rw [hmg] at HGO hSH hgl
 obtain ⟨ma, hma⟩ : ∃ ma, St.awayN GL = ma := ⟨_, rfl⟩
 have HMA := Lib.hid hma
 rw [hma] at hSH
 obtain ⟨lb, hlb⟩ : ∃ lb, decide ((mg : Int) < s.least) = lb := ⟨_, rfl⟩
 obtain ⟨zb, hzb⟩ : ∃ zb, decide (ma = 0) = zb := ⟨_, rfl⟩
 obtain ⟨tb, htb⟩ : ∃ tb, decide (0 < mt) = tb := ⟨_, rfl⟩
 obtain ⟨mi, hmi⟩ : ∃ mi : Int, (ma : Int) = mi := ⟨_, rfl⟩
 obtain ⟨ti, hti0⟩ : ∃ ti : Int, (mt : Int) = ti := ⟨_, rfl⟩
 have hzi : (mi == 0) = zb := by rw [← hzb, ← hmi]; cases ma <;> simp <;> omega
 have hti : decide ((0 : Int) < ti) = tb := by rw [← htb, ← hti0]; simp
 have HMI := Lib.hid hmi
 rw [hti0] at HAT
 rw [hlb, hzb, htb] at hSH
 rw [hSH]
 clear hI hz1 hSH hmt hGL hmg hma hzb htb hmi hti0 y3
 go_enter Tryz.func117, Tryz.ntmps117
 go_upto_region 1 with fail
 rw [HW1.out]
 go_upto_region 2 with (go_at_call 118; (with_reducible refine HGO.out.mono ?_); rintro e w3 ⟨g, cap, rfl, ho, hq⟩; have hv := hq)
 have HRE : Hid (RowE St.eT w3 g GL) := Lib.hid (RowE.ofV (E := St.eT) (ca := cap) (by rw [HMG.out]; exact ho))
 have HAG := Lib.hid (awayR_is GL g cap w3 HRE.out (by rw [HMG.out]; omega))
 rw [HMG.out, HMA.out, HMI.out] at HAG
 clear ho hq q0 q1 q2 q3 q4 q5 q6
 obtain ⟨q0, q1, q2, q3, q4, q5, q6⟩ := HCL.out _ hv
 have HVV := Lib.hid hv
 cases lb
 ·cases zb
  ·go_wp2_with (go_at_call 119; (with_reducible refine HAG.out.mono ?_); rintro e w4 ⟨rfl, hq⟩)
   go_ret
   exact ⟨ret_bool (by simp), below_up HB1.out (below_up HVV.out hq)⟩
  ·go_wp2_with (first
    | (go_at_call 119; (with_reducible refine HAG.out.mono ?_); rintro e w4 ⟨rfl, hq⟩; have hv4 := below_up HVV.out hq; obtain ⟨q0, q1, q2, q3, q4, q5, q6⟩ := HCL.out _ hv4)
    | (go_at_call 119; (with_reducible refine (HAT.out _ hv4).mono ?_); rintro e w5 ⟨rfl, hq5⟩))
   go_ret
   exact ⟨ret_bool (by simp [hti]), below_up HB1.out (below_up hv4 hq5)⟩
 ·go_wp2_with fail
  go_ret
  exact ⟨ret_bool (by simp), below_up HB1.out HVV.out⟩
theorem keptError_is (s : Sto) (a : StA) (w : World) (hI : StIn w s a) :
  Calls Tryz.prog 79 #[.agg #[.int .i64 s.least, .int .i64 s.wait, .slice a.ta s.tiers.length a.tc, .slice a.fa s.files.length a.fc, .slice a.ca s.copies.length a.cc, .slice a.ha s.held.length a.hc, .slice a.ba s.bin.length a.bc]] w fun e w' => e = .returned (.int .i64 (St.keptE s)) ∧ Below w.heap.size w w' := by
 obtain ⟨W1, hW1, hP, hz1, hB1⟩ := box w #[.int .i64 s.least, .int .i64 s.wait, .slice a.ta s.tiers.length a.tc, .slice a.fa s.files.length a.fc, .slice a.ca s.copies.length a.cc, .slice a.ha s.held.length a.hc, .slice a.ba s.bin.length a.bc] 28
 have HW1 := Lib.hid hW1
 have HI1 := Lib.hid (hI.keep hB1)
 obtain ⟨q0, q1, q2, q3, q4, q5, q6⟩ := hP.sv7
 have HP := Lib.hid hP; have HB1 := Lib.hid hB1
 clear hW1 hP
 have hhl := hI.hl; have hbl := hI.bl
 obtain ⟨qa, hqa⟩ : ∃ qa, St.scan (St.heldE s.files) [] s.held = qa := ⟨_, rfl⟩
 obtain ⟨qb, hqb⟩ : ∃ qb, St.scan (St.binE s.files s.held) [] s.bin = qb := ⟨_, rfl⟩
 have HF : Hid (St.keptE s = if qa = 0 then qb else qa) := Lib.hid (by unfold St.keptE; rw [hqa, hqb])
 have HQ1 : Hid (St.scan (St.heldE s.files) (s.held.take 0) (s.held.drop 0) = qa) := Lib.hid hqa
 have HQ2 : Hid (St.scan (St.binE s.files s.held) (s.bin.take 0) (s.bin.drop 0) = qb) := Lib.hid hqb
 have HOR := Lib.hid (fun (d : ByteArray) W (hb : Below W1.heap.size W1 W) => original_is s a d W (HI1.out.keep hb))
 have HHS := Lib.hid (fun (d : ByteArray) W (hb : Below W1.heap.size W1 W) => containsS_is s.held a.ha a.hc d W (HI1.out.keep hb).he hhl)
 have HID := Lib.hid (fun (n : Int) W => inS_is n 0 73048 W)
 have HCL : Hid (∀ W, Below W1.heap.size W1 W → W.cell? ⟨w.heap.size, 0, none⟩ = some (.int .i64 s.least) ∧ W.cell? ⟨w.heap.size, 1, none⟩ = some (.int .i64 s.wait) ∧ W.cell? ⟨w.heap.size, 2, none⟩ = some (.slice a.ta s.tiers.length a.tc) ∧ W.cell? ⟨w.heap.size, 3, none⟩ = some (.slice a.fa s.files.length a.fc) ∧ W.cell? ⟨w.heap.size, 4, none⟩ = some (.slice a.ca s.copies.length a.cc) ∧ W.cell? ⟨w.heap.size, 5, none⟩ = some (.slice a.ha s.held.length a.hc) ∧ W.cell? ⟨w.heap.size, 6, none⟩ = some (.slice a.ba s.bin.length a.bc)) := Lib.hid fun W hb =>
  have k := HP.out.keep hb
  ⟨(k.cell 0).trans rfl, (k.cell 1).trans rfl, (k.cell 2).trans rfl, (k.cell 3).trans rfl, (k.cell 4).trans rfl, (k.cell 5).trans rfl, (k.cell 6).trans rfl⟩
 clear hI hqa hqb
 obtain ⟨n, hn⟩ : ∃ n, s.held.length = n := ⟨_, rfl⟩
 have HN := Lib.hid hn
 obtain ⟨nt, hnt⟩ : ∃ nt, s.bin.length = nt := ⟨_, rfl⟩
 have HNT := Lib.hid hnt
 rw [hn] at q5 hhl HW1 HOR HHS HCL ⊢
 rw [hnt] at q6 hbl HW1 HOR HCL ⊢
 clear hn hnt
 go_enter Tryz.func79, Tryz.ntmps79
 go_wp2_with fail
 rw [HW1.out]
 go_wp2_with fail
 clear q0 q1 q2 q3 q4 q5 q6
 go_loopg [10] n (fun gk i wr => ∃ j : Nat, j ≤ n ∧ gk = n - j ∧ i = .int .i64 j ∧ St.scan (St.heldE s.files) (s.held.take j) (s.held.drop j) = qa ∧ Below W1.heap.size W1 wr)
 case atStart => exact ⟨0, by omega, rfl, rfl, HQ1.out, Below.refl _ _⟩
 case round =>
  obtain ⟨j, hj, rfl, rfl, hs, hBW⟩ := hrel
  have HS := Lib.hid hs; clear hs
  have HBR := Lib.hid (below_up HB1.out hBW)
  by_cases hlt : j < n
  ·obtain ⟨x, hx⟩ : ∃ x, s.held[j]? = some x := ⟨_, List.getElem?_eq_getElem (by rw [HN.out]; exact hlt)⟩
   obtain ⟨b, off, ha, hb, hcell⟩ := (HI1.out.keep hBW).he (by rw [HN.out]; omega)
   have HCE : Hid (∀ (W : World), Below W1.heap.size W1 W → ∀ (i : Nat) (y : ByteArray), s.held[i]? = some y → W.cell? ⟨b, off + i, none⟩ = some (.string y)) := Lib.hid fun W hb i y hy => by
    obtain ⟨b2, off2, ha2, hb2, hc2⟩ := (HI1.out.keep hb).he (by rw [HN.out]; omega)
    rw [ha] at ha2; cases ha2
    have := hc2 i y hy 0 (.string y) rfl
    rw [show off + i * St.eS.k + 0 = off + i by simp [St.eS]] at this
    exact this
   have c0 := HCE.out _ hBW j x hx
   clear hcell
   have HX := Lib.hid hx
   obtain ⟨kd, hkd⟩ : ∃ kd, decide (St.kindOf s.files x = 1) = kd := ⟨_, rfl⟩
   have HOX := Lib.hid (HOR.out x _ hBW)
   rw [hkd] at HOX
   have HDF : Hid (St.heldE s.files (s.held.take j) x = if kd = true then (match (s.held.take j).getLast? with | some p => (if St.le x p = true then 5 else 0) | none => 0) else 7) := Lib.hid (by unfold St.heldE; rw [← hkd]; simp only [decide_eq_true_eq]; rfl)
   obtain ⟨m0, m1, m2, m3, m4, m5, m6⟩ := HCL.out _ hBW
   have hj0 : (0 : Int) ≤ (j : Int) := by omega
   have hj1 : (j : Int) < (n : Int) := by omega
   have HBW := Lib.hid hBW
   clear hx hkd hBW
   rw [ha] at m5 HOX HCL ⊢
   cases kd
   ·have HBD : Hid (St.heldE s.files (s.held.take j) x = 7) := Lib.hid (by rw [HDF.out]; rfl)
    have HE := Lib.hid (St.scan_here HS.out HX.out (by rw [HBD.out]; decide))
    go_wp2_with (go_at_call 75; (with_reducible refine HOX.out.mono ?_); rintro e w6 ⟨rfl, hB6⟩)
    go_ret
    exact ⟨ret_int (by rw [HF.out, HE.out, HBD.out]; rfl), below_up HBR.out hB6⟩
   ·have HDG : Hid (St.heldE s.files (s.held.take j) x = (match (s.held.take j).getLast? with | some p => (if St.le x p = true then 5 else 0) | none => 0)) := Lib.hid (by rw [HDF.out, if_pos rfl])
    go_upto_region 6 with (go_at_call 75; (with_reducible refine HOX.out.mono ?_); rintro e w6 ⟨rfl, hB6⟩; have HBJ := Lib.hid (below_up HBW.out hB6); have HAL := Lib.hid (below_up HBR.out hB6))
    clear m0 m1 m2 m3 m4 m5 m6 c0
    obtain ⟨m0, m1, m2, m3, m4, m5, m6⟩ := HCL.out _ HBJ.out
    rcases Nat.eq_zero_or_pos j with rfl | hjp
    ·have HBD : Hid (St.heldE s.files (s.held.take 0) x = 0) := Lib.hid (by rw [HDG.out, St.last_zero])
     have HE := Lib.hid (St.scan_next HS.out HX.out HBD.out)
     go_wp2_with fail
     rw [← ha]
     go_roundg (n - (0 + 1))
     case rel => exact ⟨0 + 1, by omega, rfl, by go_num, HE.out, HBJ.out⟩
     case measure => omega
    ·obtain ⟨p, hp, hlast⟩ := St.last_at (L := s.held) (by rw [HN.out]; exact hlt) hjp
     obtain ⟨i, rfl⟩ : ∃ i, j = i + 1 := ⟨j - 1, by omega⟩
     rw [Nat.add_sub_cancel] at hp
     have p0 := HCE.out _ HBJ.out i p hp
     obtain ⟨bl, hbq⟩ : ∃ bl, (Op.bytesLess x.toList p.toList || x.toList == p.toList) = bl := ⟨_, rfl⟩
     have HBQ : Hid (St.le x p = bl) := Lib.hid hbq
     have HDZ : Hid (St.heldE s.files (s.held.take (i + 1)) x = if bl = true then 5 else 0) := Lib.hid (by rw [HDG.out, hlast, ← HBQ.out])
     clear hp hlast
     cases bl
     ·have HBD : Hid (St.heldE s.files (s.held.take (i + 1)) x = 0) := Lib.hid (by rw [HDZ.out]; rfl)
      have HE := Lib.hid (St.scan_next HS.out HX.out HBD.out)
      go_wp2_with fail
      rw [← ha]
      go_roundg (n - (i + 1 + 1))
      case rel => exact ⟨i + 1 + 1, by omega, rfl, by go_num, HE.out, HBJ.out⟩
      case measure => omega
     ·have HBD : Hid (St.heldE s.files (s.held.take (i + 1)) x = 5) := Lib.hid (by rw [HDZ.out]; rfl)
      have HE := Lib.hid (St.scan_here HS.out HX.out (by rw [HBD.out]; decide))
      go_wp2_with fail
      go_ret
      exact ⟨ret_int (by rw [HF.out, HE.out, HBD.out]; rfl), HAL.out⟩
  ·obtain rfl : j = n := by omega
   have HE := HS.out
   rw [← HN.out] at HE
   have hq0 := St.scan_done HE
   have HF2 : Hid (St.keptE s = qb) := Lib.hid (by rw [HF.out, if_pos hq0])
   clear HE hq0
   obtain ⟨m0, m1, m2, m3, m4, m5, m6⟩ := HCL.out _ hBW
   have HBK := Lib.hid hBW
   clear hBW
   go_wp2_with fail
   clear m0 m1 m2 m3 m4 m5 m6
   go_loopg [35] nt (fun gk i wq => ∃ k : Nat, k ≤ nt ∧ gk = nt - k ∧ i = .int .i64 k ∧ St.scan (St.binE s.files s.held) (s.bin.take k) (s.bin.drop k) = qb ∧ Below W1.heap.size W1 wq)
   case atStart => exact ⟨0, by omega, rfl, rfl, HQ2.out, HBK.out⟩
   case round =>
    obtain ⟨k, hk, rfl, rfl, hs, hBWq⟩ := hrel
    have HS2 := Lib.hid hs; clear hs
    have HBQ := Lib.hid (below_up HB1.out hBWq)
    by_cases hlt2 : k < nt
    ·obtain ⟨x, hx⟩ : ∃ x, s.bin[k]? = some x := ⟨_, List.getElem?_eq_getElem (by rw [HNT.out]; exact hlt2)⟩
     obtain ⟨b, off, ha, hb, hcell⟩ := (HI1.out.keep hBWq).bi (by rw [HNT.out]; omega)
     have c0 : wr.cell? ⟨b, off + k * 2, none⟩ = some (.string x.dig) := hcell k x hx 0 (.string x.dig) rfl
     have c1 : wr.cell? ⟨b, off + k * 2 + 1, none⟩ = some (.int .i64 x.day) := hcell k x hx 1 (.int .i64 x.day) rfl
     clear hcell
     have HX := Lib.hid hx
     obtain ⟨W3, hW3, hX3, hz3, hB3⟩ := box wr #[.string x.dig, .int .i64 x.day] 112
     have HW3 := Lib.hid hW3
     have HD : Hid (∀ W, Below W3.heap.size W3 W → W.cell? ⟨wr.heap.size, 0, none⟩ = some (.string x.dig) ∧ W.cell? ⟨wr.heap.size, 1, none⟩ = some (.int .i64 x.day)) := Lib.hid fun W hb =>
      have k := hX3.keep hb
      ⟨(k.cell 0).trans rfl, (k.cell 1).trans rfl⟩
     obtain ⟨d0, d1⟩ := HD.out _ (Below.refl _ _)
     have HAL3 := Lib.hid (below_up HBQ.out hB3)
     have HAW3 := Lib.hid (below_up hBWq hB3)
     obtain ⟨kd, hkd⟩ : ∃ kd, decide (St.kindOf s.files x.dig = 1) = kd := ⟨_, rfl⟩
     have HOX := Lib.hid (HOR.out x.dig _ HAW3.out)
     rw [hkd] at HOX
     have HDF : Hid (St.binE s.files s.held (s.bin.take k) x = if kd = true then (match (s.bin.take k).getLast? with | some p => (if St.le x.dig p.dig = true then 5 else St.binR s.held x) | none => St.binR s.held x) else 7) := Lib.hid (by unfold St.binE; rw [← hkd]; simp only [decide_eq_true_eq]; rfl)
     obtain ⟨m0, m1, m2, m3, m4, m5, m6⟩ := HCL.out _ HAW3.out
     have hj0 : (0 : Int) ≤ (k : Int) := by omega
     have hj1 : (k : Int) < (nt : Int) := by omega
     have HPV : Hid (∀ W, Below W1.heap.size W1 W → ∀ (i : Nat) (y : Gon), s.bin[i]? = some y → W.cell? ⟨b, off + i * 2, none⟩ = some (.string y.dig)) := Lib.hid fun W hb i y hy => by
      obtain ⟨b2, off2, ha2, hb2, hc2⟩ := (HI1.out.keep hb).bi (by rw [HNT.out]; omega)
      rw [ha] at ha2; cases ha2
      exact hc2 i y hy 0 _ rfl
     clear hx hX3 hz3 hB3 hW3 hBWq hkd
     rw [ha] at m6 HOX HCL ⊢
     cases kd
     ·have HBD : Hid (St.binE s.files s.held (s.bin.take k) x = 7) := Lib.hid (by rw [HDF.out]; rfl)
      have HE := Lib.hid (St.scan_here HS2.out HX.out (by rw [HBD.out]; decide))
      go_upto_region 12 with fail
      rw [HW3.out]
      go_wp2_with (go_at_call 75; (with_reducible refine HOX.out.mono ?_); rintro e w6 ⟨rfl, hB6⟩)
      go_ret
      exact ⟨ret_int (by rw [HF2.out, HE.out, HBD.out]), below_up HAL3.out hB6⟩
     ·have HDG : Hid (St.binE s.files s.held (s.bin.take k) x = (match (s.bin.take k).getLast? with | some p => (if St.le x.dig p.dig = true then 5 else St.binR s.held x) | none => St.binR s.held x)) := Lib.hid (by rw [HDF.out, if_pos rfl])
      obtain ⟨dy, hdy⟩ : ∃ dy, St.inB x.day 0 73048 = dy := ⟨_, rfl⟩
      have HDY := Lib.hid hdy
      clear hdy
      go_upto_region 12 with fail
      rw [HW3.out]
      go_upto_region 14 with (go_at_call 75; (with_reducible refine HOX.out.mono ?_); rintro e w6 ⟨rfl, hB6⟩; have HB36 := Lib.hid hB6)
      have HAL6 := Lib.hid (below_up HAL3.out HB36.out)
      have HAW6 := Lib.hid (below_up HAW3.out HB36.out)
      have HAQ6 := HAW6
      clear c0 c1 m0 m1 m2 m3 m4 m5 m6 d0 d1
      obtain ⟨d0, d1⟩ := HD.out _ HB36.out
      obtain ⟨m0, m1, m2, m3, m4, m5, m6⟩ := HCL.out _ HAW6.out
      have k0 := cell_regrown d0
      have k6 := cell_regrown m6
      clear m0 m1 m2 m3 m4 m5 m6 d0 d1
      rcases Nat.eq_zero_or_pos k with rfl | hjp
      ·have HDZ : Hid (St.binE s.files s.held (s.bin.take 0) x = St.binR s.held x) := Lib.hid (by rw [HDG.out, St.last_zero])
       refine wp_region_quiet_below (by kernel_rfl) (by kernel_rfl) ?_
       repeat (go_big_quiet_step ((fail)))
       refine wpQuiet_nil ?_
       intro _ hw'
       obtain ⟨⟨dq, osq⟩, hw''⟩ := hw'
       subst hw''
       have hBw7 := below_regrown w6 dq osq
       generalize grow (redrawn w6 dq) osq = w7 at *
       clear dq osq
       clear k0 k6
       obtain ⟨d0, d1⟩ := HD.out _ (below_up HB36.out hBw7)
       obtain ⟨m0, m1, m2, m3, m4, m5, m6⟩ := HCL.out _ (below_up HAW6.out hBw7)
       have HAW7 := Lib.hid (below_up HAW6.out hBw7)
       have HAL7 := Lib.hid (below_up HAL6.out hBw7)
       have HAQ7 := Lib.hid (below_up HAQ6.out hBw7)
       have HH2 := Lib.hid (HHS.out x.dig _ HAW7.out)
       cases dy
       ·have HBD : Hid (St.binE s.files s.held (s.bin.take (0)) x = 2) := Lib.hid (by rw [HDZ.out]; unfold St.binR; rw [HDY.out]; rfl)
        have HE := Lib.hid (St.scan_here HS2.out HX.out (by rw [HBD.out]; decide))
        go_wp2_with (go_at_call 70; (with_reducible refine (HID.out _ _).mono ?_); rw [HDY.out]; rintro e w8 ⟨rfl, rfl⟩)
        go_ret
        exact ⟨ret_int (by rw [HF2.out, HE.out, HBD.out]), HAL7.out⟩
       ·obtain ⟨hh, hhh⟩ : ∃ hh, St.hasS s.held x.dig = hh := ⟨_, rfl⟩
        have HBR2 : Hid (St.binE s.files s.held (s.bin.take (0)) x = if hh = true then 6 else 0) := Lib.hid (by rw [HDZ.out]; unfold St.binR; rw [HDY.out, hhh]; rfl)
        rw [hhh] at HH2
        clear hhh
        cases hh
        ·have HBD : Hid (St.binE s.files s.held (s.bin.take (0)) x = 0) := Lib.hid (by rw [HBR2.out]; rfl)
         have HE := Lib.hid (St.scan_next HS2.out HX.out HBD.out)
         go_wp2_with (first | (go_at_call 70; (with_reducible refine (HID.out _ _).mono ?_); rw [HDY.out]; rintro e w8 ⟨rfl, rfl⟩) | (go_at_call 49; (with_reducible refine HH2.out.mono ?_); rintro e w8 ⟨rfl, rfl⟩))
         rw [← ha]
         go_roundg (nt - (0 + 1))
         case rel => exact ⟨0 + 1, by omega, rfl, by go_num, HE.out, HAQ7.out⟩
         case measure => omega
        ·have HBD : Hid (St.binE s.files s.held (s.bin.take (0)) x = 6) := Lib.hid (by rw [HBR2.out]; rfl)
         have HE := Lib.hid (St.scan_here HS2.out HX.out (by rw [HBD.out]; decide))
         go_wp2_with (first | (go_at_call 70; (with_reducible refine (HID.out _ _).mono ?_); rw [HDY.out]; rintro e w8 ⟨rfl, rfl⟩) | (go_at_call 49; (with_reducible refine HH2.out.mono ?_); rintro e w8 ⟨rfl, rfl⟩))
         go_ret
         exact ⟨ret_int (by rw [HF2.out, HE.out, HBD.out]), HAL7.out⟩
      ·obtain ⟨p, hp, hlast⟩ := St.last_at (L := s.bin) (by rw [HNT.out]; exact hlt2) hjp
       obtain ⟨i, rfl⟩ : ∃ i, k = i + 1 := ⟨k - 1, by omega⟩
       rw [Nat.add_sub_cancel] at hp
       have k5 := cell_regrown (HPV.out _ HAW6.out i p hp)
       obtain ⟨bl, hbq⟩ : ∃ bl, (Op.bytesLess x.dig.toList p.dig.toList || x.dig.toList == p.dig.toList) = bl := ⟨_, rfl⟩
       have HBQ2 : Hid (St.le x.dig p.dig = bl) := Lib.hid hbq
       have HDP : Hid (St.binE s.files s.held (s.bin.take (i + 1)) x = if bl = true then 5 else St.binR s.held x) := Lib.hid (by rw [HDG.out, hlast, ← HBQ2.out])
       have HBC := Lib.hid hbq
       clear hp hlast hbq
       refine wp_region_quiet_below (by kernel_rfl) (by kernel_rfl) ?_
       repeat (go_big_quiet_step ((fail)))
       refine wpQuiet_nil ?_
       intro _ hw'
       obtain ⟨⟨dq, osq⟩, hw''⟩ := hw'
       subst hw''
       have hBw7 := below_regrown w6 dq osq
       generalize grow (redrawn w6 dq) osq = w7 at *
       clear dq osq
       clear k0 k5 k6
       cases bl
       ·have HDZ : Hid (St.binE s.files s.held (s.bin.take (i + 1)) x = St.binR s.held x) := Lib.hid (by rw [HDP.out]; rfl)
        simp only [HBC.out]
        obtain ⟨d0, d1⟩ := HD.out _ (below_up HB36.out hBw7)
        obtain ⟨m0, m1, m2, m3, m4, m5, m6⟩ := HCL.out _ (below_up HAW6.out hBw7)
        have HAW7 := Lib.hid (below_up HAW6.out hBw7)
        have HAL7 := Lib.hid (below_up HAL6.out hBw7)
        have HAQ7 := Lib.hid (below_up HAQ6.out hBw7)
        have HH2 := Lib.hid (HHS.out x.dig _ HAW7.out)
        cases dy
        ·have HBD : Hid (St.binE s.files s.held (s.bin.take (i + 1)) x = 2) := Lib.hid (by rw [HDZ.out]; unfold St.binR; rw [HDY.out]; rfl)
         have HE := Lib.hid (St.scan_here HS2.out HX.out (by rw [HBD.out]; decide))
         go_wp2_with (go_at_call 70; (with_reducible refine (HID.out _ _).mono ?_); rw [HDY.out]; rintro e w8 ⟨rfl, rfl⟩)
         go_ret
         exact ⟨ret_int (by rw [HF2.out, HE.out, HBD.out]), HAL7.out⟩
        ·obtain ⟨hh, hhh⟩ : ∃ hh, St.hasS s.held x.dig = hh := ⟨_, rfl⟩
         have HBR2 : Hid (St.binE s.files s.held (s.bin.take (i + 1)) x = if hh = true then 6 else 0) := Lib.hid (by rw [HDZ.out]; unfold St.binR; rw [HDY.out, hhh]; rfl)
         rw [hhh] at HH2
         clear hhh
         cases hh
         ·have HBD : Hid (St.binE s.files s.held (s.bin.take (i + 1)) x = 0) := Lib.hid (by rw [HBR2.out]; rfl)
          have HE := Lib.hid (St.scan_next HS2.out HX.out HBD.out)
          go_wp2_with (first | (go_at_call 70; (with_reducible refine (HID.out _ _).mono ?_); rw [HDY.out]; rintro e w8 ⟨rfl, rfl⟩) | (go_at_call 49; (with_reducible refine HH2.out.mono ?_); rintro e w8 ⟨rfl, rfl⟩))
          rw [← ha]
          go_roundg (nt - (i + 1 + 1))
          case rel => exact ⟨i + 1 + 1, by omega, rfl, by go_num, HE.out, HAQ7.out⟩
          case measure => omega
         ·have HBD : Hid (St.binE s.files s.held (s.bin.take (i + 1)) x = 6) := Lib.hid (by rw [HBR2.out]; rfl)
          have HE := Lib.hid (St.scan_here HS2.out HX.out (by rw [HBD.out]; decide))
          go_wp2_with (first | (go_at_call 70; (with_reducible refine (HID.out _ _).mono ?_); rw [HDY.out]; rintro e w8 ⟨rfl, rfl⟩) | (go_at_call 49; (with_reducible refine HH2.out.mono ?_); rintro e w8 ⟨rfl, rfl⟩))
          go_ret
          exact ⟨ret_int (by rw [HF2.out, HE.out, HBD.out]), HAL7.out⟩
       ·have HBD : Hid (St.binE s.files s.held (s.bin.take (i + 1)) x = 5) := Lib.hid (by rw [HDP.out]; rfl)
        have HE := Lib.hid (St.scan_here HS2.out HX.out (by rw [HBD.out]; decide))
        simp only [HBC.out]
        go_wp2_with fail
        go_ret
        exact ⟨ret_int (by rw [HF2.out, HE.out, HBD.out]), below_up HAL6.out hBw7⟩
    ·obtain rfl : k = nt := by omega
     have HE := HS2.out
     rw [← HNT.out] at HE
     have HE2 := Lib.hid (St.scan_done HE)
     clear HE
     go_wp2_with fail
     go_ret
     exact ⟨ret_int (by rw [HF2.out, HE2.out]), HBQ.out⟩
theorem stErr_sizes (s : Sto) (a : StA) (w : World) (hI : StIn w s a) (hne : St.sizesE s ≠ 0) :
  Calls Tryz.prog 14 #[.agg #[.int .i64 s.least, .int .i64 s.wait, .slice a.ta s.tiers.length a.tc, .slice a.fa s.files.length a.fc, .slice a.ca s.copies.length a.cc, .slice a.ha s.held.length a.hc, .slice a.ba s.bin.length a.bc]] w fun e w' => e = .returned (.int .i64 (St.sizesE s)) ∧ Below w.heap.size w w' := by
 obtain ⟨W1, hW1, hP, hz1, hB1⟩ := box w #[.int .i64 s.least, .int .i64 s.wait, .slice a.ta s.tiers.length a.tc, .slice a.fa s.files.length a.fc, .slice a.ca s.copies.length a.cc, .slice a.ha s.held.length a.hc, .slice a.ba s.bin.length a.bc] 28
 have HW1 := Lib.hid hW1
 have HI1 := Lib.hid (hI.keep hB1)
 obtain ⟨q0, q1, q2, q3, q4, q5, q6⟩ := hP.sv7
 have HP := Lib.hid hP; have HB1 := Lib.hid hB1
 clear hW1 hP
 obtain ⟨q, hq⟩ : ∃ q, St.sizesE s = q := ⟨_, rfl⟩
 rw [hq] at hne ⊢
 unfold St.sizesE at hq
 have HO1 := Lib.hid (fun W => inS_is s.least 1 8 W)
 have HO2 := Lib.hid (fun W => inS_is s.wait 0 1000 W)
 have h1 := hI.tl; have h2 := hI.fl; have h3 := hI.cl; have h4 := hI.hl; have h5 := hI.bl
 clear hI
 generalize s.tiers.length = n1 at *
 generalize s.files.length = n2 at *
 generalize s.copies.length = n3 at *
 generalize s.held.length = n4 at *
 generalize s.bin.length = n5 at *
 generalize St.inB s.least 1 8 = b1 at *
 generalize St.inB s.wait 0 1000 = b2 at *
 cases b1
 ·have HQ : Hid ((2 : Int) = q) := Lib.hid (by rw [← hq, if_neg (by simp)])
  clear hq
  go_enter Tryz.func14, Tryz.ntmps14
  go_wp2_with fail
  rw [HW1.out]
  go_wp2_with (go_at_call 70; first | ((with_reducible refine (HO1.out _).mono ?_); rintro e w2 ⟨rfl, rfl⟩) | ((with_reducible refine (HO2.out _).mono ?_); rintro e w2 ⟨rfl, rfl⟩))
  go_ret
  exact ⟨ret_int HQ.out, HB1.out⟩
 ·cases b2
  ·have HQ : Hid ((2 : Int) = q) := Lib.hid (by rw [← hq, if_neg (by simp)])
   clear hq
   go_enter Tryz.func14, Tryz.ntmps14
   go_wp2_with fail
   rw [HW1.out]
   go_wp2_with (go_at_call 70; first | ((with_reducible refine (HO1.out _).mono ?_); rintro e w2 ⟨rfl, rfl⟩) | ((with_reducible refine (HO2.out _).mono ?_); rintro e w2 ⟨rfl, rfl⟩))
   go_ret
   exact ⟨ret_int HQ.out, HB1.out⟩
  ·rw [if_pos ⟨rfl, rfl⟩] at hq
   by_cases g1 : 8 < n1
   ·have HQ : Hid ((4 : Int) = q) := Lib.hid (by rw [← hq, if_pos (.inl g1)])
    have g1' : (8 : Int) < (n1 : Int) := by omega
    clear hq
    go_enter Tryz.func14, Tryz.ntmps14
    go_wp2_with fail
    rw [HW1.out]
    go_wp2_with (go_at_call 70; first | ((with_reducible refine (HO1.out _).mono ?_); rintro e w2 ⟨rfl, rfl⟩) | ((with_reducible refine (HO2.out _).mono ?_); rintro e w2 ⟨rfl, rfl⟩))
    go_ret
    exact ⟨ret_int HQ.out, HB1.out⟩
   have g1' : ¬ ((8 : Int) < (n1 : Int)) := by omega
   by_cases g2 : 500 < n2
   ·have HQ : Hid ((4 : Int) = q) := Lib.hid (by rw [← hq, if_pos (.inr (.inl g2))])
    have g2' : (500 : Int) < (n2 : Int) := by omega
    clear hq
    go_enter Tryz.func14, Tryz.ntmps14
    go_wp2_with fail
    rw [HW1.out]
    go_wp2_with (go_at_call 70; first | ((with_reducible refine (HO1.out _).mono ?_); rintro e w2 ⟨rfl, rfl⟩) | ((with_reducible refine (HO2.out _).mono ?_); rintro e w2 ⟨rfl, rfl⟩))
    go_ret
    exact ⟨ret_int HQ.out, HB1.out⟩
   have g2' : ¬ ((500 : Int) < (n2 : Int)) := by omega
   by_cases g3 : 4000 < n3
   ·have HQ : Hid ((4 : Int) = q) := Lib.hid (by rw [← hq, if_pos (.inr (.inr (.inl g3)))])
    have g3' : (4000 : Int) < (n3 : Int) := by omega
    clear hq
    go_enter Tryz.func14, Tryz.ntmps14
    go_wp2_with fail
    rw [HW1.out]
    go_wp2_with (go_at_call 70; first | ((with_reducible refine (HO1.out _).mono ?_); rintro e w2 ⟨rfl, rfl⟩) | ((with_reducible refine (HO2.out _).mono ?_); rintro e w2 ⟨rfl, rfl⟩))
    go_ret
    exact ⟨ret_int HQ.out, HB1.out⟩
   have g3' : ¬ ((4000 : Int) < (n3 : Int)) := by omega
   by_cases g4 : 500 < n4
   ·have HQ : Hid ((4 : Int) = q) := Lib.hid (by rw [← hq, if_pos (.inr (.inr (.inr (.inl g4))))])
    have g4' : (500 : Int) < (n4 : Int) := by omega
    clear hq
    go_enter Tryz.func14, Tryz.ntmps14
    go_wp2_with fail
    rw [HW1.out]
    go_wp2_with (go_at_call 70; first | ((with_reducible refine (HO1.out _).mono ?_); rintro e w2 ⟨rfl, rfl⟩) | ((with_reducible refine (HO2.out _).mono ?_); rintro e w2 ⟨rfl, rfl⟩))
    go_ret
    exact ⟨ret_int HQ.out, HB1.out⟩
   have g4' : ¬ ((500 : Int) < (n4 : Int)) := by omega
   by_cases g5 : 500 < n5
   ·have HQ : Hid ((4 : Int) = q) := Lib.hid (by rw [← hq, if_pos (.inr (.inr (.inr (.inr g5))))])
    have g5' : (500 : Int) < (n5 : Int) := by omega
    clear hq
    go_enter Tryz.func14, Tryz.ntmps14
    go_wp2_with fail
    rw [HW1.out]
    go_wp2_with (go_at_call 70; first | ((with_reducible refine (HO1.out _).mono ?_); rintro e w2 ⟨rfl, rfl⟩) | ((with_reducible refine (HO2.out _).mono ?_); rintro e w2 ⟨rfl, rfl⟩))
    go_ret
    exact ⟨ret_int HQ.out, HB1.out⟩
   exact absurd (by rw [← hq, if_neg (by omega)]) hne
end Go.Proofs.YthdiccdnggloiaaGreatDoor
