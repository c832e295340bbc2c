/- Parts of the proof, no condition: StGrs. -/
import Derived.Test.YthdiccdnggloiaaGreatDoorPl12
import Derived.Test.YthdiccdnggloiaaGreatDoorPl22
import Derived.Test.YthdiccdnggloiaaGreatDoorPl7
import Derived.Test.YthdiccdnggloiaaGreatDoorPl16
set_option maxRecDepth 100000
set_option maxHeartbeats 16000000
set_option linter.unusedSimpArgs false
set_option linter.unusedVariables false
namespace Go.Proofs.YthdiccdnggloiaaGreatDoor
open Go.RowKit Go.Sort Go.Shelf Go.Maps
def GrsPost (s : Sto) (t : ByteArray) (w : World) (e : Ending) (w' : World) : Prop := ∃ L g cap, St.Goers s t L ∧ e = .returned (.slice g L.length cap) ∧ OwnV w' w.heap.size 74 4 (.slice g L.length cap) L.length (St.eC.flat L) ∧ Below w.heap.size w w'
theorem St.ins_flat (G M : List Cop) (x : Cop) (p n : Nat) (hn : G.length = n) : (St.eC.flat (G ++ M)).take ((n + p) * 4) ++ [.string x.dig, .string x.tier, .bool x.good, .int .i64 x.asked] ++ (St.eC.flat (G ++ M)).drop ((n + p) * 4) = St.eC.flat (G ++ (M.take p ++ x :: M.drop p)) := by
 subst hn
 have h1 := Enc.flat_take St.eC (G ++ M) (G.length + p)
 have h2 := Enc.flat_drop St.eC (G ++ M) (G.length + p)
 have h3 : St.eC.k = 4 := rfl
 rw [h3] at h1 h2
 rw [h1, h2, List.take_append, List.drop_append, List.take_of_length_le (by omega), List.drop_eq_nil_of_le (by omega), show G.length + p - G.length = p by omega, List.nil_append, Enc.flat_append, Enc.flat_append, Enc.flat_append, Enc.flat_cons, List.append_assoc, List.append_assoc]
 rfl
theorem below_ownG {B : Nat} {a w w' : World} {v : Value} {n k : Nat} {e : TypeId} {xs : List Value} (h : Below B a w) (ho : OwnV w B e k v n xs) (hg : w.grownBy w' v.ownBlock) (hB : B ≤ w.heap.size) : Below B a w' := by
 refine h.trans ⟨hg.os, hg.tape, hg.output, hg.size, fun j hj => ?_⟩
 refine hg.block j (by omega) fun e2 => ?_
 have h1 := (ho.lt j e2.symm).1
 omega
theorem goersR_is (s : Sto) (a : StA) (t : ByteArray) (w : World) (hI : StIn w s a) (r : St.Right s) :
  Calls Tryz.prog 96 #[.agg #[.int .i64 s.least, .int .i64 s.wait, .slice a.ta s.tiers.length a.tc, .slice a.fa s.files.length a.fc, .slice a.ca s.copies.length a.cc, .slice a.ha s.held.length a.hc, .slice a.ba s.bin.length a.bc], .string t] w (GrsPost s t w) := by
 obtain ⟨W1, hW1, hP, hz1, hB1⟩ := box w #[.int .i64 s.least, .int .i64 s.wait, .slice a.ta s.tiers.length a.tc, .slice a.fa s.files.length a.fc, .slice a.ca s.copies.length a.cc, .slice a.ha s.held.length a.hc, .slice a.ba s.bin.length a.bc] 28
 have HW1 := Lib.hid hW1
 have HI1 := Lib.hid (hI.keep hB1)
 obtain ⟨q0, q1, q2, q3, q4, q5, q6⟩ := hP.sv7
 have HP := Lib.hid hP; have HB1 := Lib.hid hB1
 clear hW1 hP
 obtain ⟨_, y1, y2, y3, y4, y5⟩ := St.sizes_iff.1 r.sizes
 have HGA := Lib.hid (garbageR_is s a W1 HI1.out r)
 have HFO := Lib.hid (fun (d : ByteArray) V (hv : Below W1.heap.size W1 V) => fileOf_is s a d V (HI1.out.keep hv))
 have HGOA := Lib.hid (fun (d : ByteArray) V (hv : Below W1.heap.size W1 V) => goodOf_is s a d V (HI1.out.keep hv) y1 y3)
 unfold TirPost at HGOA
 unfold CopPost at HGA
 have HCL := Lib.hid (fun W (hb : Below W1.heap.size W1 W) => (HP.out.keep hb).sv7)
 have hcl := hI.cl
 have HS1 := Lib.hid hz1; have HR := Lib.hid r
 have hgl0 : (St.garbageL s).length ≤ s.copies.length := List.length_filter_le _ _
 obtain ⟨nc, hnc⟩ : ∃ nc, s.copies.length = nc := ⟨_, rfl⟩
 have HNC := Lib.hid hnc
 have HEG := Lib.hid (St.evG_eq s t)
 obtain ⟨GL, hGL⟩ : ∃ GL, St.garbageL s = GL := ⟨_, rfl⟩
 rw [hGL] at HGA HEG hgl0
 obtain ⟨ng, hng⟩ : ∃ ng, GL.length = ng := ⟨_, rfl⟩
 have HNG := Lib.hid hng
 rw [hng] at HGA hgl0
 rw [hnc] at hcl y3 q4 HCL HW1 HGA HFO HGOA hgl0 ⊢
 clear hI r hz1 hnc hGL hng
 go_enter Tryz.func96, Tryz.ntmps96
 go_upto_region 1 with fail
 rw [HW1.out]
 go_wp2_with (go_at_call 43; (with_reducible refine HGA.out.mono ?_); rintro e w4 ⟨g4, cap4, rfl, ho4, hq⟩; have hv := hq)
 have HO4 := Lib.hid ho4
 have HB4 := Lib.hid hv
 clear ho4 hv hq q0 q1 q2 q3 q4 q5 q6
 go_loopg [5, 17] ng (fun gk v i wr => ∃ j : Nat, j ≤ ng ∧ gk = ng - j ∧ i = .int .i64 j ∧ wr.ownsRow w4.heap.size 74 4 v ((GL.take j).filter (fun c => St.eq c.tier t)).length (St.eC.flat ((GL.take j).filter (fun c => St.eq c.tier t))) ∧ Below w4.heap.size w4 wr)
 case atStart => exact ⟨0, by omega, rfl, rfl, World.ownsRow_nil _ _ _ _, Below.refl _ _⟩
 case round =>
  obtain ⟨j, hj, rfl, rfl, hown, hB⟩ := hrel
  by_cases hlt : j < ng
  ·obtain ⟨x, hx⟩ : ∃ x, GL[j]? = some x := ⟨_, List.getElem?_eq_getElem (by rw [HNG.out]; exact hlt)⟩
   have hre : RowE St.eC wr g4 GL := RowE.ofV (E := St.eC) (ca := cap4) (by rw [HNG.out]; exact HO4.out.keep hB)
   obtain ⟨b, off, ha, hb, hcell⟩ := hre (by rw [HNG.out]; omega)
   have c0 : wr.cell? ⟨b, off + j * 4, none⟩ = some (.string x.dig) := hcell j x hx 0 (.string x.dig) rfl
   have c1 : wr.cell? ⟨b, off + j * 4 + 1, none⟩ = some (.string x.tier) := hcell j x hx 1 (.string x.tier) rfl
   have c2 : wr.cell? ⟨b, off + j * 4 + 2, none⟩ = some (.bool x.good) := hcell j x hx 2 (.bool x.good) rfl
   have c3 : wr.cell? ⟨b, off + j * 4 + 3, none⟩ = some (.int .i64 x.asked) := hcell j x hx 3 (.int .i64 x.asked) rfl
   clear hcell
   have hft := St.filter_take (p := fun c => St.eq c.tier t) hx
   have hfl := St.filter_len (p := fun c => St.eq c.tier t) (L := GL) j
   rw [HNG.out] at hfl
   obtain ⟨W3, hW3, hX3, hz3, hB3⟩ := box wr #[.string x.dig, .string x.tier, .bool x.good, .int .i64 x.asked] 74
   have HW3 := Lib.hid hW3
   have HAW := Lib.hid (below_up hB hB3)
   have hown3 := own_keepE hown hB3
   obtain ⟨e0, e1, e2, e3⟩ := hX3.four
   have hj0 : (0 : Int) ≤ (j : Int) := by omega
   have hj1 : (j : Int) < (ng : Int) := by omega
   obtain ⟨bq, hbq⟩ : ∃ bq, (x.tier.toList == t.toList) = bq := ⟨_, rfl⟩
   have hbe : St.eq x.tier t = bq := hbq
   simp only [hbe] at hft
   have HFT := Lib.hid hft
   generalize ((GL.take j).filter (fun c => St.eq c.tier t)) = G at *
   have hvs := HAW.out.size
   clear hx hB hX3 hz3 hB3 hW3 hown hft hre hbe
   rw [ha]
   go_upto_region 5 with fail
   rw [HW3.out]
   clear c0 c1 c2 c3
   cases bq
   ·go_wp2_with fail
    rw [← ha]
    go_roundg (ng - (j + 1))
    case rel => exact ⟨j + 1, by omega, rfl, by go_num, by rw [HFT.out, if_neg (by decide), List.append_nil]; exact hown3, HAW.out⟩
    case measure => omega
   ·obtain ⟨FL, hFL⟩ : ∃ FL, St.eC.flat G = FL := ⟨_, rfl⟩
    obtain ⟨m, hm⟩ : ∃ m, G.length = m := ⟨_, rfl⟩
    have HFL : Hid (St.eC.flat (G ++ [x]) = FL ++ [.string x.dig, .string x.tier, .bool x.good, .int .i64 x.asked]) := Lib.hid (by rw [Enc.flat_snoc, hFL]; rfl)
    have HM : Hid ((G ++ [x]).length = m + 1) := Lib.hid (by rw [List.length_append, hm]; rfl)
    rw [hFL, hm] at hown3
    rw [hm] at hfl
    clear hFL hm
    go_wp2_with (at_builtin; refine list_appC rfl _ _ rfl _ _ m FL (by rfl) (by rfl) hown3 (by omega) (by omega) (by rfl) (by simp [Value.oneCell']) ?_; intro g8 cap8 w8 hown8 hgrow8; have hB8 := below_grownE (below_allocs HAW.out _) (hown3.alloc _) hgrow8 (by simp; omega))
    rw [← ha]
    go_roundg (ng - (j + 1))
    case rel => exact ⟨j + 1, by omega, rfl, by go_num, by rw [HFT.out, if_pos (by first | rfl | trivial), HFL.out, HM.out]; exact hown8, hB8⟩
    case measure => omega
  ·obtain rfl : ng = j := by omega
   rw [← HNG.out, List.take_length, HEG.out] at hown
   have hel : (St.evG s t).length ≤ s.copies.length := List.length_filter_le _ _
   rw [HNC.out] at hel
   obtain ⟨ne, hne⟩ : ∃ ne, (St.evG s t).length = ne := ⟨_, rfl⟩
   have HNE := Lib.hid hne
   rw [hne] at hown hel
   have HOW0 := Lib.hid (OwnV.of_own hown)
   obtain ⟨gv, cv, rfl⟩ := ownV_slice (OwnV.of_own hown)
   have HBG := Lib.hid hB
   have hB4s := HB4.out.size
   obtain ⟨q0, q1, q2, q3, q4, q5, q6⟩ := HCL.out _ (below_up HB4.out hB)
   have HS4 : Hid (W1.heap.size ≤ w4.heap.size) := Lib.hid hB4s
   clear hown hB hne
   go_wp2_with fail
   clear q0 q1 q2 q3 q4 q5 q6
   go_loopg [5, 35] nc (fun gk v i wr => ∃ (j : Nat) (M : List Cop), j ≤ nc ∧ gk = nc - j ∧ i = .int .i64 j ∧ List.Perm M ((s.copies.take j).filter (St.evB s t)) ∧ M.Pairwise St.evLt ∧ OwnV wr w4.heap.size 74 4 v (ne + M.length) (St.eC.flat (St.evG s t ++ M)) ∧ Below w4.heap.size w4 wr)
   case atStart => exact ⟨0, [], by omega, rfl, rfl, List.Perm.refl _, List.Pairwise.nil, by rw [List.append_nil]; exact HOW0.out, HBG.out⟩
   case round =>
    obtain ⟨j, M, hj, rfl, rfl, hpm, hso, how, hB⟩ := hrel
    have HPM := Lib.hid hpm; have HSO := Lib.hid hso
    have hml : M.length ≤ 4000 := by
     rw [hpm.length_eq]
     exact Nat.le_trans (St.filter_len j) (by rw [HNC.out]; omega)
    obtain ⟨m, hm⟩ : ∃ m, M.length = m := ⟨_, rfl⟩
    have HM := Lib.hid hm
    rw [hm] at how hml
    have HOW := Lib.hid how
    obtain ⟨gw, cw, rfl⟩ := ownV_slice how
    obtain ⟨l1, l2⟩ := HOW.out.caps
    clear hpm hso hm how
    by_cases hlt : j < nc
    ·obtain ⟨x, hx⟩ : ∃ x, s.copies[j]? = some x := ⟨_, List.getElem?_eq_getElem (by rw [HNC.out]; exact hlt)⟩
     obtain ⟨b, off, ha, hb, hcell⟩ := ((HI1.out.keep (below_up HB4.out hB)).co) (by rw [HNC.out]; omega)
     have c0 : wr.cell? ⟨b, off + j * 4, none⟩ = some (.string x.dig) := hcell j x hx 0 (.string x.dig) rfl
     have c1 : wr.cell? ⟨b, off + j * 4 + 1, none⟩ = some (.string x.tier) := hcell j x hx 1 (.string x.tier) rfl
     have c2 : wr.cell? ⟨b, off + j * 4 + 2, none⟩ = some (.bool x.good) := hcell j x hx 2 (.bool x.good) rfl
     have c3 : wr.cell? ⟨b, off + j * 4 + 3, none⟩ = some (.int .i64 x.asked) := hcell j x hx 3 (.int .i64 x.asked) rfl
     clear hcell
     have HFT := Lib.hid (St.filter_take (p := St.evB s t) hx)
     have HIN := Lib.hid (St.ev_in HR.out (t := t) hx HPM.out)
     have HAH := Lib.hid (St.ev_ahead HR.out (t := t) hx HPM.out)
     obtain ⟨W3, hW3, hX3, hz3, hB3⟩ := box wr #[.string x.dig, .string x.tier, .bool x.good, .int .i64 x.asked] 74
     have HW3 := Lib.hid hW3
     have HAL := Lib.hid (below_up HB4.out (below_up hB hB3))
     have HAL4 := Lib.hid (below_up hB hB3)
     have HX : Hid (∀ V, Below W3.heap.size W3 V → V.cell? ⟨wr.heap.size, 0, none⟩ = some (.string x.dig) ∧ V.cell? ⟨wr.heap.size, 1, none⟩ = some (.string x.tier) ∧ V.cell? ⟨wr.heap.size, 2, none⟩ = some (.bool x.good) ∧ V.cell? ⟨wr.heap.size, 3, none⟩ = some (.int .i64 x.asked)) := Lib.hid fun V hv => (hX3.keep hv).four
     have HFF := Lib.hid (HFO.out x.dig _ HAL.out)
     obtain ⟨f, hf⟩ : ∃ f, St.filD s.files x.dig = f := ⟨_, rfl⟩
     obtain ⟨fb, hfb⟩ : ∃ fb, (St.fileOf s.files x.dig).isSome = fb := ⟨_, rfl⟩
     have heB : St.evB s t x = (St.eq x.tier t && (!St.garbage s x && (decide (f.kind = 3) && decide (0 < (St.goodL s f.frm).length)))) := by rw [← hf]; rfl
     have heA : St.evA s t x = (St.eq x.tier t && St.garbage s x) := rfl
     rw [hf, hfb] at HFF
     unfold St.fval at HFF
     have hj0 : (0 : Int) ≤ (j : Int) := by omega
     have hj1 : (j : Int) < (nc : Int) := by omega
     obtain ⟨e0, e1, e2, e3⟩ := HX.out _ (Below.refl _ _)
     obtain ⟨n0, n1, n2, n3, n4, n5, n6⟩ := HCL.out _ HAL.out
     have HOW3 := Lib.hid (HOW.out.keep (below_up (Below.refl _ _) hB3))
     have HEB := Lib.hid heB; have HEA := Lib.hid heA
     clear hx hB hX3 hz3 hB3 hW3 hf hfb heB heA
     rw [ha] at HFF HCL n4 HGOA ⊢
     go_upto_region 12 with fail
     rw [HW3.out]
     clear c0 c1 c2 c3
     go_upto_region 13 with (go_at_call 76; (with_reducible refine (HFF.out.mono ?_)); rintro e wf ⟨rfl, hBf⟩)
     obtain ⟨W5, hW5, hX5, hz5, hB5⟩ := box wf #[.string f.dig, .int .i64 f.size, .int .i64 f.kind, .string f.frm] 30
     have HW5 := Lib.hid hW5
     have HB5 := Lib.hid (below_up hBf hB5)
     have HAW := Lib.hid (below_up HAL.out HB5.out)
     have HY : Hid (∀ V, Below W5.heap.size W5 V → V.cell? ⟨wf.heap.size, 0, none⟩ = some (.string f.dig) ∧ V.cell? ⟨wf.heap.size, 1, none⟩ = some (.int .i64 f.size) ∧ V.cell? ⟨wf.heap.size, 2, none⟩ = some (.int .i64 f.kind) ∧ V.cell? ⟨wf.heap.size, 3, none⟩ = some (.string f.frm)) := Lib.hid fun V hv => (hX5.keep hv).four
     rw [HW5.out]
     have HOW5 := Lib.hid (HOW3.out.keep HB5.out)
     have HGO := Lib.hid (fun V (hv : Below W5.heap.size W5 V) => HGOA.out f.frm V (below_up HAW.out hv))
     have HCN := Lib.hid (fun V (hv : Below W5.heap.size W5 V) => containsC_is (St.evG s t ++ M) gw cw x V (RowE.ofV (E := St.eC) (ca := cw) (by rw [List.length_append, HNE.out, HM.out]; exact HOW5.out.keep hv)) (by rw [List.length_append, HNE.out, HM.out]; exact ⟨l1, l2⟩))
     rw [show (St.evG s t ++ M).length = ne + m by rw [List.length_append, HNE.out, HM.out]] at HCN
     have hv : Below W5.heap.size W5 W5 := Below.refl _ _
     clear e0 e1 e2 e3 n0 n1 n2 n3 n4 n5 n6
     obtain ⟨e0, e1, e2, e3⟩ := HX.out _ (below_up HB5.out hv)
     obtain ⟨u0, u1, u2, u3⟩ := HY.out _ hv
     obtain ⟨n0, n1, n2, n3, n4, n5, n6⟩ := HCL.out _ (below_up HAW.out hv)
     obtain ⟨bq, hbq⟩ : ∃ bq, (x.tier.toList == t.toList) = bq := ⟨_, rfl⟩
     have hbn : (x.tier.toList != t.toList) = !bq := by rw [← hbq]; rfl
     have hbe : St.eq x.tier t = bq := hbq
     obtain ⟨gb, hgb⟩ : ∃ gb, St.garbage s x = gb := ⟨_, rfl⟩
     obtain ⟨kb, hkb⟩ : ∃ kb, (f.kind == 3) = kb := ⟨_, rfl⟩
     have hkd : decide (f.kind = 3) = kb := hkb
     have hkn : (f.kind != 3) = !kb := by rw [← hkb]; rfl
     obtain ⟨mg, hmg⟩ : ∃ mg, (St.goodL s f.frm).length = mg := ⟨_, rfl⟩
     obtain ⟨mq, hmq⟩ : ∃ mq, decide (0 < mg) = mq := ⟨_, rfl⟩
     have hm0 : (mg == 0) = !mq := by rw [← hmq]; cases mg <;> rfl
     have hmi : ((mg : Int) == 0) = !mq := by
      rw [← hmq]
      cases mg with
      | zero => rfl
      | succ k => simp; omega
     have hev := HEB.out
     rw [hbe, hgb, hkd, hmg, hmq] at hev
     have hea := HEA.out
     rw [hbe, hgb] at hea
     have HEV := Lib.hid hev
     rw [hmg] at HGO
     have HCN2 := Lib.hid (fun V hv => (HCN.out V hv).mono (R' := fun e w' => e = .returned (.bool (bq && gb)) ∧ Below V.heap.size V w') (fun e w' h => by
      obtain ⟨⟨b', rfl, hb'⟩, hB'⟩ := h
      refine ⟨?_, hB'⟩
      rw [show b' = (bq && gb) from by rw [← hea]; exact Bool.eq_iff_iff.2 (hb'.trans HIN.out)]))
     have hBp := below_up HAL4.out HB5.out
     clear hW5 hX5 hz5 hB5 hBf hbe hgb hkd hmg hev hea HCN
     cases bq
     ·go_wp2_with (first | (go_at_call 170; (with_reducible refine (HCN2.out _ hv).mono ?_); rintro e w6 ⟨rfl, hq⟩; have hv := below_up hv hq; obtain ⟨e0, e1, e2, e3⟩ := HX.out _ (below_up HB5.out hv); obtain ⟨u0, u1, u2, u3⟩ := HY.out _ hv; obtain ⟨n0, n1, n2, n3, n4, n5, n6⟩ := HCL.out _ (below_up HAW.out hv); have hBp := below_up HAL4.out (below_up HB5.out hv)) | (go_at_call 118; (with_reducible refine (HGO.out _ hv).mono ?_); rintro e w6 ⟨g6, cap6, rfl, ho6, hq⟩; have hv := below_up hv hq; obtain ⟨e0, e1, e2, e3⟩ := HX.out _ (below_up HB5.out hv); obtain ⟨u0, u1, u2, u3⟩ := HY.out _ hv; obtain ⟨n0, n1, n2, n3, n4, n5, n6⟩ := HCL.out _ (below_up HAW.out hv); have hBp := below_up HAL4.out (below_up HB5.out hv)))
      rw [← ha]
      go_roundg (nc - (j + 1))
      case rel => exact ⟨j + 1, M, by omega, rfl, by go_num, by rw [HFT.out, HEV.out, if_neg (by simp), List.append_nil]; exact HPM.out, HSO.out, by rw [HM.out]; exact HOW5.out.keep hv, hBp⟩
      case measure => omega
     ·cases gb
      ·cases kb
       ·go_wp2_with (first | (go_at_call 170; (with_reducible refine (HCN2.out _ hv).mono ?_); rintro e w6 ⟨rfl, hq⟩; have hv := below_up hv hq; obtain ⟨e0, e1, e2, e3⟩ := HX.out _ (below_up HB5.out hv); obtain ⟨u0, u1, u2, u3⟩ := HY.out _ hv; obtain ⟨n0, n1, n2, n3, n4, n5, n6⟩ := HCL.out _ (below_up HAW.out hv); have hBp := below_up HAL4.out (below_up HB5.out hv)) | (go_at_call 118; (with_reducible refine (HGO.out _ hv).mono ?_); rintro e w6 ⟨g6, cap6, rfl, ho6, hq⟩; have hv := below_up hv hq; obtain ⟨e0, e1, e2, e3⟩ := HX.out _ (below_up HB5.out hv); obtain ⟨u0, u1, u2, u3⟩ := HY.out _ hv; obtain ⟨n0, n1, n2, n3, n4, n5, n6⟩ := HCL.out _ (below_up HAW.out hv); have hBp := below_up HAL4.out (below_up HB5.out hv)))
        rw [← ha]
        go_roundg (nc - (j + 1))
        case rel => exact ⟨j + 1, M, by omega, rfl, by go_num, by rw [HFT.out, HEV.out, if_neg (by simp), List.append_nil]; exact HPM.out, HSO.out, by rw [HM.out]; exact HOW5.out.keep hv, hBp⟩
        case measure => omega
       ·cases mq
        ·go_wp2_with (first | (go_at_call 170; (with_reducible refine (HCN2.out _ hv).mono ?_); rintro e w6 ⟨rfl, hq⟩; have hv := below_up hv hq; obtain ⟨e0, e1, e2, e3⟩ := HX.out _ (below_up HB5.out hv); obtain ⟨u0, u1, u2, u3⟩ := HY.out _ hv; obtain ⟨n0, n1, n2, n3, n4, n5, n6⟩ := HCL.out _ (below_up HAW.out hv); have hBp := below_up HAL4.out (below_up HB5.out hv)) | (go_at_call 118; (with_reducible refine (HGO.out _ hv).mono ?_); rintro e w6 ⟨g6, cap6, rfl, ho6, hq⟩; have hv := below_up hv hq; obtain ⟨e0, e1, e2, e3⟩ := HX.out _ (below_up HB5.out hv); obtain ⟨u0, u1, u2, u3⟩ := HY.out _ hv; obtain ⟨n0, n1, n2, n3, n4, n5, n6⟩ := HCL.out _ (below_up HAW.out hv); have hBp := below_up HAL4.out (below_up HB5.out hv)))
         rw [← ha]
         go_roundg (nc - (j + 1))
         case rel => exact ⟨j + 1, M, by omega, rfl, by go_num, by rw [HFT.out, HEV.out, if_neg (by simp), List.append_nil]; exact HPM.out, HSO.out, by rw [HM.out]; exact HOW5.out.keep hv, hBp⟩
         case measure => omega
        ·go_wp2_with (first | (go_at_call 170; (with_reducible refine (HCN2.out _ hv).mono ?_); rintro e w6 ⟨rfl, hq⟩; have hv := below_up hv hq; obtain ⟨e0, e1, e2, e3⟩ := HX.out _ (below_up HB5.out hv); obtain ⟨u0, u1, u2, u3⟩ := HY.out _ hv; obtain ⟨n0, n1, n2, n3, n4, n5, n6⟩ := HCL.out _ (below_up HAW.out hv); have hBp := below_up HAL4.out (below_up HB5.out hv)) | (go_at_call 118; (with_reducible refine (HGO.out _ hv).mono ?_); rintro e w6 ⟨g6, cap6, rfl, ho6, hq⟩; have hv := below_up hv hq; obtain ⟨e0, e1, e2, e3⟩ := HX.out _ (below_up HB5.out hv); obtain ⟨u0, u1, u2, u3⟩ := HY.out _ hv; obtain ⟨n0, n1, n2, n3, n4, n5, n6⟩ := HCL.out _ (below_up HAW.out hv); have hBp := below_up HAL4.out (below_up HB5.out hv)))
         have HBP := Lib.hid hBp
         have HV6 := Lib.hid hv
         clear hv hBp e0 e1 e2 e3 u0 u1 u2 u3 n0 n1 n2 n3 n4 n5 n6
         go_loopg [13] m (fun gk k wr2 => ∃ p : Nat, p ≤ m ∧ gk = 0 + p ∧ k = .int .i64 ((ne : Int) + (p : Int)) ∧ (∀ y ∈ M.drop p, x.asked < y.asked) ∧ Below W5.heap.size W5 wr2)
         case atStart => exact ⟨m, Nat.le_refl _, by omega, by simp, fun y hy => (by rw [List.drop_eq_nil_of_le (by rw [HM.out]; exact Nat.le_refl _)] at hy; cases hy), HV6.out⟩
         case round =>
          obtain ⟨p, hp, rfl, rfl, hup, hv⟩ := hrel
          have HUP := Lib.hid hup
          clear hup
          obtain ⟨e0, e1, e2, e3⟩ := HX.out _ (below_up HB5.out hv)
          cases p with
          | zero =>
            have hd0 : decide ((ne : Int) < (ne : Int) + ((0 : Nat) : Int)) = false := by simp
            have HLO : Hid ((0 : Nat) = 0 ∨ ∃ y, M[0 - 1]? = some y ∧ y.asked ≤ x.asked) := Lib.hid (.inl rfl)
            go_wp2_with fail
            go_quiet (fail)
            have HNEW := Lib.hid (And.intro (St.ev_ins HSO.out HAH.out HUP.out (by first | exact HLO.out | exact .inl rfl)) (St.ev_perm (c := x) (p := 0) HPM.out))
            have HINS := Lib.hid (fun V (hb : Below W5.heap.size W5 V) (bv : Nat) (hbv : V.heap[bv]? = some (.cells #[.string x.dig, .string x.tier, .bool x.good, .int .i64 x.asked] 74 (0, 0))) (hge : W5.heap.size ≤ bv) => show Calls Tryz.prog 148 #[.slice (gw) (ne + m) cw, .int .i64 ((ne : Int)), .slice (some ⟨bv, 0, none⟩) 1 1] V (OwnPost V w4.heap.size 74 4 (.slice (gw) (ne + m) cw) (ne + m + 1) ((St.eC.flat (St.evG s t ++ M)).take ((ne + 0) * 4) ++ [.string x.dig, .string x.tier, .bool x.good, .int .i64 x.asked] ++ (St.eC.flat (St.evG s t ++ M)).drop ((ne + 0) * 4))) from by
             have h := cp_ins w4.heap.size (ne + m) (ne + 0) (.slice (gw) (ne + m) cw) (St.eC.flat (St.evG s t ++ M)) [.string x.dig, .string x.tier, .bool x.good, .int .i64 x.asked] V (HOW5.out.keep hb) (by have := HAL4.out.size; have := HB5.out.size; have := hb.size; omega) (by omega) (by omega) (Enc.flat_one St.eC _) bv _ _ hbv (fun e => by have := (HOW5.out.lt bv e).2; omega) rfl rfl (by simp [Value.oneCell'])
             simpa using h)
            have hB9 := below_drewN hv nq
            generalize World.drewN wr nq = w9 at *
            have HB9 := Lib.hid hB9
            obtain ⟨e0, e1, e2, e3⟩ := HX.out _ (below_up HB5.out hB9)
            have HNV : Hid (∀ o, ((w9).alloc o).heap[(w9).heap.size]? = some o) := Lib.hid (fun o => heap_alloc_new w9 o)
            have HGE : Hid (W5.heap.size ≤ w9.heap.size) := Lib.hid hB9.size
            clear hv hB9
            go_wp2_with (go_at_call 148; (with_reducible refine (HINS.out _ (below_allocs HB9.out _) w9.heap.size (HNV.out _) HGE.out).mono ?_); rintro e w8 ⟨g8, c8, rfl, hc8, hg8, hn8⟩; have HC8 := Lib.hid hc8; have HG8 := Lib.hid hg8; clear hc8 hg8 hn8)
            have HO9 := Lib.hid ((HOW5.out.keep HB9.out).keep ((Below.refl _ _).alloc (Nat.le_refl _) (.cells #[.string x.dig, .string x.tier, .bool x.good, .int .i64 x.asked] 74)))
            have HD9 := Lib.hid (below_up HAL4.out (below_up HB5.out HB9.out))
            rw [← ha]
            go_roundg (nc - (j + 1))
            case rel =>
             refine ⟨j + 1, M.take 0 ++ x :: M.drop 0, by omega, rfl, by go_num, by rw [HFT.out, HEV.out, if_pos (by first | rfl | trivial)]; exact HNEW.out.2, HNEW.out.1, ?_, ?_⟩
             ·rw [← St.ins_flat _ _ _ _ _ HNE.out, show (M.take 0 ++ x :: M.drop 0).length = m + 1 by rw [List.length_append, List.length_cons, List.length_take, List.length_drop, HM.out]; omega]
              exact .inr ⟨g8, c8, rfl, HC8.out⟩
             ·exact below_ownG (below_allocs HD9.out _) HO9.out HG8.out (by have := HD9.out.size; simp; omega)
            case measure => omega
          | succ q =>
            obtain ⟨y, hy⟩ : ∃ y, M[q]? = some y := ⟨_, List.getElem?_eq_getElem (by rw [HM.out]; omega)⟩
            have hre : RowE St.eC wr gw (St.evG s t ++ M) := RowE.ofV (E := St.eC) (ca := cw) (by rw [List.length_append, HNE.out, HM.out]; exact HOW5.out.keep hv)
            obtain ⟨bg, og, hga, hgb, hgc⟩ := hre (by rw [List.length_append, HNE.out, HM.out]; omega)
            obtain ⟨z, hz⟩ : ∃ z, ne + q = z := ⟨_, rfl⟩
            have hy2 : (St.evG s t ++ M)[z]? = some y := by rw [← hz, ← HNE.out, List.getElem?_append_right (by omega), Nat.add_sub_cancel_left]; exact hy
            have d3 : wr.cell? ⟨bg, og + z * 4 + 3, none⟩ = some (.int .i64 y.asked) := hgc z y hy2 3 (.int .i64 y.asked) rfl
            have hd0 : decide ((ne : Int) < (z : Int) + 1) = true := by simp; omega
            have hd1 : ((ne : Int) < (z : Int) + 1) = True := by simp; omega
            have hz0 : (0 : Int) ≤ (z : Int) := by omega
            have hz1 : (z : Int) < (ne : Int) + (m : Int) := by omega
            have hzw : IntKind.i64.wrap ((z : Int) + 1 - 1) = (z : Int) := by rw [IntKind.wrap_i64]; omega
            have hkz : (ne : Int) + ((q + 1 : Nat) : Int) = (z : Int) + 1 := by omega
            have HY2 := Lib.hid hy
            rw [hkz]
            subst hga
            clear hre hgc hy2 hy
            by_cases hlt2 : x.asked < y.asked
            ·have hl0 : decide (x.asked < y.asked) = true := decide_eq_true hlt2
             have hl1 : (x.asked < y.asked) = True := eq_true hlt2
             go_wp2_with fail
             go_quiet (fail)
             go_wp2_with fail
             go_roundg (0 + q)
             case rel =>
              refine ⟨q, by omega, rfl, by rw [← hz]; simp, ?_, below_drewN hv _⟩
              intro y' hy'
              have hdq : M.drop q = y :: M.drop (q + 1) := by
               obtain ⟨h1, h2⟩ := List.getElem?_eq_some_iff.1 HY2.out
               rw [List.drop_eq_getElem_cons h1, h2]
              rw [hdq] at hy'
              rcases List.mem_cons.1 hy' with rfl | hy'
              ·exact hlt2
              ·exact HUP.out y' hy'
             case measure => omega
            ·have hl0 : decide (x.asked < y.asked) = false := decide_eq_false hlt2
             have hl1 : (x.asked < y.asked) = False := eq_false hlt2
             have HLO : Hid (q + 1 = 0 ∨ ∃ y, M[q + 1 - 1]? = some y ∧ y.asked ≤ x.asked) := Lib.hid (.inr ⟨y, HY2.out, by omega⟩)
             have HEE : Hid (((ne + (q + 1) : Nat) : Int) = (z : Int) + 1) := Lib.hid (by omega)
             go_wp2_with fail
             go_quiet (fail)
             have HNEW := Lib.hid (And.intro (St.ev_ins HSO.out HAH.out HUP.out (by first | exact HLO.out | exact .inl rfl)) (St.ev_perm (c := x) (p := (q + 1)) HPM.out))
             have HINS := Lib.hid (fun V (hb : Below W5.heap.size W5 V) (bv : Nat) (hbv : V.heap[bv]? = some (.cells #[.string x.dig, .string x.tier, .bool x.good, .int .i64 x.asked] 74 (0, 0))) (hge : W5.heap.size ≤ bv) => show Calls Tryz.prog 148 #[.slice (some ⟨bg, og, none⟩) (ne + m) cw, .int .i64 ((z : Int) + 1), .slice (some ⟨bv, 0, none⟩) 1 1] V (OwnPost V w4.heap.size 74 4 (.slice (some ⟨bg, og, none⟩) (ne + m) cw) (ne + m + 1) ((St.eC.flat (St.evG s t ++ M)).take ((ne + (q + 1)) * 4) ++ [.string x.dig, .string x.tier, .bool x.good, .int .i64 x.asked] ++ (St.eC.flat (St.evG s t ++ M)).drop ((ne + (q + 1)) * 4))) from by
              have h := cp_ins w4.heap.size (ne + m) (ne + (q + 1)) (.slice (some ⟨bg, og, none⟩) (ne + m) cw) (St.eC.flat (St.evG s t ++ M)) [.string x.dig, .string x.tier, .bool x.good, .int .i64 x.asked] V (HOW5.out.keep hb) (by have := HAL4.out.size; have := HB5.out.size; have := hb.size; omega) (by omega) (by omega) (Enc.flat_one St.eC _) bv _ _ hbv (fun e => by have := (HOW5.out.lt bv e).2; omega) rfl rfl (by simp [Value.oneCell'])
              (rw [HEE.out] at h; exact h))
             have hB9 := below_drewN hv nq
             generalize World.drewN wr nq = w9 at *
             have HB9 := Lib.hid hB9
             obtain ⟨e0, e1, e2, e3⟩ := HX.out _ (below_up HB5.out hB9)
             have HNV : Hid (∀ o, ((w9).alloc o).heap[(w9).heap.size]? = some o) := Lib.hid (fun o => heap_alloc_new w9 o)
             have HGE : Hid (W5.heap.size ≤ w9.heap.size) := Lib.hid hB9.size
             clear hv hB9
             go_wp2_with (go_at_call 148; (with_reducible refine (HINS.out _ (below_allocs HB9.out _) w9.heap.size (HNV.out _) HGE.out).mono ?_); rintro e w8 ⟨g8, c8, rfl, hc8, hg8, hn8⟩; have HC8 := Lib.hid hc8; have HG8 := Lib.hid hg8; clear hc8 hg8 hn8)
             have HO9 := Lib.hid ((HOW5.out.keep HB9.out).keep ((Below.refl _ _).alloc (Nat.le_refl _) (.cells #[.string x.dig, .string x.tier, .bool x.good, .int .i64 x.asked] 74)))
             have HD9 := Lib.hid (below_up HAL4.out (below_up HB5.out HB9.out))
             rw [← ha]
             go_roundg (nc - (j + 1))
             case rel =>
              refine ⟨j + 1, M.take (q + 1) ++ x :: M.drop (q + 1), by omega, rfl, by go_num, by rw [HFT.out, HEV.out, if_pos (by first | rfl | trivial)]; exact HNEW.out.2, HNEW.out.1, ?_, ?_⟩
              ·rw [← St.ins_flat _ _ _ _ _ HNE.out, show (M.take (q + 1) ++ x :: M.drop (q + 1)).length = m + 1 by rw [List.length_append, List.length_cons, List.length_take, List.length_drop, HM.out]; omega]
               exact .inr ⟨g8, c8, rfl, HC8.out⟩
              ·exact below_ownG (below_allocs HD9.out _) HO9.out HG8.out (by have := HD9.out.size; simp; omega)
             case measure => omega
      ·go_wp2_with (first | (go_at_call 170; (with_reducible refine (HCN2.out _ hv).mono ?_); rintro e w6 ⟨rfl, hq⟩; have hv := below_up hv hq; obtain ⟨e0, e1, e2, e3⟩ := HX.out _ (below_up HB5.out hv); obtain ⟨u0, u1, u2, u3⟩ := HY.out _ hv; obtain ⟨n0, n1, n2, n3, n4, n5, n6⟩ := HCL.out _ (below_up HAW.out hv); have hBp := below_up HAL4.out (below_up HB5.out hv)) | (go_at_call 118; (with_reducible refine (HGO.out _ hv).mono ?_); rintro e w6 ⟨g6, cap6, rfl, ho6, hq⟩; have hv := below_up hv hq; obtain ⟨e0, e1, e2, e3⟩ := HX.out _ (below_up HB5.out hv); obtain ⟨u0, u1, u2, u3⟩ := HY.out _ hv; obtain ⟨n0, n1, n2, n3, n4, n5, n6⟩ := HCL.out _ (below_up HAW.out hv); have hBp := below_up HAL4.out (below_up HB5.out hv)))
       rw [← ha]
       go_roundg (nc - (j + 1))
       case rel => exact ⟨j + 1, M, by omega, rfl, by go_num, by rw [HFT.out, HEV.out, if_neg (by simp), List.append_nil]; exact HPM.out, HSO.out, by rw [HM.out]; exact HOW5.out.keep hv, hBp⟩
       case measure => omega
    ·obtain rfl : nc = j := by omega
     have HGO : Hid (St.Goers s t (St.evG s t ++ M)) := Lib.hid ⟨M, rfl, by
      have h := HPM.out
      rw [← HNC.out, List.take_length] at h
      exact h, HSO.out⟩
     have HLE : Hid ((St.evG s t ++ M).length = ne + m) := Lib.hid (by rw [List.length_append, HNE.out, HM.out])
     have HOD := Lib.hid (HOW.out.down (show w.heap.size ≤ w4.heap.size by have := HS1.out; have := HS4.out; omega))
     have HBZ := Lib.hid (below_up HB1.out (below_up HB4.out hB))
     clear hB
     go_wp2_with fail
     go_ret
     refine ⟨_, gw, cw, HGO.out, ?_, ?_, HBZ.out⟩
     ·rw [HLE.out]; rfl
     ·rw [HLE.out]; exact HOD.out
end Go.Proofs.YthdiccdnggloiaaGreatDoor
